/- What these functions of the program compute, at every world: glosswright/hierarchy.Print, glosswright/glosswrightref4.Text. What these functions of the program compute, at every world: glosswright/hierarchy.Read$1$1, slices.IndexFunc[[]glosswright/api.Type,glosswright/api.Type], glosswright/hierarchy.Read$1. What the kit's shelf says of the library functions of this program, laid at its numbers. -/
import Derived.Test.YtegngekpmpdngaaDoorU
import Derived.Test.YtegngekpmpdngaaDoorGCan
import Derived.Test.YtegngekpmpdngaaDoorHtx
import Derived.Test.YtegngekpmpdngaaDoorNIeq
import Derived.Shelf.Strings.Search3
import Derived.Shelf.Strings.Count
import Derived.Test.YtegngekpmpdngaaDoorProg
namespace Go.Proofs.YtegngekpmpdngaaDoor
open Go.RowKit
theorem adL {p q : ByteArray} {a : Nat} (h : (bl p).length ≤ a) (k : q.size ≤ 200) (ha : a ≤ 200000 := by omega) : p.size + q.size ≤ 9223372036854775807 := by rw [bl_size] at h; omega
theorem ret_str2 {p q : ByteArray} (h : bl p = bl q) : Ending.returned (Value.string p) = .returned (.string q) := by rw [bl_ext h]
theorem fn41_HPrt : callable Tryd.prog 41 = true := by kernel_rfl
theorem fn60 : callable Tryd.prog 60 = true := by kernel_rfl
set_option maxRecDepth 100000 in
set_option maxHeartbeats 2000000 in
theorem hprint_any (A B : Option Addr) (c d : Nat) (l : List Ty) (fs : List Ft) (w : World) (hT : TypesIn w A l) (hF : FeatsIn w B fs) (hTab : TabIn w) : Calls Tryd.prog 25 #[.agg #[.slice A l.length c, .slice B fs.length d]] w fun e w' => (((hierFault l fs).1 ≠ 0 ∧ e = .returned (.tuple #[.string ⟨#[]⟩, .agg #[.int .i64 (hierFault l fs).1, .int .i64 (hierFault l fs).2]])) ∨ ((hierFault l fs).1 = 0 ∧ 4000 < (htx l fs).length ∧ e = .returned (.tuple #[.string ⟨#[]⟩, .agg #[.int .i64 1, .int .i64 (-1)]])) ∨ ((hierFault l fs).1 = 0 ∧ (htx l fs).length ≤ 4000 ∧ e = .returned (.tuple #[.string (mkS (htx l fs)), .agg #[.int .i64 0, .int .i64 0]]))) ∧ Bel w w' := by
 refine enter Tryd.func25 Tryd.ntmps25 rfl (Nat.le_of_ble_eq_true rfl) ?_
 have hB : Bel w w := Below.refl _ _
 refine c_seq (c_region ?_)
 refine wl_bx (v := .agg #[_, _]) (cs := #[_, _]) rfl rfl (fun b1 w1 hb1 hs hr => ?_)
 have lo1 := nLT (Bel.size hB) hr
 replace hB := hB.tr0 hs
 clear hs
 clear hr
 refine wl (r_as (v := .string _) rfl) ?_
 refine wl_al (cs := #[.int .i64 0, .int .i64 0]) ze35_GLoose rfl (fun b3 w2 hb3 hs hr => ?_)
 have or_b1_b3 : b1 < b3 := nLL hb1.lt hr
 have lo3 := nLT (Bel.size hB) hr
 replace hB := hB.tr0 hs
 replace hb1 := hb1.tr0 hs
 clear hs
 clear hr
 refine x_nil (e_S (c_seq (c_seq (c_region (wl (r_ldS U25 rfl rfl hb1.range0 sz25) ?_)))))
 refine wl_cl fn44 (validate_any A B c d l fs _ (hTab.mono hB) (hT.mono hB) (hF.mono hB)) rfl (fun e' w3 hr => ?_)
 obtain ⟨rfl, hs⟩ := hr
 replace hs := Same.of_bel hs
 replace hB := hB.tr0 hs
 replace hb1 := hb1.tr0 hs
 replace hb3 := hb3.tr0 hs
 clear hs
 refine ⟨_, rfl, ?_⟩
 refine wl_al (cs := #[.int .i64 0, .int .i64 0]) ze35_GLoose rfl (fun b4 w4 hb4 hs hr => ?_)
 have or_b1_b4 : b1 < b4 := nLL hb1.lt hr
 have or_b3_b4 : b3 < b4 := nLL hb3.lt hr
 have lo4 := nLT (Bel.size hB) hr
 replace hB := hB.tr0 hs
 replace hb1 := hb1.tr0 hs
 replace hb3 := hb3.tr0 hs
 clear hs
 clear hr
 refine wl_stW hb4 rfl rfl sz35_GLoose rfl oneA (fun w5 hq hs => ?_)
 replace hB := hB.tr1 hs lo4
 replace hb1 := hb1.tr1 hs om
 replace hb3 := hb3.tr1 hs om
 clear hs
 replace hb4 := hq
 refine x_nil (e_S (c_seq (c_region (wl (r_fa U35 sz3_GLoose dE rfl rfl rfl) (wl (r_ld1 (v := .int _ _) U3 rfl rfl (hb4.cell rfl)) ?_)))))
 refine wl (r_neq rfl rfl) (x_nil (e_S ?_))
 refine c_ifd rfl (fun c10 => ?_) (fun c10 => ?_)
 ·
  refine c_seq ?_
  refine c_all #[false, false, false] kR (by rfl) (fun w6 hs => ?_)
  replace hB := hB.tr0 hs
  replace hb1 := hb1.tr0 hs
  replace hb3 := hb3.tr0 hs
  replace hb4 := hb4.tr0 hs
  clear hs
  refine a_step [0, 1] kR rfl ⟨fun o hoq => ?_, fun o hoq => ?_, trivial⟩
  ·
   obtain rfl := sI hoq
   refine wl (r_ldS U35 rfl rfl hb4.range0 sz35_GLoose) (x_nil (e_A (listed' := #[true, false, false]) (by rfl) ?_))
   refine a_step [1] kR rfl ⟨fun o hoq => ?_, trivial⟩
   obtain rfl := sI hoq
   refine wl (r_as (v := .string _) rfl) (x_nil (e_A (listed' := #[true, true, false]) (by rfl) ?_))
   refine a_step [2] kR rfl ⟨fun o hoq => ?_, trivial⟩
   obtain rfl := sI hoq
   refine wl_stW hb3 rfl rfl sz35_GLoose rfl oneA (fun w7 hq hs => ?_)
   replace hB := hB.tr1 hs lo3
   replace hb1 := hb1.tr1 hs om
   replace hb4 := hb4.tr1 hs om
   clear hs
   replace hb3 := hq
   refine x_nil (e_A (listed' := #[true, true, true]) (by rfl) (a_end kR (e_S (c_ret (e_Sr ?_)))))
   refine fin2 (.inl rfl) rfl rfl (rr_cell U35 rfl rfl hb3.range0 sz35_GLoose) ?_
   exact ⟨.inl ⟨c10, rfl⟩, hB⟩
  obtain rfl := sI hoq
  refine wl (r_as (v := .string _) rfl) (x_nil (e_A (listed' := #[false, true, false]) (by rfl) ?_))
  refine a_step [0] kR rfl ⟨fun o hoq => ?_, trivial⟩
  obtain rfl := sI hoq
  refine wl (r_ldS U35 rfl rfl hb4.range0 sz35_GLoose) (x_nil (e_A (listed' := #[true, true, false]) (by rfl) ?_))
  refine a_step [2] kR rfl ⟨fun o hoq => ?_, trivial⟩
  obtain rfl := sI hoq
  refine wl_stW hb3 rfl rfl sz35_GLoose rfl oneA (fun w8 hq hs => ?_)
  replace hB := hB.tr1 hs lo3
  replace hb1 := hb1.tr1 hs om
  replace hb4 := hb4.tr1 hs om
  clear hs
  replace hb3 := hq
  refine x_nil (e_A (listed' := #[true, true, true]) (by rfl) (a_end kR (e_S (c_ret (e_Sr ?_)))))
  refine fin2 (.inl rfl) rfl rfl (rr_cell U35 rfl rfl hb3.range0 sz35_GLoose) ?_
  exact ⟨.inl ⟨c10, rfl⟩, hB⟩
 have h0 := Decidable.not_not.1 c10
 refine c_skip (e_S (c_seq (c_region (wl (r_ldS U25 rfl rfl hb1.range0 sz25) ?_))))
 refine wl_cl fn60 (htext_any A B c d l fs _ (hT.mono hB) (hF.mono hB) (hv_of h0)) rfl (fun e' w9 hr => ?_)
 obtain ⟨rfl, hs⟩ := hr
 replace hs := Same.of_bel hs
 replace hB := hB.tr0 hs
 replace hb1 := hb1.tr0 hs
 replace hb3 := hb3.tr0 hs
 replace hb4 := hb4.tr0 hs
 clear hs
 refine ⟨_, rfl, ?_⟩
 refine wl (r_as (v := .string _) rfl) (x_nil (e_S (c_seq (c_seq ?_))))
 have hsz : (mkS (htx l fs)).size = (htx l fs).length := by rw [← bl_size]; rfl
 refine c_region (wl (r_mv (v := .string _) rfl) (wl (r_lenS U9 rfl) (wl (r_gtr rfl rfl) (x_nil (e_S ?_)))))
 refine c_ifd rfl (fun c16 => ?_) (fun c16 => ?_)
 ·
  refine c_seq (c_region ?_)
  refine wl_cl fn41_HPrt (fault_any _ _ _) rfl (fun e' w10 hr => ?_)
  obtain ⟨rfl, hs⟩ := hr
  replace hs := Same.of_bel hs
  replace hB := hB.tr0 hs
  replace hb1 := hb1.tr0 hs
  replace hb3 := hb3.tr0 hs
  replace hb4 := hb4.tr0 hs
  clear hs
  refine ⟨_, rfl, ?_⟩
  refine wl (r_as (v := .string _) rfl) ?_
  refine wl_stW hb3 rfl rfl sz35_GLoose rfl oneA (fun w11 hq hs => ?_)
  replace hB := hB.tr1 hs lo3
  replace hb1 := hb1.tr1 hs om
  replace hb4 := hb4.tr1 hs om
  clear hs
  replace hb3 := hq
  refine x_nil (e_S (c_ret (e_Sr (fin2 (.inl rfl) rfl rfl (rr_cell U35 rfl rfl hb3.range0 sz35_GLoose) ?_))))
  exact ⟨.inr (.inl ⟨h0, by omega, rfl⟩), hB⟩
 refine c_skip (e_S (c_seq (c_region (wl (r_mv (v := .string _) rfl) (wl (r_bd (vs := #[]) (cs := #[.int .i64 0, .int .i64 0]) (by simp) kR) ?_)))))
 refine wl (r_as (v := .string _) rfl) ?_
 refine wl_stW hb3 rfl rfl sz35_GLoose rfl oneA (fun w12 hq hs => ?_)
 replace hB := hB.tr1 hs lo3
 replace hb1 := hb1.tr1 hs om
 replace hb4 := hb4.tr1 hs om
 clear hs
 replace hb3 := hq
 refine x_nil (e_S (c_ret (fin2 (.inl rfl) rfl rfl (rr_cell U35 rfl rfl hb3.range0 sz35_GLoose) ?_)))
 exact ⟨.inr (.inr ⟨h0, by omega, rfl⟩), hB⟩
set_option maxRecDepth 100000 in
set_option maxHeartbeats 4000000 in
theorem rtext_any (A B : Option Addr) (c d : Nat) (l : List Ty) (fs : List Ft) (w : World) (hT : TypesIn w A l) (hF : FeatsIn w B fs) (hv : HV l fs) : Calls Tryd.prog 28 #[.agg #[.slice A l.length c, .slice B fs.length d]] w fun e w' => e = .returned (.string (mkS (htx l fs))) ∧ Bel w w' := by
 have h60 := hv.le
 have h40 := hv.few
 refine enter Tryd.func28 Tryd.ntmps28 rfl (Nat.le_of_ble_eq_true rfl) ?_
 have hB : Bel w w := Below.refl _ _
 refine c_seq (c_region ?_)
 refine wl_bx (v := .agg #[_, _]) (cs := #[_, _]) rfl rfl (fun b1 w1 hb1 hs hr => ?_)
 have lo1 := nLT (Bel.size hB) hr
 replace hB := hB.tr0 hs
 clear hs
 clear hr
 refine wl (r_as (v := .string _) rfl) (x_nil (e_S (c_seq (c_region (wl (r_as (v := .string _) rfl) ?_)))))
 refine x_nil (e_S (c_seq (c_seq (c_region (wl (r_fa U25 sz22_GLoose dE rfl rfl rfl) ?_)))))
 refine wl (r_ld1 (v := .slice _ _ _) U22 rfl rfl (hb1.cell rfl)) (wl (r_len U22 rfl) (wmI rfl (x_nil (e_S (c_block ?_)))))
 refine c_loopS [3, 5, 7, 13, 14, 15, 16, 17, 18, 19, 20, 21, 22, 23, 24, 25, 26, 27, 28, 29, 30, 31, 32, 33, 34, 35, 36, 37, 38, 39, 40, 41] (fun m g w' => ∃ (k : Nat) (S : ByteArray), k ≤ l.length ∧ m = l.length - k ∧ g 13 = .int .i64 k ∧ g 3 = .string S ∧ bl S = tyX l k ∧ Bel w w' ∧ Blk w' b1 25 #[.slice A l.length c, .slice B fs.length d]) (l.length) ?_ (fun m g3 w2 hI => ?_)
 ·
  exact ⟨0, ⟨#[]⟩, Nat.zero_le _, rfl, rfl, rfl, rfl, hB, hb1⟩
 obtain ⟨k, S, hk, hm, h13, h3, hSb, hB, hb1⟩ := hI
 refine c_know 13 (.int .i64 k) h13 nu (c_know 3 (.string S) h3 nu (c_seq (c_region (wl (r_lss rfl rfl) (x_nil ?_)))))
 refine e_S (c_seq ?_)
 refine c_ifd rfl (fun c14 => ?_) (fun c14 => ?_)
 ·
  have hlt : k < l.length := by omega
  obtain ⟨lb, lof, PA, pcap, rfl, hlb, hlr, hpi⟩ := hT.at_ (Below.refl _ _ : Bel w w) hlt
  have hnk := nm_len (hv.ty k hlt).1
  have hxl := hv.tyXl k om
  have hpl := hpi.1
  unfold maxI at hpl
  have hSl : (bl S).length ≤ 120000 := by rw [hSb]; omega
  have zk := sz_le hnk
  have zz := apl (p := (⟨#[116, 121, 112, 101, 32]⟩ : ByteArray)) (Nat.le_refl 5) zk
  refine c_skip (e_S (c_seq (c_block (c_seq (c_region ?_)))))
  refine wl (r_ia (i := k) U22 sz77_HTxt rfl rfl om rfl) (wl (r_ldS U77 rfl rfl (hB.range hlb hlr) sz77_HTxt) ?_)
  refine wl_al (cs := #[.string ⟨#[]⟩, .slice none 0 0]) ze77_HTxt rfl (fun b5 w3 hb5 hs hr => ?_)
  have or_b1_b5 : b1 < b5 := nLL hb1.lt hr
  have lo5 := nLT (Bel.size hB) hr
  replace hB := hB.tr0 hs
  replace hb1 := hb1.tr0 hs
  clear hs
  clear hr
  refine wl_stW hb5 rfl rfl sz77_HTxt rfl oneA (fun w4 hq hs => ?_)
  replace hB := hB.tr1 hs lo5
  replace hb1 := hb1.tr1 hs om
  clear hs
  replace hb5 := hq
  refine x_nil (e_S (c_seq (c_region (wl (r_mv (v := .string _) rfl) (wl (r_fa U77 sz9_HTxt dE rfl rfl rfl) ?_)))))
  refine wl (r_ld1 (v := .string _) U9 rfl rfl (hb5.cell rfl)) (wl (r_addS rfl rfl (ad5 hnk)) (wl (r_addS rfl rfl (adL hSl (nLT zz dE))) (wl (r_as (v := .string _) rfl) (x_nil (e_S ?_)))))
  refine c_seq (c_seq (c_region (wl (r_fa U77 sz43_GVisit dE rfl rfl rfl) (wl (r_ld1 (v := .slice _ _ _) U43 rfl rfl (hb5.cell rfl)) (wl (r_len U43 rfl) ?_)))))
  refine wmI rfl (x_nil (e_S (c_block ?_)))
  refine c_loopS [3, 7, 25, 26, 27, 28, 29, 30, 31, 32, 33, 34, 35, 36, 37, 38] (fun m g w' => ∃ (j : Nat) (S : ByteArray), j ≤ (l[k]'hlt).par.length ∧ m = (l[k]'hlt).par.length - j ∧ g 25 = .int .i64 j ∧ g 3 = .string S ∧ bl S = tyX l k ++ lineB TYb (bl (l[k]'hlt).name :: ((l[k]'hlt).par.take j).map (nmI l)) ∧ Bel w w' ∧ Blk w' b1 25 #[.slice (some ⟨lb, lof, none⟩) l.length c, .slice B fs.length d] ∧ Blk w' b5 77 #[.string (l[k]'hlt).name, .slice PA (l[k]'hlt).par.length pcap]) ((l[k]'hlt).par.length) ?_ (fun m g7 w5 hI => ?_)
  ·
   exact ⟨0, _, Nat.zero_le _, rfl, rfl, rfl, by rw [bl_app, bl_app, hSb, lb0], hB, hb1, hb5⟩
  obtain ⟨j, S, hj, hmj, h25, h3, hSb, hB, hb1, hb5⟩ := hI
  refine c_know 25 (.int .i64 j) h25 nu (c_know 3 (.string S) h3 nu (c_seq (c_region (wl (r_lss rfl rfl) (x_nil ?_)))))
  refine e_S (c_seq ?_)
  refine c_ifd rfl (fun c26 => ?_) (fun c26 => ?_)
  ·
   have hjl : j < (l[k]'hlt).par.length := by omega
   obtain ⟨pb, po, rfl, hpb, hpr⟩ := hpi.at_ hjl
   have hpr0 := (hv.par hlt).2 _ (List.getElem_mem hjl)
   obtain ⟨p, hp, hpk⟩ : ∃ z : Nat, ((l[k]'hlt).par[j]'hjl) = (z : Int) ∧ z < l.length := ⟨(((l[k]'hlt).par[j]'hjl)).toNat, by omega, by omega⟩
   rw [hp] at hpr
   obtain ⟨qb, qo, QA, qc, hqe, hqb, hqr, _⟩ := hT.at_ (Below.refl _ _ : Bel w w) hpk
   cases hqe
   have hnq := hv.nmL ((p : Nat) : Int)
   rw [nmI_at rfl hpk] at hnq
   have hlj := hv.tyC hlt j
   have htk : lineB TYb (bl (l[k]'hlt).name :: ((l[k]'hlt).par.take (j + 1)).map (nmI l)) = lineB TYb (bl (l[k]'hlt).name :: ((l[k]'hlt).par.take j).map (nmI l)) ++ 32 :: bl (l[p]'hpk).name := by
     rw [List.take_succ_eq_append_getElem hjl, List.map_append, List.map_cons, List.map_nil, ← List.cons_append, lineB_snoc, hp, nmI_at rfl hpk]
   have hSl : (bl S).length ≤ 120000 := by rw [hSb, List.length_append]; omega
   have zq := apl (p := (⟨#[32]⟩ : ByteArray)) (Nat.le_refl 1) (sz_le hnq)
   refine c_skip (e_S (c_seq (c_block (c_seq (c_region ?_)))))
   refine wl (r_ia (i := j) U43 sz3_GLoose rfl rfl om rfl) (wl (r_ld1 (v := .int _ _) U3 rfl rfl (hB.cell hpb hpr)) (waI rfl (x_nil (e_S (c_region ?_)))))
   refine wl (r_mv (v := .string _) rfl) (wl (r_fa U25 sz22_GLoose dE rfl rfl rfl) (wl (r_ld1 (v := .slice _ _ _) U22 rfl rfl (hb1.cell rfl)) (wmI rfl (wl (r_ia (i := p) U22 sz77_HTxt rfl rfl hpk rfl) (wl (r_fa U77 sz9_HTxt dE rfl rfl rfl) ?_)))))
   refine wl (r_ld1 (v := .string _) U9 rfl rfl (hB.cell hqb (hqr 0 _ rfl))) (wl (r_addS rfl rfl (ad1 hnq)) (wl (r_addS rfl rfl (adL hSl (nLT zq dE))) (wl (r_as (v := .string _) rfl) (x_nil (e_B ?_)))))
   refine e_S (c_region (wl (r_add rfl rfl rfl om) (wmI rfl (x_nil (e_LS ((l[k]'hlt).par.length - (j + 1)) om agA ?_)))))
   exact ⟨j + 1, _, by omega, rfl, rfl, rfl, by rw [bl_app, bl_app, hSb, htk, List.append_assoc]; rfl, hB, hb1, hb5⟩
  have hjx : j = (l[k]'hlt).par.length := by omega
  have hall : tyX l (k + 1) = tyX l k ++ lineB TYb (bl (l[k]'hlt).name :: ((l[k]'hlt).par.take j).map (nmI l)) ++ [10] := by
    rw [tyX_succ hlt, hjx, List.take_length, List.append_assoc]
    rfl
  have hlj := hv.tyC hlt j
  have hSl : (bl S).length ≤ 120000 := by rw [hSb, List.length_append]; omega
  refine c_exit (e_Sx (e_LSx (e_Bx (e_S (c_region ?_)))))
  refine wl (r_mv (v := .string _) rfl) (wl (r_addS rfl rfl (adL hSl (show 1 ≤ 200 by decide))) (wl (r_as (v := .string _) rfl) (x_nil (e_B (e_S ?_)))))
  refine c_region (wl (r_add rfl rfl rfl om) (wmI rfl (x_nil (e_LS (l.length - (k + 1)) om agA ?_))))
  exact ⟨k + 1, _, by omega, rfl, rfl, rfl, by rw [bl_app, hSb, hall]; rfl, hB, hb1⟩
 have hke : k = l.length := by omega
 subst hke
 rw [← ftX_zero (fs := fs)] at hSb
 refine c_exit (e_Sx (e_LSx (e_Bx (e_S (c_seq ?_)))))
 refine c_seq (c_region (wl (r_fa U25 sz23_GLoose dE rfl rfl rfl) (wl (r_ld1 (v := .slice _ _ _) U23 rfl rfl (hb1.cell rfl)) (wl (r_len U23 rfl) (wmI rfl ?_)))))
 refine x_nil (e_S (c_block ?_))
 refine c_loopS [3, 9, 45, 46, 47, 48, 49, 50, 51, 52, 53, 54, 55, 56, 57, 58, 59, 60, 61, 62, 63, 64, 65, 66, 67, 68, 69, 70, 71, 72, 73] (fun m g w' => ∃ (k : Nat) (S : ByteArray), k ≤ fs.length ∧ m = fs.length - k ∧ g 45 = .int .i64 k ∧ g 3 = .string S ∧ bl S = ftX l fs k ∧ Bel w w' ∧ Blk w' b1 25 #[.slice A l.length c, .slice B fs.length d]) (fs.length) ?_ (fun m g14 w6 hI => ?_)
 ·
  exact ⟨0, _, Nat.zero_le _, rfl, rfl, rfl, hSb, hB, hb1⟩
 obtain ⟨k, S, hk, hm, h45, h3, hSb, hB, hb1⟩ := hI
 refine c_know 45 (.int .i64 k) h45 nu (c_know 3 (.string S) h3 nu (c_seq (c_region (wl (r_lss rfl rfl) (x_nil ?_)))))
 refine e_S (c_seq ?_)
 refine c_ifd rfl (fun c46 => ?_) (fun c46 => ?_)
 ·
  have hlt : k < fs.length := by omega
  obtain ⟨fb, fo, rfl, hfb, hfr⟩ := hF.at_ (Below.refl _ _ : Bel w w) hlt
  have hff := hv.feat hlt
  have hnk := nm_len (hv.ft k hlt).1
  have hxl := hv.ftXl k om
  obtain ⟨on, hon, honl⟩ : ∃ z : Nat, (fs[k]'hlt).of = (z : Int) ∧ z < l.length := ⟨((fs[k]'hlt).of).toNat, by omega, by omega⟩
  obtain ⟨vn, hvn, hvnl⟩ : ∃ z : Nat, (fs[k]'hlt).val = (z : Int) ∧ z < l.length := ⟨((fs[k]'hlt).val).toNat, by omega, by omega⟩
  obtain ⟨ob, oo, OA, oc, rfl, hob, hor, _⟩ := hT.at_ (Below.refl _ _ : Bel w w) honl
  obtain ⟨vb, vo, VA, vc, hve, hvb, hvr, _⟩ := hT.at_ (Below.refl _ _ : Bel w w) hvnl
  cases hve
  have hno := nm_len (hv.ty on honl).1
  have hnv := nm_len (hv.ty vn hvnl).1
  have hfx : ftX l fs (k + 1) = ftX l fs k ++ bl ((⟨#[102, 101, 97, 116, 32]⟩ : ByteArray) ++ (fs[k]'hlt).name ++ (⟨#[32]⟩ : ByteArray) ++ (l[on]'honl).name ++ (⟨#[32]⟩ : ByteArray) ++ (l[vn]'hvnl).name ++ (⟨#[10]⟩ : ByteArray)) := by
    rw [ftX_succ hlt]
    unfold fdL fdW lineB
    rw [hon, hvn, nmI_at rfl honl, nmI_at rfl hvnl]
    simp only [bl_app, List.flatMap_cons, List.flatMap_nil, List.append_nil, List.append_assoc, List.cons_append]
    rfl
  have hSl : (bl S).length ≤ 120000 := by rw [hSb]; omega
  refine c_skip (e_S (c_seq (c_block (c_seq (c_region ?_)))))
  refine wl (r_ia (i := k) U23 sz63_GVal rfl rfl om rfl) (wl (r_ldS U63 rfl rfl (hB.range hfb hfr) sz63_GVal) ?_)
  refine wl_al (cs := #[.string ⟨#[]⟩, .int .i64 0, .int .i64 0]) ze63_GVal rfl (fun b9 w7 hb9 hs hr => ?_)
  have or_b1_b9 : b1 < b9 := nLL hb1.lt hr
  have lo9 := nLT (Bel.size hB) hr
  replace hB := hB.tr0 hs
  replace hb1 := hb1.tr0 hs
  clear hs
  clear hr
  refine wl_stW hb9 rfl rfl sz63_GVal rfl oneA (fun w8 hq hs => ?_)
  replace hB := hB.tr1 hs lo9
  replace hb1 := hb1.tr1 hs om
  clear hs
  replace hb9 := hq
  refine x_nil (e_S ?_)
  rw [hon, hvn] at hb9
  have zk := sz_le hnk
  have zo := sz_le hno
  have zv := sz_le hnv
  have z1 := apl (p := (⟨#[102, 101, 97, 116, 32]⟩ : ByteArray)) (Nat.le_refl 5) zk
  have z2 := apl (q := (⟨#[32]⟩ : ByteArray)) z1 (Nat.le_refl 1)
  have z3 := apl z2 zo
  have z4 := apl (q := (⟨#[32]⟩ : ByteArray)) z3 (Nat.le_refl 1)
  have z5 := apl z4 zv
  have z6 := apl (q := (⟨#[10]⟩ : ByteArray)) z5 (Nat.le_refl 1)
  refine c_monoTO 24 [49, 50, 51, 52, 53, 54, 55, 56, 57, 58, 59, 60, 61, 62, 63, 64, 65, 66, 67, 68, 69, 70, 71, 72] (fun _ => false) (fun ix v wv => match ix with | 0 => v = .string S | 1 => v = .pointer (some ⟨b9, 0, none⟩) | 2 => v = .string (fs[k]'hlt).name | 3 => v = .string ((⟨#[102, 101, 97, 116, 32]⟩ : ByteArray) ++ (fs[k]'hlt).name) | 4 => v = .string ((⟨#[102, 101, 97, 116, 32]⟩ : ByteArray) ++ (fs[k]'hlt).name ++ (⟨#[32]⟩ : ByteArray)) | 5 => v = .pointer (some ⟨b1, 0, none⟩) | 6 => v = .slice (some ⟨ob, oo, none⟩) l.length c | 7 => v = .pointer (some ⟨b9, 1, none⟩) | 8 => v = .int .i64 ((on : Nat) : Int) | 9 => v = .pointer (some ⟨ob, oo + on * 2, none⟩) | 10 => v = .pointer (some ⟨ob, oo + on * 2 + 0, none⟩) | 11 => v = .string (l[on]'honl).name | 12 => v = .string ((⟨#[102, 101, 97, 116, 32]⟩ : ByteArray) ++ (fs[k]'hlt).name ++ (⟨#[32]⟩ : ByteArray) ++ (l[on]'honl).name) | 13 => v = .string ((⟨#[102, 101, 97, 116, 32]⟩ : ByteArray) ++ (fs[k]'hlt).name ++ (⟨#[32]⟩ : ByteArray) ++ (l[on]'honl).name ++ (⟨#[32]⟩ : ByteArray)) | 14 => v = .pointer (some ⟨b1, 0, none⟩) | 15 => v = .slice (some ⟨ob, oo, none⟩) l.length c | 16 => v = .pointer (some ⟨b9, 2, none⟩) | 17 => v = .int .i64 ((vn : Nat) : Int) | 18 => v = .pointer (some ⟨ob, oo + vn * 2, none⟩) | 19 => v = .pointer (some ⟨ob, oo + vn * 2 + 0, none⟩) | 20 => v = .string (l[vn]'hvnl).name | 21 => v = .string ((⟨#[102, 101, 97, 116, 32]⟩ : ByteArray) ++ (fs[k]'hlt).name ++ (⟨#[32]⟩ : ByteArray) ++ (l[on]'honl).name ++ (⟨#[32]⟩ : ByteArray) ++ (l[vn]'hvnl).name) | 22 => v = .string ((⟨#[102, 101, 97, 116, 32]⟩ : ByteArray) ++ (fs[k]'hlt).name ++ (⟨#[32]⟩ : ByteArray) ++ (l[on]'honl).name ++ (⟨#[32]⟩ : ByteArray) ++ (l[vn]'hvnl).name ++ (⟨#[10]⟩ : ByteArray)) | 23 => v = .string (S ++ ((⟨#[102, 101, 97, 116, 32]⟩ : ByteArray) ++ (fs[k]'hlt).name ++ (⟨#[32]⟩ : ByteArray) ++ (l[on]'honl).name ++ (⟨#[32]⟩ : ByteArray) ++ (l[vn]'hvnl).name ++ (⟨#[10]⟩ : ByteArray))) | _ => True) kR kR ?_ ?_ ?_
  ·
   intro ix v wv wv2 h hs
   match ix, h with
   | 0, h => exact h
   | 1, h => exact h
   | 2, h => exact h
   | 3, h => exact h
   | 4, h => exact h
   | 5, h => exact h
   | 6, h => exact h
   | 7, h => exact h
   | 8, h => exact h
   | 9, h => exact h
   | 10, h => exact h
   | 11, h => exact h
   | 12, h => exact h
   | 13, h => exact h
   | 14, h => exact h
   | 15, h => exact h
   | 16, h => exact h
   | 17, h => exact h
   | 18, h => exact h
   | 19, h => exact h
   | 20, h => exact h
   | 21, h => exact h
   | 22, h => exact h
   | 23, h => exact h
   | _ + 24, h => exact trivial
  ·
   intro ix o hix hoq gg wx hs hd hdis
   match ix, hix, hoq with
   | 0, _, hoq =>
    obtain rfl := sI hoq
    have hs0 := hs
    clear hs
    refine os_rv (r_mv (v := .string _) rfl) ⟨Same.refl _ _, ?_, frsh_no⟩
    exact rfl
   | 1, _, hoq =>
    obtain rfl := sI hoq
    have hs0 := hs
    replace hb9 := hb9.tr0 hs
    clear hs
    refine os_rv (r_fa U63 sz9_HTxt dE rfl rfl rfl) ⟨Same.refl _ _, ?_, frsh_no⟩
    exact rfl
   | 2, _, hoq =>
    obtain rfl := sI hoq
    have hs0 := hs
    replace hb9 := hb9.tr0 hs
    clear hs
    have d1 : gg 50 = .pointer (some ⟨b9, 0, none⟩) := hd 1 (dep_of kR)
    have e50 := d1
    refine os_know 50 (.pointer (some ⟨b9, 0, none⟩)) e50 nu ?_
    refine os_rv (r_ld1 (v := .string _) U9 rfl rfl (hb9.cell rfl)) ⟨Same.refl _ _, ?_, frsh_no⟩
    exact rfl
   | 3, _, hoq =>
    obtain rfl := sI hoq
    have hs0 := hs
    clear hs
    have d2 : gg 51 = .string (fs[k]'hlt).name := hd 2 (dep_of kR)
    have e51 := d2
    refine os_know 51 (.string (fs[k]'hlt).name) e51 nu ?_
    refine os_rv (r_addS rfl rfl (adG (Nat.le_refl 5) zk dE)) ⟨Same.refl _ _, ?_, frsh_no⟩
    exact rfl
   | 4, _, hoq =>
    obtain rfl := sI hoq
    have hs0 := hs
    clear hs
    have d3 : gg 52 = .string ((⟨#[102, 101, 97, 116, 32]⟩ : ByteArray) ++ (fs[k]'hlt).name) := hd 3 (dep_of kR)
    have e52 := d3
    refine os_know 52 (.string ((⟨#[102, 101, 97, 116, 32]⟩ : ByteArray) ++ (fs[k]'hlt).name)) e52 nu ?_
    refine os_rv (r_addS rfl rfl (adG z1 (Nat.le_refl 1) dE)) ⟨Same.refl _ _, ?_, frsh_no⟩
    exact rfl
   | 5, _, hoq =>
    obtain rfl := sI hoq
    have hs0 := hs
    replace hb1 := hb1.tr0 hs
    clear hs
    refine os_rv (r_fa U25 sz22_GLoose dE rfl rfl rfl) ⟨Same.refl _ _, ?_, frsh_no⟩
    exact rfl
   | 6, _, hoq =>
    obtain rfl := sI hoq
    have hs0 := hs
    replace hb1 := hb1.tr0 hs
    clear hs
    have d5 : gg 54 = .pointer (some ⟨b1, 0, none⟩) := hd 5 (dep_of kR)
    have e54 := d5
    refine os_know 54 (.pointer (some ⟨b1, 0, none⟩)) e54 nu ?_
    refine os_rv (r_ld1 (v := .slice _ _ _) U22 rfl rfl (hb1.cell rfl)) ⟨Same.refl _ _, ?_, frsh_no⟩
    exact rfl
   | 7, _, hoq =>
    obtain rfl := sI hoq
    have hs0 := hs
    replace hb9 := hb9.tr0 hs
    clear hs
    refine os_rv (r_fa U63 sz3_GLoose dE rfl rfl rfl) ⟨Same.refl _ _, ?_, frsh_no⟩
    exact rfl
   | 8, _, hoq =>
    obtain rfl := sI hoq
    have hs0 := hs
    replace hb9 := hb9.tr0 hs
    clear hs
    have d7 : gg 56 = .pointer (some ⟨b9, 1, none⟩) := hd 7 (dep_of kR)
    have e56 := d7
    refine os_know 56 (.pointer (some ⟨b9, 1, none⟩)) e56 nu ?_
    refine os_rv (r_ld1 (v := .int _ _) U3 rfl rfl (hb9.cell rfl)) ⟨Same.refl _ _, ?_, frsh_no⟩
    exact rfl
   | 9, _, hoq =>
    obtain rfl := sI hoq
    have hs0 := hs
    clear hs
    have d6 : gg 55 = .slice (some ⟨ob, oo, none⟩) l.length c := hd 6 (dep_of kR)
    have e55 := d6
    have d8 : gg 57 = .int .i64 ((on : Nat) : Int) := hd 8 (dep_of kR)
    have e57 := d8
    refine os_know 55 (.slice (some ⟨ob, oo, none⟩) l.length c) e55 nu (os_know 57 (.int .i64 ((on : Nat) : Int)) e57 nu ?_)
    refine os_rv (r_ia (i := on) U22 sz77_HTxt rfl rfl honl rfl) ⟨Same.refl _ _, ?_, frsh_no⟩
    exact rfl
   | 10, _, hoq =>
    obtain rfl := sI hoq
    have hs0 := hs
    clear hs
    have d9 : gg 58 = .pointer (some ⟨ob, oo + on * 2, none⟩) := hd 9 (dep_of kR)
    have e58 := d9
    refine os_know 58 (.pointer (some ⟨ob, oo + on * 2, none⟩)) e58 nu ?_
    refine os_rv (r_fa U77 sz9_HTxt dE rfl rfl rfl) ⟨Same.refl _ _, ?_, frsh_no⟩
    exact rfl
   | 11, _, hoq =>
    obtain rfl := sI hoq
    have hs0 := hs
    replace hB := hB.tr0 hs
    clear hs
    have d10 : gg 59 = .pointer (some ⟨ob, oo + on * 2 + 0, none⟩) := hd 10 (dep_of kR)
    have e59 := d10
    refine os_know 59 (.pointer (some ⟨ob, oo + on * 2 + 0, none⟩)) e59 nu ?_
    refine os_rv (r_ld1 (v := .string _) U9 rfl rfl (hB.cell hob (hor 0 _ rfl))) ⟨Same.refl _ _, ?_, frsh_no⟩
    exact rfl
   | 12, _, hoq =>
    obtain rfl := sI hoq
    have hs0 := hs
    clear hs
    have d4 : gg 53 = .string ((⟨#[102, 101, 97, 116, 32]⟩ : ByteArray) ++ (fs[k]'hlt).name ++ (⟨#[32]⟩ : ByteArray)) := hd 4 (dep_of kR)
    have e53 := d4
    have d11 : gg 60 = .string (l[on]'honl).name := hd 11 (dep_of kR)
    have e60 := d11
    refine os_know 53 (.string ((⟨#[102, 101, 97, 116, 32]⟩ : ByteArray) ++ (fs[k]'hlt).name ++ (⟨#[32]⟩ : ByteArray))) e53 nu (os_know 60 (.string (l[on]'honl).name) e60 nu ?_)
    refine os_rv (r_addS rfl rfl (adG z2 zo dE)) ⟨Same.refl _ _, ?_, frsh_no⟩
    exact rfl
   | 13, _, hoq =>
    obtain rfl := sI hoq
    have hs0 := hs
    clear hs
    have d12 : gg 61 = .string ((⟨#[102, 101, 97, 116, 32]⟩ : ByteArray) ++ (fs[k]'hlt).name ++ (⟨#[32]⟩ : ByteArray) ++ (l[on]'honl).name) := hd 12 (dep_of kR)
    have e61 := d12
    refine os_know 61 (.string ((⟨#[102, 101, 97, 116, 32]⟩ : ByteArray) ++ (fs[k]'hlt).name ++ (⟨#[32]⟩ : ByteArray) ++ (l[on]'honl).name)) e61 nu ?_
    refine os_rv (r_addS rfl rfl (adG z3 (Nat.le_refl 1) dE)) ⟨Same.refl _ _, ?_, frsh_no⟩
    exact rfl
   | 14, _, hoq =>
    obtain rfl := sI hoq
    have hs0 := hs
    replace hb1 := hb1.tr0 hs
    clear hs
    refine os_rv (r_fa U25 sz22_GLoose dE rfl rfl rfl) ⟨Same.refl _ _, ?_, frsh_no⟩
    exact rfl
   | 15, _, hoq =>
    obtain rfl := sI hoq
    have hs0 := hs
    replace hb1 := hb1.tr0 hs
    clear hs
    have d14 : gg 63 = .pointer (some ⟨b1, 0, none⟩) := hd 14 (dep_of kR)
    have e63 := d14
    refine os_know 63 (.pointer (some ⟨b1, 0, none⟩)) e63 nu ?_
    refine os_rv (r_ld1 (v := .slice _ _ _) U22 rfl rfl (hb1.cell rfl)) ⟨Same.refl _ _, ?_, frsh_no⟩
    exact rfl
   | 16, _, hoq =>
    obtain rfl := sI hoq
    have hs0 := hs
    replace hb9 := hb9.tr0 hs
    clear hs
    refine os_rv (r_fa U63 sz3_GLoose dE rfl rfl rfl) ⟨Same.refl _ _, ?_, frsh_no⟩
    exact rfl
   | 17, _, hoq =>
    obtain rfl := sI hoq
    have hs0 := hs
    replace hb9 := hb9.tr0 hs
    clear hs
    have d16 : gg 65 = .pointer (some ⟨b9, 2, none⟩) := hd 16 (dep_of kR)
    have e65 := d16
    refine os_know 65 (.pointer (some ⟨b9, 2, none⟩)) e65 nu ?_
    refine os_rv (r_ld1 (v := .int _ _) U3 rfl rfl (hb9.cell rfl)) ⟨Same.refl _ _, ?_, frsh_no⟩
    exact rfl
   | 18, _, hoq =>
    obtain rfl := sI hoq
    have hs0 := hs
    clear hs
    have d15 : gg 64 = .slice (some ⟨ob, oo, none⟩) l.length c := hd 15 (dep_of kR)
    have e64 := d15
    have d17 : gg 66 = .int .i64 ((vn : Nat) : Int) := hd 17 (dep_of kR)
    have e66 := d17
    refine os_know 64 (.slice (some ⟨ob, oo, none⟩) l.length c) e64 nu (os_know 66 (.int .i64 ((vn : Nat) : Int)) e66 nu ?_)
    refine os_rv (r_ia (i := vn) U22 sz77_HTxt rfl rfl hvnl rfl) ⟨Same.refl _ _, ?_, frsh_no⟩
    exact rfl
   | 19, _, hoq =>
    obtain rfl := sI hoq
    have hs0 := hs
    clear hs
    have d18 : gg 67 = .pointer (some ⟨ob, oo + vn * 2, none⟩) := hd 18 (dep_of kR)
    have e67 := d18
    refine os_know 67 (.pointer (some ⟨ob, oo + vn * 2, none⟩)) e67 nu ?_
    refine os_rv (r_fa U77 sz9_HTxt dE rfl rfl rfl) ⟨Same.refl _ _, ?_, frsh_no⟩
    exact rfl
   | 20, _, hoq =>
    obtain rfl := sI hoq
    have hs0 := hs
    replace hB := hB.tr0 hs
    clear hs
    have d19 : gg 68 = .pointer (some ⟨ob, oo + vn * 2 + 0, none⟩) := hd 19 (dep_of kR)
    have e68 := d19
    refine os_know 68 (.pointer (some ⟨ob, oo + vn * 2 + 0, none⟩)) e68 nu ?_
    refine os_rv (r_ld1 (v := .string _) U9 rfl rfl (hB.cell hvb (hvr 0 _ rfl))) ⟨Same.refl _ _, ?_, frsh_no⟩
    exact rfl
   | 21, _, hoq =>
    obtain rfl := sI hoq
    have hs0 := hs
    clear hs
    have d13 : gg 62 = .string ((⟨#[102, 101, 97, 116, 32]⟩ : ByteArray) ++ (fs[k]'hlt).name ++ (⟨#[32]⟩ : ByteArray) ++ (l[on]'honl).name ++ (⟨#[32]⟩ : ByteArray)) := hd 13 (dep_of kR)
    have e62 := d13
    have d20 : gg 69 = .string (l[vn]'hvnl).name := hd 20 (dep_of kR)
    have e69 := d20
    refine os_know 62 (.string ((⟨#[102, 101, 97, 116, 32]⟩ : ByteArray) ++ (fs[k]'hlt).name ++ (⟨#[32]⟩ : ByteArray) ++ (l[on]'honl).name ++ (⟨#[32]⟩ : ByteArray))) e62 nu (os_know 69 (.string (l[vn]'hvnl).name) e69 nu ?_)
    refine os_rv (r_addS rfl rfl (adG z4 zv dE)) ⟨Same.refl _ _, ?_, frsh_no⟩
    exact rfl
   | 22, _, hoq =>
    obtain rfl := sI hoq
    have hs0 := hs
    clear hs
    have d21 : gg 70 = .string ((⟨#[102, 101, 97, 116, 32]⟩ : ByteArray) ++ (fs[k]'hlt).name ++ (⟨#[32]⟩ : ByteArray) ++ (l[on]'honl).name ++ (⟨#[32]⟩ : ByteArray) ++ (l[vn]'hvnl).name) := hd 21 (dep_of kR)
    have e70 := d21
    refine os_know 70 (.string ((⟨#[102, 101, 97, 116, 32]⟩ : ByteArray) ++ (fs[k]'hlt).name ++ (⟨#[32]⟩ : ByteArray) ++ (l[on]'honl).name ++ (⟨#[32]⟩ : ByteArray) ++ (l[vn]'hvnl).name)) e70 nu ?_
    refine os_rv (r_addS rfl rfl (adG z5 (Nat.le_refl 1) dE)) ⟨Same.refl _ _, ?_, frsh_no⟩
    exact rfl
   | 23, _, hoq =>
    obtain rfl := sI hoq
    have hs0 := hs
    clear hs
    have d0 : gg 49 = .string S := hd 0 (dep_of kR)
    have e49 := d0
    have d22 : gg 71 = .string ((⟨#[102, 101, 97, 116, 32]⟩ : ByteArray) ++ (fs[k]'hlt).name ++ (⟨#[32]⟩ : ByteArray) ++ (l[on]'honl).name ++ (⟨#[32]⟩ : ByteArray) ++ (l[vn]'hvnl).name ++ (⟨#[10]⟩ : ByteArray)) := hd 22 (dep_of kR)
    have e71 := d22
    refine os_know 49 (.string S) e49 nu (os_know 71 (.string ((⟨#[102, 101, 97, 116, 32]⟩ : ByteArray) ++ (fs[k]'hlt).name ++ (⟨#[32]⟩ : ByteArray) ++ (l[on]'honl).name ++ (⟨#[32]⟩ : ByteArray) ++ (l[vn]'hvnl).name ++ (⟨#[10]⟩ : ByteArray))) e71 nu ?_)
    refine os_rv (r_addS rfl rfl (adL hSl (nLT z6 dE))) ⟨Same.refl _ _, ?_, frsh_no⟩
    exact rfl
   | _ + 24, hix, _ => exact absurd hix om
  intro gg w9 hs hR hdis
  have hs0 := hs
  replace hB := hB.tr0 hs
  replace hb1 := hb1.tr0 hs
  replace hb9 := hb9.tr0 hs
  clear hs
  have d23 : gg 72 = .string (S ++ ((⟨#[102, 101, 97, 116, 32]⟩ : ByteArray) ++ (fs[k]'hlt).name ++ (⟨#[32]⟩ : ByteArray) ++ (l[on]'honl).name ++ (⟨#[32]⟩ : ByteArray) ++ (l[vn]'hvnl).name ++ (⟨#[10]⟩ : ByteArray))) := hR 23 dE
  have e72 := d23
  refine wl_know 72 (.string (S ++ ((⟨#[102, 101, 97, 116, 32]⟩ : ByteArray) ++ (fs[k]'hlt).name ++ (⟨#[32]⟩ : ByteArray) ++ (l[on]'honl).name ++ (⟨#[32]⟩ : ByteArray) ++ (l[vn]'hvnl).name ++ (⟨#[10]⟩ : ByteArray)))) e72 nu (wl (r_as (v := .string _) rfl) (x_nil (e_B (e_S (c_region ?_)))))
  refine wl (r_add rfl rfl rfl om) (wmI rfl (x_nil (e_LS (fs.length - (k + 1)) om agA ?_)))
  exact ⟨k + 1, _, by omega, rfl, rfl, rfl, by rw [bl_app S, hSb, hfx], hB, hb1⟩
 have hke : k = fs.length := by omega
 subst hke
 rw [ftX_all] at hSb
 refine c_exit (e_Sx (e_LSx (e_Bx (e_S (c_seq ?_)))))
 refine c_region (wl (r_mv (v := .string _) rfl) (wl (r_as (v := .string _) rfl) (x_nil (e_S (c_ret ?_)))))
 refine fin1 (.inl rfl) rfl rfl ?_
 exact ⟨ret_str2 (by rw [hSb]; rfl), hB⟩
end Go.Proofs.YtegngekpmpdngaaDoor
namespace Go.Proofs.YtegngekpmpdngaaDoor
open Go.RowKit
theorem fn76 : callable Tryd.prog 76 = true := by kernel_rfl
theorem fn77 : callable Tryd.prog 77 = true := by kernel_rfl
theorem sz77_HFnd : (Tryd.prog.info? 77).map (·.size) = some 2 := by kernel_rfl
theorem sz9_HFnd : (Tryd.prog.info? 9).map (·.size) = some 1 := by kernel_rfl
theorem nm_any (b1 : Nat) (nm s : ByteArray) (pv : Value) (w : World) (hb1 : Blk w b1 9 #[.string s]) : Calls Tryd.prog 77 #[.agg #[.string nm, pv], .pointer (some ⟨b1, 0, none⟩)] w fun e w' => e = .returned (.bool (decide (nm = s))) ∧ Bel w w' := by
 refine enter Tryd.func77 Tryd.ntmps77 rfl (Nat.le_of_ble_eq_true rfl) ?_
 have hB : Bel w w := Below.refl _ _
 refine c_seq (c_region ?_)
 refine wl_bx (v := .agg #[_, _]) (cs := #[_, _]) rfl rfl (fun b2 w1 hb2 hs hr => ?_)
 have or_b1_b2 : b1 < b2 := nLL hb1.lt hr
 have lo2 := nLT (Bel.size hB) hr
 replace hB := hB.tr0 hs
 replace hb1 := hb1.tr0 hs
 clear hs
 clear hr
 refine waB rfl (x_nil (e_S (c_seq (c_region (wl (r_fa U77 sz9_HFnd dE rfl rfl rfl) ?_)))))
 refine wl (r_ld1 (v := .string _) U9 rfl rfl (hb2.cell rfl)) (wl (r_ld1 (v := .string _) U9 rfl rfl (hb1.cell rfl)) (wl (r_eqlS rfl rfl) (waB rfl (x_nil (e_S ?_)))))
 refine c_ret (fin1 (.inl rfl) rfl rfl ?_)
 exact ⟨rfl, hB⟩
set_option maxHeartbeats 1000000 in
theorem ixt_any (A : Option Addr) (c b10 : Nat) (l : List Ty) (s : ByteArray) (w : World) (hT : TypesIn w A l) (hb : Blk w b10 9 #[.string s]) : Calls Tryd.prog 76 #[.slice A l.length c, .func (.func 77) #[] #[.pointer (some ⟨b10, 0, none⟩)]] w fun e w' => e = .returned (.int .i64 (fnd l s)) ∧ Bel w w' := by
 have hmx := hT.1
 unfold maxI at hmx
 refine enter Tryd.func76 Tryd.ntmps76 rfl (Nat.le_of_ble_eq_true rfl) ?_
 have hB : Bel w w := Below.refl _ _
 refine c_seq (c_region (waI rfl (x_nil (e_S (c_seq ?_)))))
 refine c_seq (c_region (wmS rfl (wl (r_len U22 rfl) (wmI rfl (x_nil ?_)))))
 refine e_S (c_block ?_)
 refine c_loopS [4, 5, 8, 9, 10, 11, 12, 13, 14, 15, 16, 17, 18] (fun m g w' => ∃ j : Nat, j ≤ l.length ∧ m = l.length - j ∧ g 8 = .int .i64 j ∧ Bel w w' ∧ (∀ j' (hj : j' < l.length), j' < j → ¬ (l[j']).name = s)) (l.length) ?_ (fun m g2 w1 hI => ?_)
 ·
  exact ⟨0, Nat.zero_le _, rfl, rfl, hB, fun j _ h => by omega⟩
 obtain ⟨j, hj, hm, h8, hB, hall⟩ := hI
 refine c_know 8 (.int .i64 j) h8 nu (c_seq (c_region (wl (r_lss rfl rfl) (x_nil (e_S ?_)))))
 refine c_seq ?_
 refine c_ifd rfl (fun c9 => ?_) (fun c9 => ?_)
 ·
  have hjl : j < l.length := by omega
  obtain ⟨lb, lof, A', c', rfl, hlb, hlr, _⟩ := hT.at_ (Below.refl _ _ : Bel w w) hjl
  refine c_skip (e_S (c_seq (c_block (c_seq (c_region ?_)))))
  refine wmI rfl (waI rfl (x_nil (e_S (c_seq (c_region ?_)))))
  refine wl (r_mv (v := .func _ _ _) rfl) (wmS rfl (wmI rfl (wl (r_ia (i := j) U22 sz77_HFnd rfl rfl om rfl) (wl (r_ldS U77 rfl rfl (hB.range hlb hlr) sz77_HFnd) ?_))))
  refine wl_clv rfl fn77 (nm_any b10 _ s _ _ (hb.bel hB)) rfl rfl (fun e' w2 hr => ?_)
  obtain ⟨rfl, hs⟩ := hr
  replace hs := Same.of_bel hs
  replace hB := hB.tr0 hs
  clear hs
  refine ⟨_, rfl, ?_⟩
  refine x_nil (e_S ?_)
  refine c_ifd rfl (fun c16 => ?_) (fun c16 => ?_)
  ·
   refine c_seq (c_region (wmI rfl (waI rfl (x_nil (e_S ?_)))))
   refine c_ret (e_Br (e_Sr (e_LSr (e_Br (e_Sr ?_)))))
   refine fin1 (.inl rfl) rfl rfl ?_
   exact ⟨by rw [fnd_at hjl c16 hall]; rfl, hB⟩
  refine c_skip (e_B (e_S (c_region (wl (r_add rfl rfl rfl om) (wmI rfl ?_)))))
  refine x_nil (e_LS (l.length - (j + 1)) om agA ?_)
  exact ⟨j + 1, by omega, rfl, rfl, hB, fun j' hj' h => by
    by_cases e : j' = j
    · subst e; exact c16
    · exact hall j' hj' om⟩
 have hje : j = l.length := by omega
 subst hje
 refine c_exit (e_Sx (e_LSx (e_Bx (e_S (c_seq ?_)))))
 refine c_region (waI rfl (x_nil (e_S (c_ret (fin1 (.inl rfl) rfl rfl ?_)))))
 exact ⟨by rw [fnd_no (fun j hj => hall j hj hj)]; rfl, hB⟩
theorem fnf_any (b4 : Nat) (AT : Option Addr) (cT : Nat) (v2 : Value) (l : List Ty) (s : ByteArray) (w : World) (hb4 : Blk w b4 25 #[.slice AT l.length cT, v2]) (hT : TypesIn w AT l) : Calls Tryd.prog 75 #[.string s, .pointer (some ⟨b4, 0, none⟩)] w fun e w' => e = .returned (.int .i64 (fnd l s)) ∧ Bel w w' := by
 refine enter Tryd.func75 Tryd.ntmps75 rfl (Nat.le_of_ble_eq_true rfl) ?_
 have hB : Bel w w := Below.refl _ _
 refine c_seq (c_region ?_)
 refine wl_bx (v := .string _) rfl rfl (fun b2 w1 hb2 hs hr => ?_)
 have or_b4_b2 : b4 < b2 := nLL hb4.lt hr
 have lo2 := nLT (Bel.size hB) hr
 replace hB := hB.tr0 hs
 replace hb4 := hb4.tr0 hs
 clear hs
 clear hr
 refine waI rfl (x_nil (e_S (c_seq (c_region (wl (r_fa U25 sz22_GLoose dE rfl rfl rfl) ?_)))))
 refine wl (r_ld1 (v := .slice _ _ _) U22 rfl rfl (hb4.cell rfl)) (wl (r_mf rfl) ?_)
 refine wl_cl fn76 (ixt_any AT cT b2 l s _ (hT.mono hB) hb2) rfl (fun e' w2 hr => ?_)
 obtain ⟨rfl, hs⟩ := hr
 replace hs := Same.of_bel hs
 replace hB := hB.tr0 hs
 replace hb4 := hb4.tr0 hs
 replace hb2 := hb2.tr0 hs
 clear hs
 refine ⟨_, rfl, ?_⟩
 refine waI rfl (x_nil (e_S (c_ret (fin1 (.inl rfl) rfl rfl ?_))))
 exact ⟨rfl, hB⟩
end Go.Proofs.YtegngekpmpdngaaDoor
namespace Go.Proofs.YtegngekpmpdngaaDoor
open Go.Shelf
def sh_lays143_ren : Go.Shelf.Ren := ⟨fun | 143 => 112 | 219 => 120 | 217 => 126 | 225 => 127 | 224 => 128 | 267 => 129 | 266 => 135 | 314 => 136 | n => n, fun | 9 => 9 | 3 => 3 | 4 => 4 | 5 => 5 | 46 => 148 | 146 => 179 | 51 => 172 | n => n, fun | 1 => 1 | n => n⟩
theorem sh_lays143 : Go.Proofs.Lays.n143 Tryd.prog sh_lays143_ren := {
  mixed := by kernel_rfl
  f143 := Tryd.func112.trans (congrArg some (by kernel_rfl))
  f217 := Tryd.func126.trans (congrArg some (by kernel_rfl))
  f219 := Tryd.func120.trans (congrArg some (by kernel_rfl))
  f224 := Tryd.func128.trans (congrArg some (by kernel_rfl))
  f225 := Tryd.func127.trans (congrArg some (by kernel_rfl))
  f266 := Tryd.func135.trans (congrArg some (by kernel_rfl))
  f267 := Tryd.func129.trans (congrArg some (by kernel_rfl))
  f314 := Tryd.func136.trans (congrArg some (by kernel_rfl))
  t3 := U3
  a3 := Tryd.isAgg3
  z3 := Tryd.sizeOf3
  v3 := Tryd.zeroValue3
  t4 := U4
  a4 := Tryd.isAgg4
  z4 := Tryd.sizeOf4
  v4 := Tryd.zeroValue4
  t5 := U5
  a5 := Tryd.isAgg5
  z5 := Tryd.sizeOf5
  v5 := Tryd.zeroValue5
  t9 := U9
  a9 := Tryd.isAgg9
  z9 := Tryd.sizeOf9
  v9 := Tryd.zeroValue9
  t46 := Tryd.underlying148
  a46 := Tryd.isAgg148
  z46 := Tryd.sizeOf148
  v46 := Tryd.zeroValue148
  t51 := Tryd.underlying172
  a51 := Tryd.isAgg172
  z51 := Tryd.sizeOf172
  v51 := Tryd.zeroValue172
  t146 := Tryd.underlying179
  a146 := Tryd.isAgg179
  z146 := Tryd.sizeOf179
  v146 := Tryd.zeroValue179
  g1 := by kernel_rfl }
open Go.RowKit Go.Lib in
theorem sh_strings_Index_one (s : ByteArray) (c : UInt8) (w : World) :
    Calls Tryd.prog 112 #[.string s, .string ⟨#[c]⟩] w fun e w' => e = .returned (.int .i64 (Lib.indexByte s.data.toList c)) ∧ w' = w := Any.strings_Index_one sh_lays143 s c w
def sh_lays138_ren : Go.Shelf.Ren := ⟨fun | 138 => 111 | 195 => 117 | 218 => 119 | 143 => 112 | 219 => 120 | 217 => 126 | 225 => 127 | 224 => 128 | 267 => 129 | 266 => 135 | 314 => 136 | n => n, fun | 9 => 9 | 3 => 3 | 4 => 4 | 5 => 5 | 0 => 0 | 46 => 148 | 146 => 179 | 51 => 172 | n => n, fun | 1 => 1 | n => n⟩
theorem sh_lays138 : Go.Proofs.Lays.n138 Tryd.prog sh_lays138_ren := {
  mixed := by kernel_rfl
  f138 := Tryd.func111.trans (congrArg some (by kernel_rfl))
  f143 := Tryd.func112.trans (congrArg some (by kernel_rfl))
  f195 := Tryd.func117.trans (congrArg some (by kernel_rfl))
  f217 := Tryd.func126.trans (congrArg some (by kernel_rfl))
  f218 := Tryd.func119.trans (congrArg some (by kernel_rfl))
  f219 := Tryd.func120.trans (congrArg some (by kernel_rfl))
  f224 := Tryd.func128.trans (congrArg some (by kernel_rfl))
  f225 := Tryd.func127.trans (congrArg some (by kernel_rfl))
  f266 := Tryd.func135.trans (congrArg some (by kernel_rfl))
  f267 := Tryd.func129.trans (congrArg some (by kernel_rfl))
  f314 := Tryd.func136.trans (congrArg some (by kernel_rfl))
  t0 := Tryd.underlying0
  a0 := Tryd.isAgg0
  z0 := Tryd.sizeOf0
  v0 := Tryd.zeroValue0
  t3 := U3
  a3 := Tryd.isAgg3
  z3 := Tryd.sizeOf3
  v3 := Tryd.zeroValue3
  t4 := U4
  a4 := Tryd.isAgg4
  z4 := Tryd.sizeOf4
  v4 := Tryd.zeroValue4
  t5 := U5
  a5 := Tryd.isAgg5
  z5 := Tryd.sizeOf5
  v5 := Tryd.zeroValue5
  t9 := U9
  a9 := Tryd.isAgg9
  z9 := Tryd.sizeOf9
  v9 := Tryd.zeroValue9
  t46 := Tryd.underlying148
  a46 := Tryd.isAgg148
  z46 := Tryd.sizeOf148
  v46 := Tryd.zeroValue148
  t51 := Tryd.underlying172
  a51 := Tryd.isAgg172
  z51 := Tryd.sizeOf172
  v51 := Tryd.zeroValue172
  t146 := Tryd.underlying179
  a146 := Tryd.isAgg179
  z146 := Tryd.sizeOf179
  v146 := Tryd.zeroValue179
  g1 := by kernel_rfl }
open Go.RowKit Go.Lib in
theorem sh_strings_Count_one (s : ByteArray) (c : UInt8) (w : World) :
    Calls Tryd.prog 111 #[.string s, .string ⟨#[c]⟩] w fun e w' => e = .returned (.int .i64 (Lib.countByte s.data.toList c)) ∧ w' = w := Any.strings_Count_one sh_lays138 s c w
end Go.Proofs.YtegngekpmpdngaaDoor
