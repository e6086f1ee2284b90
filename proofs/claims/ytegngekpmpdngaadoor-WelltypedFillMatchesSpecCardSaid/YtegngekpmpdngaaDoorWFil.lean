/- What these functions of the program compute, at every world: glosswright/welltyped.Fill. -/
import Derived.Test.YtegngekpmpdngaaDoorU
import Derived.Test.YtegngekpmpdngaaDoorWITot
import Derived.Test.YtegngekpmpdngaaDoorCanon
import Derived.Test.YtegngekpmpdngaaDoorSBase
import Derived.Test.YtegngekpmpdngaaDoorRIns
namespace Go.Proofs.YtegngekpmpdngaaDoor
open Go.RowKit
theorem fn35 : callable Tryd.prog 35 = true := by kernel_rfl
theorem fn49_WFil : callable Tryd.prog 49 = true := by kernel_rfl
theorem fn52 : callable Tryd.prog 52 = true := by kernel_rfl
theorem fn53 : callable Tryd.prog 53 = true := by kernel_rfl
theorem fn55 : callable Tryd.prog 55 = true := by kernel_rfl
set_option maxRecDepth 100000 in
set_option maxHeartbeats 16000000 in
theorem fill_any (A0 B G : Option Addr) (c d cg : Nat) (l : List Ty) (fs : List Ft) (gr : List Nd) (w : World) (hTab : TabIn w) (hT : TypesIn w A0 l) (hF : FeatsIn w B fs) (hG : NodesIn w G gr) : Calls Tryd.prog 19 #[.agg #[.slice A0 l.length c, .slice B fs.length d], .agg #[.slice G gr.length cg]] w fun e w' => (∃ A' X cX f, e = .returned (.tuple #[.agg #[.slice A' (List.length X) cX], .agg #[.int .i64 (Prod.fst f), .int .i64 f.2]]) ∧ (∀ w2, FrSame w.heap.size w' w2 → NodesIn w2 A' X) ∧ FillS l fs gr f X) ∧ Bel w w' := by
 refine enter Tryd.func19 Tryd.ntmps19 rfl (Nat.le_of_ble_eq_true rfl) ?_
 have hB : Bel w w := Below.refl _ _
 refine c_seq (c_region ?_)
 refine wl_bx (v := .agg #[_, _]) (cs := #[_, _]) rfl rfl (fun b2 w1 hb2 hs hr => ?_)
 have lo2 := nLT (Bel.size hB) hr
 replace hB := hB.tr0 hs
 clear hs
 clear hr
 refine wl_bx (v := .agg #[_]) (cs := #[_]) rfl rfl (fun b3 w2 hb3 hs hr => ?_)
 have or_b2_b3 : b2 < b3 := nLL hb2.lt hr
 have lo3 := nLT (Bel.size hB) hr
 replace hB := hB.tr0 hs
 replace hb2 := hb2.tr0 hs
 clear hs
 clear hr
 refine wl_al (cs := #[.slice none 0 0]) ze28_GTgt rfl (fun b4 w3 hb4 hs hr => ?_)
 have or_b2_b4 : b2 < b4 := nLL hb2.lt hr
 have or_b3_b4 : b3 < b4 := nLL hb3.lt hr
 have lo4 := nLT (Bel.size hB) hr
 replace hB := hB.tr0 hs
 replace hb2 := hb2.tr0 hs
 replace hb3 := hb3.tr0 hs
 clear hs
 clear hr
 refine wl_al (cs := #[.int .i64 0, .int .i64 0]) ze35_SFind rfl (fun b5 w4 hb5 hs hr => ?_)
 have or_b2_b5 : b2 < b5 := nLL hb2.lt hr
 have or_b3_b5 : b3 < b5 := nLL hb3.lt hr
 have or_b4_b5 : b4 < b5 := nLL hb4.lt hr
 have lo5 := nLT (Bel.size hB) hr
 replace hB := hB.tr0 hs
 replace hb2 := hb2.tr0 hs
 replace hb3 := hb3.tr0 hs
 replace hb4 := hb4.tr0 hs
 clear hs
 clear hr
 refine x_nil (e_S (c_seq (c_seq (c_region (wl (r_ldS U25 rfl rfl hb2.range0 sz25_SFind) ?_)))))
 refine wl (r_ldS U28 rfl rfl hb3.range0 sz28_GTgt) ?_
 refine wl_cl fn35 (gval_any A0 B G c d cg l fs gr _ (hTab.mono hB) (hT.mono hB) (hF.mono hB) (hG.mono hB)) rfl (fun e' w5 hr => ?_)
 obtain ⟨rfl, hs⟩ := hr
 replace hs := Same.of_bel hs
 replace hB := hB.tr0 hs
 replace hb2 := hb2.tr0 hs
 replace hb3 := hb3.tr0 hs
 replace hb4 := hb4.tr0 hs
 replace hb5 := hb5.tr0 hs
 clear hs
 refine ⟨_, rfl, ?_⟩
 refine wl_al (cs := #[.int .i64 0, .int .i64 0]) ze35_SFind rfl (fun b6 w6 hb6 hs hr => ?_)
 have or_b2_b6 : b2 < b6 := nLL hb2.lt hr
 have or_b3_b6 : b3 < b6 := nLL hb3.lt hr
 have or_b4_b6 : b4 < b6 := nLL hb4.lt hr
 have or_b5_b6 : b5 < b6 := nLL hb5.lt hr
 have lo6 := nLT (Bel.size hB) hr
 replace hB := hB.tr0 hs
 replace hb2 := hb2.tr0 hs
 replace hb3 := hb3.tr0 hs
 replace hb4 := hb4.tr0 hs
 replace hb5 := hb5.tr0 hs
 clear hs
 clear hr
 refine wl_stW hb6 rfl rfl sz35_SFind rfl oneA (fun w7 hq hs => ?_)
 replace hB := hB.tr1 hs lo6
 replace hb2 := hb2.tr1 hs om
 replace hb3 := hb3.tr1 hs om
 replace hb4 := hb4.tr1 hs om
 replace hb5 := hb5.tr1 hs om
 clear hs
 replace hb6 := hq
 refine x_nil (e_S (c_seq (c_region (wl (r_fa U35 sz3_GSearch dE rfl rfl rfl) (wl (r_ld1 (v := .int _ _) U3 rfl rfl (hb6.cell rfl)) ?_)))))
 refine wl (r_neq rfl rfl) (x_nil (e_S ?_))
 refine c_ifd rfl (fun c18 => ?_) (fun c18 => ?_)
 ·
  refine c_seq ?_
  refine c_all #[false, false, false, false] kR (by rfl) (fun w8 hs => ?_)
  replace hB := hB.tr0 hs
  replace hb2 := hb2.tr0 hs
  replace hb3 := hb3.tr0 hs
  replace hb4 := hb4.tr0 hs
  replace hb5 := hb5.tr0 hs
  replace hb6 := hb6.tr0 hs
  clear hs
  refine a_step [0, 1] kR rfl ⟨fun o hoq => ?_, fun o hoq => ?_, trivial⟩
  ·
   obtain rfl := sI hoq
   refine wl (r_bd (vs := #[]) (cs := #[.slice none 0 0]) (by simp) kR) (x_nil (e_A (listed' := #[true, false, false, false]) (by rfl) ?_))
   refine a_step [1, 2] kR rfl ⟨fun o hoq => ?_, fun o hoq => ?_, trivial⟩
   ·
    obtain rfl := sI hoq
    refine wl (r_ldS U35 rfl rfl hb6.range0 sz35_SFind) (x_nil (e_A (listed' := #[true, true, false, false]) (by rfl) ?_))
    refine a_step [2] kR rfl ⟨fun o hoq => ?_, trivial⟩
    obtain rfl := sI hoq
    refine wl_stW hb4 rfl rfl sz28_GTgt rfl oneA (fun w9 hq hs => ?_)
    replace hB := hB.tr1 hs lo4
    replace hb2 := hb2.tr1 hs om
    replace hb3 := hb3.tr1 hs om
    replace hb5 := hb5.tr1 hs om
    replace hb6 := hb6.tr1 hs om
    clear hs
    replace hb4 := hq
    refine x_nil (e_A (listed' := #[true, true, true, false]) (by rfl) ?_)
    refine a_step [3] kR rfl ⟨fun o hoq => ?_, trivial⟩
    obtain rfl := sI hoq
    refine wl_stW hb5 rfl rfl sz35_SFind rfl oneA (fun w10 hq hs => ?_)
    replace hB := hB.tr1 hs lo5
    replace hb2 := hb2.tr1 hs om
    replace hb3 := hb3.tr1 hs om
    replace hb4 := hb4.tr1 hs om
    replace hb6 := hb6.tr1 hs om
    clear hs
    replace hb5 := hq
    refine x_nil (e_A (listed' := #[true, true, true, true]) (by rfl) (a_end kR (e_S (c_ret (e_Sr ?_)))))
    refine fin2 (.inl rfl) rfl (rr_cell U28 rfl rfl hb4.range0 sz28_GTgt) (rr_cell U35 rfl rfl hb5.range0 sz35_SFind) ?_
    exact ⟨⟨none, [], 0, graphF l fs gr, rfl, fun w2 _ => nodes_nil w2 none, .inl ⟨c18, rfl, rfl⟩⟩, hB⟩
   obtain rfl := sI hoq
   refine wl_stW hb4 rfl rfl sz28_GTgt rfl oneA (fun w11 hq hs => ?_)
   replace hB := hB.tr1 hs lo4
   replace hb2 := hb2.tr1 hs om
   replace hb3 := hb3.tr1 hs om
   replace hb5 := hb5.tr1 hs om
   replace hb6 := hb6.tr1 hs om
   clear hs
   replace hb4 := hq
   refine x_nil (e_A (listed' := #[true, false, true, false]) (by rfl) ?_)
   refine a_step [1] kR rfl ⟨fun o hoq => ?_, trivial⟩
   obtain rfl := sI hoq
   refine wl (r_ldS U35 rfl rfl hb6.range0 sz35_SFind) (x_nil (e_A (listed' := #[true, true, true, false]) (by rfl) ?_))
   refine a_step [3] kR rfl ⟨fun o hoq => ?_, trivial⟩
   obtain rfl := sI hoq
   refine wl_stW hb5 rfl rfl sz35_SFind rfl oneA (fun w12 hq hs => ?_)
   replace hB := hB.tr1 hs lo5
   replace hb2 := hb2.tr1 hs om
   replace hb3 := hb3.tr1 hs om
   replace hb4 := hb4.tr1 hs om
   replace hb6 := hb6.tr1 hs om
   clear hs
   replace hb5 := hq
   refine x_nil (e_A (listed' := #[true, true, true, true]) (by rfl) (a_end kR (e_S (c_ret (e_Sr ?_)))))
   refine fin2 (.inl rfl) rfl (rr_cell U28 rfl rfl hb4.range0 sz28_GTgt) (rr_cell U35 rfl rfl hb5.range0 sz35_SFind) ?_
   exact ⟨⟨none, [], 0, graphF l fs gr, rfl, fun w2 _ => nodes_nil w2 none, .inl ⟨c18, rfl, rfl⟩⟩, hB⟩
  obtain rfl := sI hoq
  refine wl (r_ldS U35 rfl rfl hb6.range0 sz35_SFind) (x_nil (e_A (listed' := #[false, true, false, false]) (by rfl) ?_))
  refine a_step [0] kR rfl ⟨fun o hoq => ?_, trivial⟩
  obtain rfl := sI hoq
  refine wl (r_bd (vs := #[]) (cs := #[.slice none 0 0]) (by simp) kR) (x_nil (e_A (listed' := #[true, true, false, false]) (by rfl) ?_))
  refine a_step [2] kR rfl ⟨fun o hoq => ?_, trivial⟩
  obtain rfl := sI hoq
  refine wl_stW hb4 rfl rfl sz28_GTgt rfl oneA (fun w13 hq hs => ?_)
  replace hB := hB.tr1 hs lo4
  replace hb2 := hb2.tr1 hs om
  replace hb3 := hb3.tr1 hs om
  replace hb5 := hb5.tr1 hs om
  replace hb6 := hb6.tr1 hs om
  clear hs
  replace hb4 := hq
  refine x_nil (e_A (listed' := #[true, true, true, false]) (by rfl) ?_)
  refine a_step [3] kR rfl ⟨fun o hoq => ?_, trivial⟩
  obtain rfl := sI hoq
  refine wl_stW hb5 rfl rfl sz35_SFind rfl oneA (fun w14 hq hs => ?_)
  replace hB := hB.tr1 hs lo5
  replace hb2 := hb2.tr1 hs om
  replace hb3 := hb3.tr1 hs om
  replace hb4 := hb4.tr1 hs om
  replace hb6 := hb6.tr1 hs om
  clear hs
  replace hb5 := hq
  refine x_nil (e_A (listed' := #[true, true, true, true]) (by rfl) (a_end kR (e_S (c_ret (e_Sr ?_)))))
  refine fin2 (.inl rfl) rfl (rr_cell U28 rfl rfl hb4.range0 sz28_GTgt) (rr_cell U35 rfl rfl hb5.range0 sz35_SFind) ?_
  exact ⟨⟨none, [], 0, graphF l fs gr, rfl, fun w2 _ => nodes_nil w2 none, .inl ⟨c18, rfl, rfl⟩⟩, hB⟩
 have h0 := Decidable.not_not.1 c18
 have hva := gv_of h0
 have hf40 := hva.few
 refine c_skip (e_S (c_seq (c_region (wl (r_fa U25 sz22_SFind dE rfl rfl rfl) (wl (r_ld1 (v := .slice _ _ _) U22 rfl rfl (hb2.cell rfl)) ?_)))))
 refine wl_cl fn48_SFind (tables2_any A0 c l _ (hT.mono hB) hva.s.vt hva.s.le) rfl (fun e' w15 hr => ?_)
 obtain ⟨⟨bu, bd, rfl, hTI⟩, hs⟩ := hr
 replace hs := Same.of_bel hs
 replace hB := hB.tr0 hs
 replace hb2 := hb2.tr0 hs
 replace hb3 := hb3.tr0 hs
 replace hb4 := hb4.tr0 hs
 replace hb5 := hb5.tr0 hs
 replace hb6 := hb6.tr0 hs
 clear hs
 obtain ⟨wT, hwT⟩ : ∃ x, x = w15 := ⟨_, rfl⟩
 have hBT : Bel wT w15 := by rw [hwT]; exact Below.refl _ _
 have hTabT : TabIn wT := by rw [hwT]; exact hTab.mono hB
 have hBwT := Bel.size hB
 rw [← hwT] at hTI hBwT
 refine ⟨_, rfl, ?_⟩
 refine wl_al (cs := #[.slice none 0 0, .slice none 0 0]) ze92_SFind rfl (fun b7 w16 hb7 hs hr => ?_)
 have or_b2_b7 : b2 < b7 := nLL hb2.lt hr
 have or_b3_b7 : b3 < b7 := nLL hb3.lt hr
 have or_b4_b7 : b4 < b7 := nLL hb4.lt hr
 have or_b5_b7 : b5 < b7 := nLL hb5.lt hr
 have or_b6_b7 : b6 < b7 := nLL hb6.lt hr
 have lo7 := nLT (Bel.size hB) hr
 have lo_hBT_b7 := nLT (Bel.size hBT) hr
 replace hB := hB.tr0 hs
 replace hb2 := hb2.tr0 hs
 replace hb3 := hb3.tr0 hs
 replace hb4 := hb4.tr0 hs
 replace hb5 := hb5.tr0 hs
 replace hb6 := hb6.tr0 hs
 replace hBT := hBT.tr0 hs
 clear hs
 clear hr
 refine wl_stW hb7 rfl rfl sz92_SFind rfl oneA (fun w17 hq hs => ?_)
 replace hB := hB.tr1 hs lo7
 replace hb2 := hb2.tr1 hs om
 replace hb3 := hb3.tr1 hs om
 replace hb4 := hb4.tr1 hs om
 replace hb5 := hb5.tr1 hs om
 replace hb6 := hb6.tr1 hs om
 replace hBT := hBT.tr1 hs lo_hBT_b7
 clear hs
 replace hb7 := hq
 refine x_nil (e_S (c_seq ?_))
 have hT2 := hBwT
 refine c_region (wl (r_ldS U28 rfl rfl hb3.range0 sz28_GTgt) ?_)
 have z2 := hb2.lt
 have z4 := hb4.lt
 have z5 := hb5.lt
 have z7 := hb7.lt
 have zT := Bel.size hBT
 refine wl_cl fn49_WFil (from4_any G cg fs.length gr 0 _ (hG.mono hB) hva.gok.two om hva.gok.pos) rfl (fun e' w18 hr => ?_)
 obtain ⟨⟨o, N, hD, hok, rfl, hgr⟩, hs⟩ := hr
 replace hs := Same.of_bel hs
 replace hB := hB.tr0 hs
 replace hb2 := hb2.tr0 hs
 replace hb3 := hb3.tr0 hs
 replace hb4 := hb4.tr0 hs
 replace hb5 := hb5.tr0 hs
 replace hb6 := hb6.tr0 hs
 replace hBT := hBT.tr0 hs
 replace hb7 := hb7.tr0 hs
 clear hs
 obtain ⟨zlo, hzlo⟩ : ∃ z, z = (w17).heap.size := ⟨_, rfl⟩
 rw [← hzlo] at hgr z2 z4 z5 z7 zT
 obtain ⟨V, ho, hRw⟩ := hgr.rows
 have hC := gv_can hva hD
 obtain ⟨C, hCe⟩ : ∃ z, z = canG gr o := ⟨_, rfl⟩
 have hCl : o.length = C.length := by rw [hCe, canG_len]
 rw [← hCe] at ho hRw hC
 rw [hCl] at ho
 replace ho : Own w18 zlo 33 2 N C.length C.length (ndV (tyA C) V C.length) := ho
 have hzh : zlo ≤ w18.heap.size := by
   obtain ⟨gq, _, hq1, hq2⟩ := own_adr ho hC.gx.pos
   omega
 have hC60 := hC.gok.le
 refine ⟨_, rfl, ?_⟩
 refine wl_al (cs := #[.slice none 0 0]) ze28_GTgt rfl (fun b8 w19 hb8 hs hr => ?_)
 have or_b2_b8 : b2 < b8 := nLL hb2.lt hr
 have or_b3_b8 : b3 < b8 := nLL hb3.lt hr
 have or_b4_b8 : b4 < b8 := nLL hb4.lt hr
 have or_b5_b8 : b5 < b8 := nLL hb5.lt hr
 have or_b6_b8 : b6 < b8 := nLL hb6.lt hr
 have or_b7_b8 : b7 < b8 := nLL hb7.lt hr
 have or_ho_b8 := (fun g hg => nLL (ho.lt g hg).2 hr)
 have or_hzh_b8 := (nLT hzh hr)
 have lo8 := nLT (Bel.size hB) hr
 have lo_hBT_b8 := nLT (Bel.size hBT) hr
 replace hB := hB.tr0 hs
 replace hb2 := hb2.tr0 hs
 replace hb3 := hb3.tr0 hs
 replace hb4 := hb4.tr0 hs
 replace hb5 := hb5.tr0 hs
 replace hb6 := hb6.tr0 hs
 replace hBT := hBT.tr0 hs
 replace hb7 := hb7.tr0 hs
 replace ho := ho.tr0 hs
 replace hRw := hRw.tr hs (by simp)
 replace hzh := nLT hzh (Same.size hs)
 clear hs
 clear hr
 refine wl_stW hb8 rfl rfl sz28_GTgt rfl oneA (fun w20 hq hs => ?_)
 replace hB := hB.tr1 hs lo8
 replace hb2 := hb2.tr1 hs om
 replace hb3 := hb3.tr1 hs om
 replace hb4 := hb4.tr1 hs om
 replace hb5 := hb5.tr1 hs om
 replace hb6 := hb6.tr1 hs om
 replace hBT := hBT.tr1 hs lo_hBT_b8
 replace hb7 := hb7.tr1 hs om
 replace ho := ho.tr1 hs (fun g hg => by first | exact own_neA ho hb8 dE g hg | (have := (ho.lt g hg).1; (try have := or_ho_b8 g hg); omega))
 replace hRw := hRw.tr hs (fun g hg => by rw [List.mem_singleton.1 hg]; first | exact .inr (.inl ⟨_, _, hb8, by decide⟩) | exact .inl om)
 replace hzh := nLT hzh (Same.size hs)
 clear hs
 replace hb8 := hq
 refine x_nil (e_S (c_seq (c_seq ?_)))
 rw [hCl] at hb8
 refine c_region (waI rfl (x_nil (e_S (c_block ?_))))
 refine c_loopS [9, 10, 11, 12, 26, 27, 28, 29, 30, 31, 32, 33, 34, 35, 36, 37, 38, 39, 40, 41, 42, 43, 44, 45, 46, 47, 48, 49, 50, 51, 52, 53, 54, 55, 56, 57, 58, 59, 60, 61, 62, 63, 64, 65, 66, 67, 68, 69, 70, 71, 72, 73, 74, 75, 76, 77, 78, 79, 80, 81, 82, 83, 84, 85, 86, 87, 88, 89, 90, 91, 92, 93, 94, 95, 96, 97, 98, 99, 100, 101, 102, 103, 104, 105, 106, 107, 108, 109] (fun m g w' => ∃ (i : Nat) (A : List Nd) (nm : List Nm) (N : Option Addr) (cN : Nat) (V : Nat → Value), i ≤ A.length ∧ m = 61 - i ∧ g 9 = .int .i64 i ∧ Fil l fs C A nm ∧ A.length ≤ 60 ∧ DoneP l fs A i 0 ∧ Bel w w' ∧ Bel wT w' ∧ Blk w' b2 25 #[.slice A0 l.length c, .slice B fs.length d] ∧ Blk w' b4 28 #[.slice none 0 0] ∧ Blk w' b5 35 #[.int .i64 0, .int .i64 0] ∧ Blk w' b7 92 #[.slice (some ⟨bu, 0, none⟩) l.length l.length, .slice (some ⟨bd, 0, none⟩) l.length l.length] ∧ Blk w' b8 28 #[.slice N A.length cN] ∧ Own w' zlo 33 2 N A.length cN (ndV (tyA A) V A.length) ∧ RowsG w' zlo A.length V (fun x => (nd A x).ln) ∧ zlo ≤ w'.heap.size) (61) ?_ (fun m g7 w21 hI => ?_)
 ·
  exact ⟨0, C, _, N, C.length, V, Nat.zero_le _, rfl, rfl, Fil.start hC, hC60, DoneP.start, hB, hBT, hb2, hb4, hb5, hb7, hb8, ho, hRw, hzh⟩
 obtain ⟨i, A, nm, N, cN, V, hi, hm, h9, hFi, h60, hdn, hB, hBT, hb2, hb4, hb5, hb7, hb8, ho, hRw, hzh⟩ := hI
 refine c_know 9 (.int .i64 i) h9 nu (c_seq (c_seq (c_region (wmI rfl (wl (r_fa U28 sz26_GTgt dE rfl rfl rfl) ?_)))))
 refine wl (r_ld1 (v := .slice _ _ _) U26 rfl rfl (hb8.cell rfl)) (wl (r_len U26 rfl) (wl (r_lss rfl rfl) (x_nil (e_S ?_))))
 refine c_ifd rfl (fun c30 => ?_) (fun c30 => ?_)
 ·
  have hil0 : i < A.length := by omega
  refine c_skip (e_S (c_seq (c_block (c_seq (c_region ?_)))))
  refine wl (r_fa U25 sz23_GLoose dE rfl rfl rfl) (wl (r_ld1 (v := .slice _ _ _) U23 rfl rfl (hb2.cell rfl)) (wl (r_len U23 rfl) (wmI rfl (x_nil (e_S ?_)))))
  refine c_block ?_
  refine c_loopS [10, 11, 12, 36, 37, 38, 39, 40, 41, 42, 43, 44, 45, 46, 47, 48, 49, 50, 51, 52, 53, 54, 55, 56, 57, 58, 59, 60, 61, 62, 63, 64, 65, 66, 67, 68, 69, 70, 71, 72, 73, 74, 75, 76, 77, 78, 79, 80, 81, 82, 83, 84, 85, 86, 87, 88, 89, 90, 91, 92, 93, 94, 95, 96, 97, 98, 99, 100, 101, 102, 103, 104, 105, 106, 107, 108, 109] (fun m g w' => ∃ (k : Nat) (A : List Nd) (nm : List Nm) (N : Option Addr) (cN : Nat) (V : Nat → Value), k ≤ fs.length ∧ m = fs.length - k ∧ g 36 = .int .i64 k ∧ i < A.length ∧ Fil l fs C A nm ∧ A.length ≤ 60 ∧ DoneP l fs A i k ∧ Bel w w' ∧ Bel wT w' ∧ Blk w' b2 25 #[.slice A0 l.length c, .slice B fs.length d] ∧ Blk w' b4 28 #[.slice none 0 0] ∧ Blk w' b5 35 #[.int .i64 0, .int .i64 0] ∧ Blk w' b7 92 #[.slice (some ⟨bu, 0, none⟩) l.length l.length, .slice (some ⟨bd, 0, none⟩) l.length l.length] ∧ Blk w' b8 28 #[.slice N A.length cN] ∧ Own w' zlo 33 2 N A.length cN (ndV (tyA A) V A.length) ∧ RowsG w' zlo A.length V (fun x => (nd A x).ln) ∧ zlo ≤ w'.heap.size) (fs.length) ?_ (fun m g10 w22 hI => ?_)
  ·
   exact ⟨0, A, nm, _, _, V, Nat.zero_le _, rfl, rfl, hil0, hFi, h60, hdn, hB, hBT, hb2, hb4, hb5, hb7, hb8, ho, hRw, hzh⟩
  obtain ⟨k, A, nm, N, cN, V, hk, hmk, h36, hil, hFi, h60, hdn, hB, hBT, hb2, hb4, hb5, hb7, hb8, ho, hRw, hzh⟩ := hI
  have hAv := gv_of (show (graphF l fs A).1 = 0 by rw [hFi.valid hC h60])
  obtain ⟨gN, rfl, hgN1, hgN2⟩ := own_adr ho hil
  obtain ⟨nmi, pmi, hnmi⟩ := hFi.at_ hil
  refine c_know 36 (.int .i64 k) h36 nu (c_seq (c_region (wl (r_lss rfl rfl) (x_nil (e_S ?_)))))
  refine c_seq ?_
  refine c_ifd rfl (fun c37 => ?_) (fun c37 => ?_)
  ·
   have hkl : k < fs.length := by omega
   obtain ⟨fb, fo, rfl, hfb, hfr2⟩ := hF.at_ (Below.refl _ _ : Bel w w) hkl
   have hff := hva.f.at_ k hkl
   obtain ⟨on, hon, honl⟩ : ∃ t : Nat, (fs[k]'hkl).of = (t : Int) ∧ t < l.length := ⟨(fs[k]'hkl).of.toNat, by omega, by omega⟩
   obtain ⟨vn, hvn, hvnl⟩ : ∃ t : Nat, (fs[k]'hkl).val = (t : Int) ∧ t < l.length := ⟨(fs[k]'hkl).val.toNat, by omega, by omega⟩
   have hfa : ftAt fs ((k : Nat) : Int) = fs[k] := by simp [ftAt, List.getD, hkl]
   have hof : (ftAt fs ((k : Nat) : Int)).of.toNat = on := by rw [hfa, hon]; rfl
   have hvl : (ftAt fs ((k : Nat) : Int)).val = (vn : Int) := by rw [hfa, hvn]
   have htr := hAv.gx.tr i hil
   obtain ⟨tn, htn, htnl⟩ : ∃ t : Nat, (nd A i).ty = (t : Int) ∧ t < l.length := ⟨((nd A i).ty).toNat, by omega, by omega⟩
   have htyi : tyA A i = .int .i64 ((tn : Nat) : Int) := by unfold tyA; rw [htn]
   refine c_skip (e_S (c_seq (c_block (c_seq (c_region ?_)))))
   refine wmI rfl (wl (r_ia (i := k) U23 sz63_GVal rfl rfl om rfl) (wl (r_ldS U63 rfl rfl (hB.range hfb hfr2) sz63_GVal) ?_))
   refine wl_al (cs := #[.int .i64 0]) ze3_SFind rfl (fun b10 w23 hb10 hs hr => ?_)
   have or_b2_b10 : b2 < b10 := nLL hb2.lt hr
   have or_b4_b10 : b4 < b10 := nLL hb4.lt hr
   have or_b5_b10 : b5 < b10 := nLL hb5.lt hr
   have or_b7_b10 : b7 < b10 := nLL hb7.lt hr
   have or_b8_b10 : b8 < b10 := nLL hb8.lt hr
   have or_ho_b10 := (fun g hg => nLL (ho.lt g hg).2 hr)
   have or_hzh_b10 := (nLT hzh hr)
   have lo10 := nLT (Bel.size hB) hr
   have lo_hBT_b10 := nLT (Bel.size hBT) hr
   replace hB := hB.tr0 hs
   replace hb2 := hb2.tr0 hs
   replace hb4 := hb4.tr0 hs
   replace hb5 := hb5.tr0 hs
   replace hBT := hBT.tr0 hs
   replace hb7 := hb7.tr0 hs
   replace hb8 := hb8.tr0 hs
   replace ho := ho.tr0 hs
   replace hRw := hRw.tr hs (by simp)
   replace hzh := nLT hzh (Same.size hs)
   clear hs
   clear hr
   refine wl_al (cs := #[.string ⟨#[]⟩, .int .i64 0, .int .i64 0]) ze63_GVal rfl (fun b11 w24 hb11 hs hr => ?_)
   have or_b2_b11 : b2 < b11 := nLL hb2.lt hr
   have or_b4_b11 : b4 < b11 := nLL hb4.lt hr
   have or_b5_b11 : b5 < b11 := nLL hb5.lt hr
   have or_b7_b11 : b7 < b11 := nLL hb7.lt hr
   have or_b8_b11 : b8 < b11 := nLL hb8.lt hr
   have or_ho_b11 := (fun g hg => nLL (ho.lt g hg).2 hr)
   have or_hzh_b11 := (nLT hzh hr)
   have or_b10_b11 : b10 < b11 := nLL hb10.lt hr
   have lo11 := nLT (Bel.size hB) hr
   have lo_hBT_b11 := nLT (Bel.size hBT) hr
   replace hB := hB.tr0 hs
   replace hb2 := hb2.tr0 hs
   replace hb4 := hb4.tr0 hs
   replace hb5 := hb5.tr0 hs
   replace hBT := hBT.tr0 hs
   replace hb7 := hb7.tr0 hs
   replace hb8 := hb8.tr0 hs
   replace ho := ho.tr0 hs
   replace hRw := hRw.tr hs (by simp)
   replace hzh := nLT hzh (Same.size hs)
   replace hb10 := hb10.tr0 hs
   clear hs
   clear hr
   refine wl_st1 (v := .int _ _) hb10 rfl rfl sz3_GSearch (by first | decide | simp) rfl rfl (fun w25 hq hs => ?_)
   replace hB := hB.tr1 hs lo10
   replace hb2 := hb2.tr1 hs om
   replace hb4 := hb4.tr1 hs om
   replace hb5 := hb5.tr1 hs om
   replace hBT := hBT.tr1 hs lo_hBT_b10
   replace hb7 := hb7.tr1 hs om
   replace hb8 := hb8.tr1 hs om
   replace ho := ho.tr1 hs (fun g hg => by first | exact own_neA ho hb10 dE g hg | (have := (ho.lt g hg).1; (try have := or_ho_b10 g hg); omega))
   replace hRw := hRw.tr hs (fun g hg => by rw [List.mem_singleton.1 hg]; first | exact .inr (.inl ⟨_, _, hb10, by decide⟩) | exact .inl om)
   replace hzh := nLT hzh (Same.size hs)
   replace hb11 := hb11.tr1 hs om
   clear hs
   replace hb10 := hq
   refine wl_stW hb11 rfl rfl sz63_GVal rfl oneA (fun w26 hq hs => ?_)
   replace hB := hB.tr1 hs lo11
   replace hb2 := hb2.tr1 hs om
   replace hb4 := hb4.tr1 hs om
   replace hb5 := hb5.tr1 hs om
   replace hBT := hBT.tr1 hs lo_hBT_b11
   replace hb7 := hb7.tr1 hs om
   replace hb8 := hb8.tr1 hs om
   replace ho := ho.tr1 hs (fun g hg => by first | exact own_neA ho hb11 dE g hg | (have := (ho.lt g hg).1; (try have := or_ho_b11 g hg); omega))
   replace hRw := hRw.tr hs (fun g hg => by rw [List.mem_singleton.1 hg]; first | exact .inr (.inl ⟨_, _, hb11, by decide⟩) | exact .inl om)
   replace hzh := nLT hzh (Same.size hs)
   replace hb10 := hb10.tr1 hs om
   clear hs
   replace hb11 := hq
   refine x_nil (e_S (c_seq (c_seq ?_)))
   rw [hon, hvn] at hb11
   refine c_monoGO 18 [41, 42, 43, 44, 45, 46, 47, 48, 49, 50, 51, 52, 53, 54, 55, 56, 57, 58] (fun _ => false) (fun ix v wv => match ix with | 0 => v = tabV l.length bu bd | 1 => v = .pointer (some ⟨b8, 0, none⟩) | 2 => v = .slice (some ⟨gN, 0, none⟩) A.length cN | 3 => v = .int .i64 ((i : Nat) : Int) | 4 => v = .pointer (some ⟨gN, 0 + i * 2, none⟩) | 5 => v = .pointer (some ⟨gN, 0 + i * 2 + 0, none⟩) | 6 => v = .int .i64 ((tn : Nat) : Int) | 7 => v = .pointer (some ⟨b11, 1, none⟩) | 8 => v = .int .i64 ((on : Nat) : Int) | 9 => v = .bool (sub l tn on) | 10 => v = .bool (!sub l tn on) | 11 => v = .bool (!sub l tn on) | 12 => (((!sub l tn on)) = false → v = .agg #[.slice (some ⟨gN, 0, none⟩) A.length cN]) ∧ (((!sub l tn on)) = true → v = undef) | 13 => (((!sub l tn on)) = false → v = .int .i64 ((i : Nat) : Int)) ∧ (((!sub l tn on)) = true → v = undef) | 14 => (((!sub l tn on)) = false → v = .int .i64 ((k : Nat) : Int)) ∧ (((!sub l tn on)) = true → v = undef) | 15 => (((!sub l tn on)) = false → v = .int .i64 (tgt (A[i]'hil).ln ((k : Nat) : Int))) ∧ (((!sub l tn on)) = true → v = undef) | 16 => (((!sub l tn on)) = false → v = .bool (decide (0 ≤ tgt (A[i]'hil).ln ((k : Nat) : Int)))) ∧ (((!sub l tn on)) = true → v = undef) | 17 => v = .bool (!sub l tn on || decide (0 ≤ tgt (A[i]'hil).ln ((k : Nat) : Int))) | _ => True) kR kR ?_ ?_ ?_
   ·
    intro ix v wv wv2 h hs
    match ix, h with
    | 0, h => exact h
    | 1, h => exact h
    | 2, h => exact h
    | 3, h => exact h
    | 4, h => exact h
    | 5, h => exact h
    | 6, h => exact h
    | 7, h => exact h
    | 8, h => exact h
    | 9, h => exact h
    | 10, h => exact h
    | 11, h => exact h
    | 12, h => exact h
    | 13, h => exact h
    | 14, h => exact h
    | 15, h => exact h
    | 16, h => exact h
    | 17, h => exact h
    | _ + 18, h => exact trivial
   ·
    intro ix o hix hoq gg wx hs hd hdis
    match ix, hix, hoq with
    | 0, _, hoq =>
     obtain rfl := sI hoq
     have hs0 := hs
     replace hb7 := hb7.tr0 hs
     clear hs
     refine ⟨fun _ => ?_, fun hw => Bool.noConfusion (show true = false from hw)⟩
     refine os_rv (r_ldS U92 rfl rfl hb7.range0 sz92_SFind) ⟨Same.refl _ _, ?_, frsh_no⟩
     exact rfl
    | 1, _, hoq =>
     obtain rfl := sI hoq
     have hs0 := hs
     replace hb8 := hb8.tr0 hs
     clear hs
     refine ⟨fun _ => ?_, fun hw => Bool.noConfusion (show true = false from hw)⟩
     refine os_rv (r_fa U28 sz26_GTgt dE rfl rfl rfl) ⟨Same.refl _ _, ?_, frsh_no⟩
     exact rfl
    | 2, _, hoq =>
     obtain rfl := sI hoq
     have hs0 := hs
     replace hb8 := hb8.tr0 hs
     clear hs
     have d1 : gg 42 = .pointer (some ⟨b8, 0, none⟩) := hd 1 (dep_of kR)
     have e42 := d1
     refine ⟨fun _ => ?_, fun hw => Bool.noConfusion (show true = false from hw)⟩
     refine os_know 42 (.pointer (some ⟨b8, 0, none⟩)) e42 nu ?_
     refine os_rv (r_ld1 (v := .slice _ _ _) U26 rfl rfl (hb8.cell rfl)) ⟨Same.refl _ _, ?_, frsh_no⟩
     exact rfl
    | 3, _, hoq =>
     obtain rfl := sI hoq
     have hs0 := hs
     clear hs
     refine ⟨fun _ => ?_, fun hw => Bool.noConfusion (show true = false from hw)⟩
     refine os_rv (r_mv (v := .int _ _) rfl) ⟨Same.refl _ _, ?_, frsh_no⟩
     exact rfl
    | 4, _, hoq =>
     obtain rfl := sI hoq
     have hs0 := hs
     clear hs
     have d2 : gg 43 = .slice (some ⟨gN, 0, none⟩) A.length cN := hd 2 (dep_of kR)
     have e43 := d2
     have d3 : gg 44 = .int .i64 ((i : Nat) : Int) := hd 3 (dep_of kR)
     have e44 := d3
     refine ⟨fun _ => ?_, fun hw => Bool.noConfusion (show true = false from hw)⟩
     refine os_know 43 (.slice (some ⟨gN, 0, none⟩) A.length cN) e43 nu (os_know 44 (.int .i64 ((i : Nat) : Int)) e44 nu ?_)
     refine os_rv (r_ia (i := i) U26 sz33_GTgt rfl rfl hil rfl) ⟨Same.refl _ _, ?_, frsh_no⟩
     exact rfl
    | 5, _, hoq =>
     obtain rfl := sI hoq
     have hs0 := hs
     clear hs
     have d4 : gg 45 = .pointer (some ⟨gN, 0 + i * 2, none⟩) := hd 4 (dep_of kR)
     have e45 := d4
     refine ⟨fun _ => ?_, fun hw => Bool.noConfusion (show true = false from hw)⟩
     refine os_know 45 (.pointer (some ⟨gN, 0 + i * 2, none⟩)) e45 nu ?_
     refine os_rv (r_fa U33 sz3_GSearch dE rfl rfl rfl) ⟨Same.refl _ _, ?_, frsh_no⟩
     exact rfl
    | 6, _, hoq =>
     obtain rfl := sI hoq
     have hs0 := hs
     replace ho := ho.tr0 hs
     clear hs
     have d5 : gg 46 = .pointer (some ⟨gN, 0 + i * 2 + 0, none⟩) := hd 5 (dep_of kR)
     have e46 := d5
     refine ⟨fun _ => ?_, fun hw => Bool.noConfusion (show true = false from hw)⟩
     refine os_know 46 (.pointer (some ⟨gN, 0 + i * 2 + 0, none⟩)) e46 nu ?_
     refine os_rv (r_ld1 (v := .int _ _) U3 rfl rfl (by have h := (own_tyc ho hil).1; rw [htyi] at h; exact h)) ⟨Same.refl _ _, ?_, frsh_no⟩
     exact rfl
    | 7, _, hoq =>
     obtain rfl := sI hoq
     have hs0 := hs
     replace hb11 := hb11.tr0 hs
     clear hs
     refine ⟨fun _ => ?_, fun hw => Bool.noConfusion (show true = false from hw)⟩
     refine os_rv (r_fa U63 sz3_GSearch dE rfl rfl rfl) ⟨Same.refl _ _, ?_, frsh_no⟩
     exact rfl
    | 8, _, hoq =>
     obtain rfl := sI hoq
     have hs0 := hs
     replace hb11 := hb11.tr0 hs
     clear hs
     have d7 : gg 48 = .pointer (some ⟨b11, 1, none⟩) := hd 7 (dep_of kR)
     have e48 := d7
     refine ⟨fun _ => ?_, fun hw => Bool.noConfusion (show true = false from hw)⟩
     refine os_know 48 (.pointer (some ⟨b11, 1, none⟩)) e48 nu ?_
     refine os_rv (r_ld1 (v := .int _ _) U3 rfl rfl (hb11.cell rfl)) ⟨Same.refl _ _, ?_, frsh_no⟩
     exact rfl
    | 9, _, hoq =>
     obtain rfl := sI hoq
     have hs0 := hs
     replace hBT := hBT.tr0 hs
     clear hs
     have d0 : gg 41 = tabV l.length bu bd := hd 0 (dep_of kR)
     have e41 := d0
     have d6 : gg 47 = .int .i64 ((tn : Nat) : Int) := hd 6 (dep_of kR)
     have e47 := d6
     have d8 : gg 49 = .int .i64 ((on : Nat) : Int) := hd 8 (dep_of kR)
     have e49 := d8
     refine ⟨fun _ => ?_, fun hw => Bool.noConfusion (show true = false from hw)⟩
     refine os_know 41 (tabV l.length bu bd) e41 (by simp [undef, tabV]) (os_know 47 (.int .i64 ((tn : Nat) : Int)) e47 nu (os_know 49 (.int .i64 ((on : Nat) : Int)) e49 nu ?_))
     refine os_cl fn50_SFind (tsub_any l bu bd tn on wx (hTI.mono hBT) hva.s.le htnl honl) rfl (fun e' w2 hr => ?_)
     obtain ⟨rfl, hs⟩ := hr
     exact ⟨_, rfl, Same.of_bel hs, rfl, frsh_no⟩
    | 10, _, hoq =>
     obtain rfl := sI hoq
     have hs0 := hs
     clear hs
     have d9 : gg 50 = .bool (sub l tn on) := hd 9 (dep_of kR)
     have e50 := d9
     refine ⟨fun _ => ?_, fun hw => Bool.noConfusion (show true = false from hw)⟩
     refine os_know 50 (.bool (sub l tn on)) e50 nu ?_
     refine os_rv (r_not rfl) ⟨Same.refl _ _, ?_, frsh_no⟩
     exact rfl
    | 11, _, hoq =>
     obtain rfl := sI hoq
     have hs0 := hs
     clear hs
     have d10 : gg 51 = .bool (!sub l tn on) := hd 10 (dep_of kR)
     have e51 := d10
     refine ⟨fun _ => ?_, fun hw => Bool.noConfusion (show true = false from hw)⟩
     refine os_know 51 (.bool (!sub l tn on)) e51 nu ?_
     refine os_rv (r_mv (v := .bool _) rfl) ⟨Same.refl _ _, ?_, frsh_no⟩
     exact rfl
    | 12, _, hoq =>
     obtain rfl := sI hoq
     have hs0 := hs
     replace hb8 := hb8.tr0 hs
     clear hs
     have d11 : gg 52 = .bool (!sub l tn on) := hd 11 (dep_of kR)
     have e52 := d11
     refine guard_case 52 ((!sub l tn on)) rfl e52 (fun hgc => ?_) (fun hgc => ⟨fun h => absurd (h.symm.trans hgc) dE, fun _ => rfl⟩)
     refine os_know 52 (.bool (!sub l tn on)) e52 nu ?_
     refine os_rv (r_ldS U28 rfl rfl hb8.range0 sz28_GTgt) ⟨Same.refl _ _, ?_, frsh_no⟩
     exact ⟨fun _ => rfl, fun h => absurd (h.symm.trans hgc) dE⟩
    | 13, _, hoq =>
     obtain rfl := sI hoq
     have hs0 := hs
     clear hs
     have d11 : gg 52 = .bool (!sub l tn on) := hd 11 (dep_of kR)
     have e52 := d11
     refine guard_case 52 ((!sub l tn on)) rfl e52 (fun hgc => ?_) (fun hgc => ⟨fun h => absurd (h.symm.trans hgc) dE, fun _ => rfl⟩)
     refine os_know 52 (.bool (!sub l tn on)) e52 nu ?_
     refine os_rv (r_mv (v := .int _ _) rfl) ⟨Same.refl _ _, ?_, frsh_no⟩
     exact ⟨fun _ => rfl, fun h => absurd (h.symm.trans hgc) dE⟩
    | 14, _, hoq =>
     obtain rfl := sI hoq
     have hs0 := hs
     replace hb10 := hb10.tr0 hs
     clear hs
     have d11 : gg 52 = .bool (!sub l tn on) := hd 11 (dep_of kR)
     have e52 := d11
     refine guard_case 52 ((!sub l tn on)) rfl e52 (fun hgc => ?_) (fun hgc => ⟨fun h => absurd (h.symm.trans hgc) dE, fun _ => rfl⟩)
     refine os_know 52 (.bool (!sub l tn on)) e52 nu ?_
     refine os_rv (r_ld1 (v := .int _ _) U3 rfl rfl (hb10.cell rfl)) ⟨Same.refl _ _, ?_, frsh_no⟩
     exact ⟨fun _ => rfl, fun h => absurd (h.symm.trans hgc) dE⟩
    | 15, _, hoq =>
     obtain rfl := sI hoq
     have hs0 := hs
     replace ho := ho.tr0 hs
     replace hRw := hRw.tr hs (by simp)
     clear hs
     have d11 : gg 52 = .bool (!sub l tn on) := hd 11 (dep_of kR)
     have e52 := d11
     have d12 : (((!sub l tn on)) = false → gg 53 = .agg #[.slice (some ⟨gN, 0, none⟩) A.length cN]) ∧ (((!sub l tn on)) = true → gg 53 = undef) := hd 12 (dep_of kR)
     have d13 : (((!sub l tn on)) = false → gg 54 = .int .i64 ((i : Nat) : Int)) ∧ (((!sub l tn on)) = true → gg 54 = undef) := hd 13 (dep_of kR)
     have d14 : (((!sub l tn on)) = false → gg 55 = .int .i64 ((k : Nat) : Int)) ∧ (((!sub l tn on)) = true → gg 55 = undef) := hd 14 (dep_of kR)
     refine guard_case 52 ((!sub l tn on)) rfl e52 (fun hgc => ?_) (fun hgc => ⟨fun h => absurd (h.symm.trans hgc) dE, fun _ => rfl⟩)
     have e53 := d12.1 hgc
     have e54 := d13.1 hgc
     have e55 := d14.1 hgc
     refine os_know 52 (.bool (!sub l tn on)) e52 nu (os_know 53 (.agg #[.slice (some ⟨gN, 0, none⟩) A.length cN]) e53 nu (os_know 54 (.int .i64 ((i : Nat) : Int)) e54 nu (os_know 55 (.int .i64 ((k : Nat) : Int)) e55 nu ?_)))
     refine os_cl fn51 (target_any (some ⟨gN, 0, none⟩) cN fs.length A i ((k : Nat) : Int) wx (rows_nodes ho rfl (fun _ _ => rfl) hRw) hil (loose_ln hAv.lo i hil) (by have := hAv.gok.few i hil; omega)) rfl (fun e' w2 hr => ?_)
     obtain ⟨rfl, hs⟩ := hr
     exact ⟨_, rfl, Same.of_bel hs, ⟨fun _ => rfl, fun h => absurd (h.symm.trans hgc) dE⟩, frsh_no⟩
    | 16, _, hoq =>
     obtain rfl := sI hoq
     have hs0 := hs
     clear hs
     have d11 : gg 52 = .bool (!sub l tn on) := hd 11 (dep_of kR)
     have e52 := d11
     have d15 : (((!sub l tn on)) = false → gg 56 = .int .i64 (tgt (A[i]'hil).ln ((k : Nat) : Int))) ∧ (((!sub l tn on)) = true → gg 56 = undef) := hd 15 (dep_of kR)
     refine guard_case 52 ((!sub l tn on)) rfl e52 (fun hgc => ?_) (fun hgc => ⟨fun h => absurd (h.symm.trans hgc) dE, fun _ => rfl⟩)
     have e56 := d15.1 hgc
     refine os_know 52 (.bool (!sub l tn on)) e52 nu (os_know 56 (.int .i64 (tgt (A[i]'hil).ln ((k : Nat) : Int))) e56 nu ?_)
     refine os_rv (r_geq rfl rfl) ⟨Same.refl _ _, ?_, frsh_no⟩
     exact ⟨fun _ => rfl, fun h => absurd (h.symm.trans hgc) dE⟩
    | 17, _, hoq =>
     obtain rfl := sI hoq
     have hs0 := hs
     clear hs
     have d11 : gg 52 = .bool (!sub l tn on) := hd 11 (dep_of kR)
     have e52 := d11
     have d16 : (((!sub l tn on)) = false → gg 57 = .bool (decide (0 ≤ tgt (A[i]'hil).ln ((k : Nat) : Int)))) ∧ (((!sub l tn on)) = true → gg 57 = undef) := hd 16 (dep_of kR)
     refine ⟨fun _ => ?_, fun hw => Bool.noConfusion (show true = false from hw)⟩
     cases hcc : (!sub l tn on) with
     | true =>
      rw [hcc] at e52
      refine os_know 52 (.bool true) e52 nu ?_
      refine os_rv (r_pt (v := .bool _) rfl rfl) ⟨Same.refl _ _, ?_, frsh_no⟩
      exact rfl
     | false =>
      have e57 := d16.1 hcc
      rw [hcc] at e52
      refine os_know 52 (.bool false) e52 nu (os_know 57 (.bool (decide (0 ≤ tgt (A[i]'hil).ln ((k : Nat) : Int)))) e57 nu ?_)
      refine os_rv (r_pf (v := .bool _) rfl rfl) ⟨Same.refl _ _, ?_, frsh_no⟩
      exact rfl
    | _ + 18, hix, _ => exact absurd hix om
   intro gg w27 hs hR hdis
   have hs0 := hs
   replace hB := hB.tr0 hs
   replace hb2 := hb2.tr0 hs
   replace hb4 := hb4.tr0 hs
   replace hb5 := hb5.tr0 hs
   replace hBT := hBT.tr0 hs
   replace hb7 := hb7.tr0 hs
   replace hb8 := hb8.tr0 hs
   replace ho := ho.tr0 hs
   replace hRw := hRw.tr hs (by simp)
   replace hzh := nLT hzh (Same.size hs)
   replace hb10 := hb10.tr0 hs
   replace hb11 := hb11.tr0 hs
   clear hs
   have d17 : gg 58 = .bool (!sub l tn on || decide (0 ≤ tgt (A[i]'hil).ln ((k : Nat) : Int))) := hR 17 dE
   have e58 := d17
   refine wl_know 58 (.bool (!sub l tn on || decide (0 ≤ tgt (A[i]'hil).ln ((k : Nat) : Int)))) e58 nu (x_nil (e_S ?_))
   refine c_if rfl (fun c58 => ?_) (fun c58 => ?_)
   ·
    have hskip : CompN l fs A i k := by
      unfold CompN
      intro hsb
      rw [htn, Int.toNat_natCast, hof] at hsb
      rw [hsb] at c58
      rw [nd_eq hil]
      simpa using c58
    refine c_exit (e_Sx (e_Bx (e_S (c_region (wl (r_add rfl rfl rfl om) ?_)))))
    refine wmI rfl (x_nil (e_LS (fs.length - (k + 1)) (lt_next hmk hkl) agA ?_))
    first
      | exact ⟨k + 1, A, nm, _, _, V, by omega, rfl, rfl, hil, hFi, h60, hdn.skip hskip, hB, hBT, hb2, hb4, hb5, hb7, hb8, ho, hRw, hzh⟩
      | exact ⟨k + 1, addN A i k (ftAt fs ((k : Nat) : Int)).val, _, _, _, _, by omega, rfl, rfl, by rw [addN_len]; omega, hFi.add hC hnmi (hFi.lack hC hnmi hkl hsubT htgN) htgN, by rw [addN_len]; omega, hdn.add hC hFi hil htgN, hB, hBT, hb2, hb4, hb5, hb7, hb8, ho, hRw, hzh⟩
   have hc58 : sub l tn on = true ∧ tgt (A[i]'hil).ln ((k : Nat) : Int) < 0 := by
     cases hsb : sub l tn on with
     | false => rw [hsb] at c58; cases c58
     | true => rw [hsb] at c58; refine ⟨rfl, ?_⟩; simpa using c58
   have htgN : tgt (nd A i).ln ((k : Nat) : Int) < 0 := by rw [nd_eq hil]; exact hc58.2
   have hsubT : sub l (nd A i).ty.toNat (ftAt fs ((k : Nat) : Int)).of.toNat = true := by rw [htn, Int.toNat_natCast, hof]; exact hc58.1
   refine c_skip (e_S (c_seq (c_seq (c_region (wl (r_fa U28 sz26_GTgt dE rfl rfl rfl) ?_)))))
   refine wl (r_ld1 (v := .slice _ _ _) U26 rfl rfl (hb8.cell rfl)) (wl (r_len U26 rfl) (wl (r_eql rfl rfl) (x_nil (e_S ?_))))
   refine c_ifd rfl (fun c62 => ?_) (fun c62 => ?_)
   ·
    have hmany := hFi.over hC hil hkl hsubT htgN om
    refine c_seq (c_region (wl (r_bd (vs := #[]) (cs := #[.slice none 0 0]) (by simp) kR) ?_))
    refine wl_cl fn52 (wfault_any _ _ _) rfl (fun e' w28 hr => ?_)
    obtain ⟨rfl, hs⟩ := hr
    replace hs := Same.of_bel hs
    replace hB := hB.tr0 hs
    replace hb4 := hb4.tr0 hs
    replace hb5 := hb5.tr0 hs
    clear hs
    refine ⟨_, rfl, ?_⟩
    refine wl_stW hb4 rfl rfl sz28_GTgt rfl oneA (fun w29 hq hs => ?_)
    replace hB := hB.tr1 hs lo4
    replace hb5 := hb5.tr1 hs om
    clear hs
    replace hb4 := hq
    refine wl_stW hb5 rfl rfl sz35_SFind rfl oneA (fun w30 hq hs => ?_)
    replace hB := hB.tr1 hs lo5
    replace hb4 := hb4.tr1 hs om
    clear hs
    replace hb5 := hq
    refine x_nil (e_S (c_ret (e_Sr (e_Br (e_Sr ?_)))))
    refine e_LSr (e_Br (e_Br (e_Sr (e_LSr (e_Br ?_)))))
    refine e_Sr (fin2 (.inl rfl) rfl (rr_cell U28 rfl rfl hb4.range0 sz28_GTgt) (rr_cell U35 rfl rfl hb5.range0 sz35_SFind) ?_)
    exact ⟨⟨none, [], 0, (17, -1), rfl, fun w2 _ => nodes_nil w2 none, .inr ⟨h0, o, hD, .inr ⟨hCe ▸ hmany, rfl, rfl⟩⟩⟩, hB⟩
   have h59 : A.length < 60 := by omega
   refine c_skip (e_S (c_seq ?_))
   obtain ⟨AR, cR, hVk, hoR0⟩ := hRw.1 i hil
   have hoR : Own w27 zlo 30 2 AR (nd A i).ln.length cR (lnV (nd A i).ln) := hoR0
   clear hoR0
   have hlw : (nd A i).ln.length ≤ 1000 := by rw [nd_eq hil]; have := hAv.gok.few i hil; omega
   have hVk2 : V i = .slice AR (nd A i).ln.length cR := hVk
   refine c_region (wl (r_fa U28 sz26_GTgt dE rfl rfl rfl) (wl (r_ld1 (v := .slice _ _ _) U26 rfl rfl (hb8.cell rfl)) (wmI rfl (wl (r_ia (i := i) U26 sz33_GTgt rfl rfl hil rfl) (wl (r_fa U33 sz31_GTgt dE rfl rfl rfl) ?_)))))
   refine wl (r_ld1 (v := .slice _ _ _) U31 rfl rfl (by have h := (own_tyc ho hil).2; rw [hVk2] at h; exact h)) (wl (r_mf rfl) ?_)
   refine wl_cl fn53 (ixf_any AR cR b10 (nd A i).ln ((k : Nat) : Int) _ (own_links hoR) hb10) rfl (fun e' w31 hr => ?_)
   obtain ⟨⟨rx, rfl, hix⟩, hs⟩ := hr
   replace hs := Same.of_bel hs
   replace hB := hB.tr0 hs
   replace hb2 := hb2.tr0 hs
   replace hb4 := hb4.tr0 hs
   replace hb5 := hb5.tr0 hs
   replace hBT := hBT.tr0 hs
   replace hb7 := hb7.tr0 hs
   replace hb8 := hb8.tr0 hs
   replace ho := ho.tr0 hs
   replace hRw := hRw.tr hs (by simp)
   replace hzh := nLT hzh (Same.size hs)
   replace hb10 := hb10.tr0 hs
   replace hb11 := hb11.tr0 hs
   clear hs
   replace hoR := (hRw.1 i hil)
   obtain ⟨AR2, cR2, hVk3, hoR2⟩ := hoR
   have e3 : AR2 = AR ∧ cR2 = cR := by rw [hVk2] at hVk3; cases hVk3; exact ⟨rfl, rfl⟩
   obtain ⟨rfl, rfl⟩ := e3
   have hoR : Own w31 zlo 30 2 AR2 (nd A i).ln.length cR2 (lnV (nd A i).ln) := hoR2
   have hixa := ix_at (hFi.srt i hil) (tgt_neg (hFi.srt i hil) (hFi.tpos hC hnmi) htgN) hix
   refine ⟨_, rfl, ?_⟩
   refine waI rfl (x_nil (e_S (c_seq (c_seq (c_region ?_)))))
   refine wmI rfl (wl (r_lss rfl rfl) (x_nil (e_S ?_)))
   refine c_ifd rfl (fun c74 => ?_) (fun c74 => ?_)
   ·
    obtain ⟨at_, hat⟩ : ∃ z : Nat, z = (nd A i).ln.length := ⟨_, rfl⟩
    have hal : at_ ≤ (nd A i).ln.length := Nat.le_of_eq hat
    have hixT : (∀ j (hj : j < (nd A i).ln.length), j < at_ → ((nd A i).ln[j]).1 < ((k : Nat) : Int)) ∧ ∀ j (hj : j < (nd A i).ln.length), at_ ≤ j → ((k : Nat) : Int) < ((nd A i).ln[j]).1 := by subst hat; exact hixa.1 c74
    have hins := insF_at (t := ((A.length : Nat) : Int)) hixT.1 hixT.2
    refine c_region (wl (r_fa U28 sz26_GTgt dE rfl rfl rfl) (wl (r_ld1 (v := .slice _ _ _) U26 rfl rfl (hb8.cell rfl)) (wmI rfl (wl (r_ia (i := i) U26 sz33_GTgt rfl rfl hil rfl) (wl (r_fa U33 sz31_GTgt dE rfl rfl rfl) ?_)))))
    refine wl (r_ld1 (v := .slice _ _ _) U31 rfl rfl (by have h := (own_tyc ho hil).2; rw [hVk2] at h; exact h)) (wl (r_len U31 rfl) (waI rfl (x_nil (e_S (c_seq ?_)))))
    obtain ⟨gN2, curN, eN, hgN3, hbN, hcs, hcv, hcb⟩ := ho.open_ om
    cases eN
    have hcell : curN[0 + i * 2 + 1]? = some (.slice AR2 (nd A i).ln.length cR2) := by
      rw [hcv _ om, Nat.zero_add, (ndV_get (tyA A) V hil).2, hVk2]
    have or_hoR_b10 := own_neA hoR hb10 dE
    have or_hoR_b11 := own_neA hoR hb11 dE
    have or_hoR_b8 := own_neA hoR hb8 dE
    have or_hoR_gN := own_neA hoR hbN dE
    have nN10 : b10 ≠ gN := fun e => absurd (blk_type (e ▸ hb10) hbN) dE
    have nN11 : b11 ≠ gN := fun e => absurd (blk_type (e ▸ hb11) hbN) dE
    have nN8 : b8 ≠ gN := fun e => absurd (blk_type (e ▸ hb8) hbN) dE
    have zo := fun g hg => (hoR.lt g hg).2
    have lo_hBT_gN : wT.heap.size ≤ gN := by omega
    refine c_monoSO 19 [82, 83, 84, 85, 86, 87, 88, 89, 90, 91, 92, 93, 94, 95, 96, 97, 98, 99, 100] (aL AR2) 16 (fun ix v wv => match ix with | 0 => v = .pointer (some ⟨b8, 0, none⟩) | 1 => v = .slice (some ⟨gN, 0, none⟩) A.length cN | 2 => v = .int .i64 ((i : Nat) : Int) | 3 => v = .pointer (some ⟨b8, 0, none⟩) | 4 => v = .slice (some ⟨gN, 0, none⟩) A.length cN | 5 => v = .int .i64 ((i : Nat) : Int) | 6 => v = .pointer (some ⟨gN, 0 + i * 2, none⟩) | 7 => v = .pointer (some ⟨gN, 0 + i * 2 + 1, none⟩) | 8 => v = .slice AR2 (nd A i).ln.length cR2 | 9 => v = .int .i64 ((at_ : Nat) : Int) | 10 => v = .int .i64 ((k : Nat) : Int) | 11 => v = .pointer (some ⟨b8, 0, none⟩) | 12 => v = .slice (some ⟨gN, 0, none⟩) A.length cN | 13 => v = .int .i64 ((A.length : Nat) : Int) | 14 => v = .agg #[.int .i64 ((k : Nat) : Int), .int .i64 ((A.length : Nat) : Int)] | 15 => ∃ b, v = .slice (some ⟨b, 0, none⟩) 1 1 ∧ w31.heap.size ≤ b ∧ Blk wv b 30 #[.int .i64 ((k : Nat) : Int), .int .i64 ((A.length : Nat) : Int)] | 16 => ∃ (A9 : Option Addr) (c9 : Nat), v = .slice A9 ((nd A i).ln.length + 1) c9 ∧ Own wv zlo 30 2 A9 ((nd A i).ln.length + 1) c9 (lnV (insL (nd A i).ln at_ (((k : Nat) : Int), ((A.length : Nat) : Int)))) ∧ ∀ g ∈ aL A9, g ∈ aL AR2 ∨ w31.heap.size ≤ g | 17 => v = .pointer (some ⟨gN, 0 + i * 2, none⟩) | 18 => v = .pointer (some ⟨gN, 0 + i * 2 + 1, none⟩) | _ => True) (fun _ => True) kR kR ?_ (fun _ _ _ _ => trivial) ?_ ?_ dE ?_
    ·
     intro ix v wv wv2 h hs
     match ix, h with
     | 0, h => exact h
     | 1, h => exact h
     | 2, h => exact h
     | 3, h => exact h
     | 4, h => exact h
     | 5, h => exact h
     | 6, h => exact h
     | 7, h => exact h
     | 8, h => exact h
     | 9, h => exact h
     | 10, h => exact h
     | 11, h => exact h
     | 12, h => exact h
     | 13, h => exact h
     | 14, h => exact h
     | 15, h =>
      obtain ⟨b97, e97, lo97, hb97⟩ := (show ∃ b, v = .slice (some ⟨b, 0, none⟩) 1 1 ∧ w31.heap.size ≤ b ∧ Blk wv b 30 #[.int .i64 ((k : Nat) : Int), .int .i64 ((A.length : Nat) : Int)] from h)
      exact ⟨b97, e97, lo97, hb97.tr0 hs⟩
     | 16, h =>
      obtain ⟨A9, c9, e98, ho98, hg98⟩ := (show ∃ (A9 : Option Addr) (c9 : Nat), v = .slice A9 ((nd A i).ln.length + 1) c9 ∧ Own wv zlo 30 2 A9 ((nd A i).ln.length + 1) c9 (lnV (insL (nd A i).ln at_ (((k : Nat) : Int), ((A.length : Nat) : Int)))) ∧ ∀ g ∈ aL A9, g ∈ aL AR2 ∨ w31.heap.size ≤ g from h)
      exact ⟨A9, c9, e98, ho98.tr0 hs, hg98⟩
     | 17, h => exact h
     | 18, h => exact h
     | _ + 19, h => exact trivial
    ·
     intro ix o hix hne hoq gg wx hs hd
     match ix, hix, hne, hoq with
     | 0, _, _, hoq =>
      obtain rfl := sI hoq
      have hs0 := hs
      replace hb8 := hb8.tr hs (fun hx => by have := (hoR.lt _ hx).1; (try have := or_hoR_b8 _ hx); omega)
      refine os_rv (r_fa U28 sz26_GTgt dE rfl rfl rfl) ⟨Same.refl _ _, ?_⟩
      exact rfl
     | 1, _, _, hoq =>
      obtain rfl := sI hoq
      have hs0 := hs
      replace hb8 := hb8.tr hs (fun hx => by have := (hoR.lt _ hx).1; (try have := or_hoR_b8 _ hx); omega)
      have d0 : gg 82 = .pointer (some ⟨b8, 0, none⟩) := hd 0 (dep_of kR)
      have e82 := d0
      refine os_know 82 (.pointer (some ⟨b8, 0, none⟩)) e82 nu ?_
      refine os_rv (r_ld1 (v := .slice _ _ _) U26 rfl rfl (hb8.cell rfl)) ⟨Same.refl _ _, ?_⟩
      exact rfl
     | 2, _, _, hoq =>
      obtain rfl := sI hoq
      have hs0 := hs
      refine os_rv (r_mv (v := .int _ _) rfl) ⟨Same.refl _ _, ?_⟩
      exact rfl
     | 3, _, _, hoq =>
      obtain rfl := sI hoq
      have hs0 := hs
      replace hb8 := hb8.tr hs (fun hx => by have := (hoR.lt _ hx).1; (try have := or_hoR_b8 _ hx); omega)
      refine os_rv (r_fa U28 sz26_GTgt dE rfl rfl rfl) ⟨Same.refl _ _, ?_⟩
      exact rfl
     | 4, _, _, hoq =>
      obtain rfl := sI hoq
      have hs0 := hs
      replace hb8 := hb8.tr hs (fun hx => by have := (hoR.lt _ hx).1; (try have := or_hoR_b8 _ hx); omega)
      have d3 : gg 85 = .pointer (some ⟨b8, 0, none⟩) := hd 3 (dep_of kR)
      have e85 := d3
      refine os_know 85 (.pointer (some ⟨b8, 0, none⟩)) e85 nu ?_
      refine os_rv (r_ld1 (v := .slice _ _ _) U26 rfl rfl (hb8.cell rfl)) ⟨Same.refl _ _, ?_⟩
      exact rfl
     | 5, _, _, hoq =>
      obtain rfl := sI hoq
      have hs0 := hs
      refine os_rv (r_mv (v := .int _ _) rfl) ⟨Same.refl _ _, ?_⟩
      exact rfl
     | 6, _, _, hoq =>
      obtain rfl := sI hoq
      have hs0 := hs
      have d4 : gg 86 = .slice (some ⟨gN, 0, none⟩) A.length cN := hd 4 (dep_of kR)
      have e86 := d4
      have d5 : gg 87 = .int .i64 ((i : Nat) : Int) := hd 5 (dep_of kR)
      have e87 := d5
      refine os_know 86 (.slice (some ⟨gN, 0, none⟩) A.length cN) e86 nu (os_know 87 (.int .i64 ((i : Nat) : Int)) e87 nu ?_)
      refine os_rv (r_ia (i := i) U26 sz33_GTgt rfl rfl hil rfl) ⟨Same.refl _ _, ?_⟩
      exact rfl
     | 7, _, _, hoq =>
      obtain rfl := sI hoq
      have hs0 := hs
      have d6 : gg 88 = .pointer (some ⟨gN, 0 + i * 2, none⟩) := hd 6 (dep_of kR)
      have e88 := d6
      refine os_know 88 (.pointer (some ⟨gN, 0 + i * 2, none⟩)) e88 nu ?_
      refine os_rv (r_fa U33 sz31_GTgt dE rfl rfl rfl) ⟨Same.refl _ _, ?_⟩
      exact rfl
     | 8, _, _, hoq =>
      obtain rfl := sI hoq
      have hs0 := hs
      replace hbN := hbN.tr hs (fun hx => by have := (hoR.lt _ hx).1; (try have := or_hoR_gN _ hx); omega)
      have d7 : gg 89 = .pointer (some ⟨gN, 0 + i * 2 + 1, none⟩) := hd 7 (dep_of kR)
      have e89 := d7
      refine os_know 89 (.pointer (some ⟨gN, 0 + i * 2 + 1, none⟩)) e89 nu ?_
      refine os_rv (r_ld1 (v := .slice _ _ _) U31 rfl rfl (hbN.cell hcell)) ⟨Same.refl _ _, ?_⟩
      exact rfl
     | 9, _, _, hoq =>
      obtain rfl := sI hoq
      have hs0 := hs
      refine os_rv (r_mv (v := .int _ _) rfl) ⟨Same.refl _ _, ?_⟩
      exact (by first | rfl | exact congrArg (fun n : Nat => Value.int .i64 ((n : Nat) : Int)) hat.symm)
     | 10, _, _, hoq =>
      obtain rfl := sI hoq
      have hs0 := hs
      replace hb10 := hb10.tr hs (fun hx => by have := (hoR.lt _ hx).1; (try have := or_hoR_b10 _ hx); omega)
      refine os_rv (r_ld1 (v := .int _ _) U3 rfl rfl (hb10.cell rfl)) ⟨Same.refl _ _, ?_⟩
      exact rfl
     | 11, _, _, hoq =>
      obtain rfl := sI hoq
      have hs0 := hs
      replace hb8 := hb8.tr hs (fun hx => by have := (hoR.lt _ hx).1; (try have := or_hoR_b8 _ hx); omega)
      refine os_rv (r_fa U28 sz26_GTgt dE rfl rfl rfl) ⟨Same.refl _ _, ?_⟩
      exact rfl
     | 12, _, _, hoq =>
      obtain rfl := sI hoq
      have hs0 := hs
      replace hb8 := hb8.tr hs (fun hx => by have := (hoR.lt _ hx).1; (try have := or_hoR_b8 _ hx); omega)
      have d11 : gg 93 = .pointer (some ⟨b8, 0, none⟩) := hd 11 (dep_of kR)
      have e93 := d11
      refine os_know 93 (.pointer (some ⟨b8, 0, none⟩)) e93 nu ?_
      refine os_rv (r_ld1 (v := .slice _ _ _) U26 rfl rfl (hb8.cell rfl)) ⟨Same.refl _ _, ?_⟩
      exact rfl
     | 13, _, _, hoq =>
      obtain rfl := sI hoq
      have hs0 := hs
      have d12 : gg 94 = .slice (some ⟨gN, 0, none⟩) A.length cN := hd 12 (dep_of kR)
      have e94 := d12
      refine os_know 94 (.slice (some ⟨gN, 0, none⟩) A.length cN) e94 nu ?_
      refine os_rv (r_len U26 rfl) ⟨Same.refl _ _, ?_⟩
      exact rfl
     | 14, _, _, hoq =>
      obtain rfl := sI hoq
      have hs0 := hs
      have d10 : gg 92 = .int .i64 ((k : Nat) : Int) := hd 10 (dep_of kR)
      have e92 := d10
      have d13 : gg 95 = .int .i64 ((A.length : Nat) : Int) := hd 13 (dep_of kR)
      have e95 := d13
      refine os_know 92 (.int .i64 ((k : Nat) : Int)) e92 nu (os_know 95 (.int .i64 ((A.length : Nat) : Int)) e95 nu ?_)
      refine os_rv (r_bd2 (v0 := .int _ _) (v1 := .int _ _) (fun v0 v1 => #[v0, v1]) rfl rfl kR) ⟨Same.refl _ _, ?_⟩
      exact rfl
     | 15, _, _, hoq =>
      obtain rfl := sI hoq
      have hs0 := hs
      have d14 : gg 96 = .agg #[.int .i64 ((k : Nat) : Int), .int .i64 ((A.length : Nat) : Int)] := hd 14 (dep_of kR)
      have e96 := d14
      refine os_know 96 (.agg #[.int .i64 ((k : Nat) : Int), .int .i64 ((A.length : Nat) : Int)]) e96 nu ?_
      refine os_wl (fun ops Q K => ?_)
      refine wl_bs (cs := #[_, _]) [(0, .agg _)] rfl U31 sz30_GSearch ze30_GTgt dE dE kR rfl (fun b97 w32 hb97 hs hr => ?_)
      exact K _ _ ⟨hs, ⟨_, rfl, nLT hs0.size hr, hb97⟩⟩
     | 16, _, hne, _ => exact absurd rfl hne
     | 17, _, _, hoq =>
      obtain rfl := sI hoq
      have hs0 := hs
      have d1 : gg 83 = .slice (some ⟨gN, 0, none⟩) A.length cN := hd 1 (dep_of kR)
      have e83 := d1
      have d2 : gg 84 = .int .i64 ((i : Nat) : Int) := hd 2 (dep_of kR)
      have e84 := d2
      refine os_know 83 (.slice (some ⟨gN, 0, none⟩) A.length cN) e83 nu (os_know 84 (.int .i64 ((i : Nat) : Int)) e84 nu ?_)
      refine os_rv (r_ia (i := i) U26 sz33_GTgt rfl rfl hil rfl) ⟨Same.refl _ _, ?_⟩
      exact rfl
     | 18, _, _, hoq =>
      obtain rfl := sI hoq
      have hs0 := hs
      have d17 : gg 99 = .pointer (some ⟨gN, 0 + i * 2, none⟩) := hd 17 (dep_of kR)
      have e99 := d17
      refine os_know 99 (.pointer (some ⟨gN, 0 + i * 2, none⟩)) e99 nu ?_
      refine os_rv (r_fa U33 sz31_GTgt dE rfl rfl rfl) ⟨Same.refl _ _, ?_⟩
      exact rfl
     | _ + 19, hix, _, _ => exact absurd hix om
    ·
     intro o hoq gg wx hs hd
     obtain rfl := sI hoq
     have hs0 := hs
     replace hB := hB.tr0 hs
     replace hb2 := hb2.tr0 hs
     replace hb4 := hb4.tr0 hs
     replace hb5 := hb5.tr0 hs
     replace hBT := hBT.tr0 hs
     replace hb7 := hb7.tr0 hs
     replace hb8 := hb8.tr0 hs
     replace hzh := nLT hzh (Same.size hs)
     replace hb10 := hb10.tr0 hs
     replace hb11 := hb11.tr0 hs
     replace hbN := hbN.tr0 hs
     replace hoR := hoR.tr0 hs
     clear hs
     have d8 : gg 90 = .slice AR2 (nd A i).ln.length cR2 := hd 8 (dep_of kR)
     have e90 := d8
     have d9 : gg 91 = .int .i64 ((at_ : Nat) : Int) := hd 9 (dep_of kR)
     have e91 := d9
     have d15 : ∃ b, gg 97 = .slice (some ⟨b, 0, none⟩) 1 1 ∧ w31.heap.size ≤ b ∧ Blk wx b 30 #[.int .i64 ((k : Nat) : Int), .int .i64 ((A.length : Nat) : Int)] := hd 15 (dep_of kR)
     obtain ⟨b97, e97, lo97, hb97⟩ := d15
     refine os_know 90 (.slice AR2 (nd A i).ln.length cR2) e90 nu (os_know 91 (.int .i64 ((at_ : Nat) : Int)) e91 nu (os_know 97 (.slice (some ⟨b97, 0, none⟩) 1 1) e97 nu ?_))
     refine os_cl fn55 (insl_any (k := at_) (x := (((k : Nat) : Int), ((A.length : Nat) : Int))) wx hoR hb97 (fun g hg e => by have := zo g hg; omega) hal om hzh) rfl (fun e' w2 hr => ?_)
     obtain ⟨A9, c9, rfl, ho98, hs2, hg98⟩ := hr
     refine ⟨_, rfl, hs2, ⟨_, _, rfl, ho98, fun g hg => (hg98 g hg).imp id (fun h => nLT hs0.size h)⟩, trivial, fun kx v hne h => ?_⟩
     match kx, hne, h with
     | 0, _, h => exact h
     | 1, _, h => exact h
     | 2, _, h => exact h
     | 3, _, h => exact h
     | 4, _, h => exact h
     | 5, _, h => exact h
     | 6, _, h => exact h
     | 7, _, h => exact h
     | 8, _, h => exact h
     | 9, _, h => exact h
     | 10, _, h => exact h
     | 11, _, h => exact h
     | 12, _, h => exact h
     | 13, _, h => exact h
     | 14, _, h => exact h
     | 15, _, h =>
      obtain ⟨b97, e97, lo97, hb97⟩ := (show ∃ b, v = .slice (some ⟨b, 0, none⟩) 1 1 ∧ w31.heap.size ≤ b ∧ Blk wx b 30 #[.int .i64 ((k : Nat) : Int), .int .i64 ((A.length : Nat) : Int)] from h)
      exact ⟨b97, e97, lo97, hb97.tr hs2 (fun hx => by have := zo _ hx; omega)⟩
     | 16, hne, _ => exact absurd rfl hne
     | 17, _, h => exact h
     | 18, _, h => exact h
     | _ + 19, _, _ => exact trivial
    intro gg w33 hs _ hR
    have hs0 := hs
    replace hB := hB.tr hs (fun g hg => nLT om (hoR.lt g hg).1)
    replace hb2 := hb2.tr hs (fun hx => by have := (hoR.lt _ hx).1; (try have := or_hoR_b2 _ hx); omega)
    replace hb4 := hb4.tr hs (fun hx => by have := (hoR.lt _ hx).1; (try have := or_hoR_b4 _ hx); omega)
    replace hb5 := hb5.tr hs (fun hx => by have := (hoR.lt _ hx).1; (try have := or_hoR_b5 _ hx); omega)
    replace hBT := hBT.tr hs (fun g hg => nLT om (hoR.lt g hg).1)
    replace hb7 := hb7.tr hs (fun hx => by have := (hoR.lt _ hx).1; (try have := or_hoR_b7 _ hx); omega)
    replace hb8 := hb8.tr hs (fun hx => by have := (hoR.lt _ hx).1; (try have := or_hoR_b8 _ hx); omega)
    replace hzh := nLT hzh (Same.size hs)
    replace hb10 := hb10.tr hs (fun hx => by have := (hoR.lt _ hx).1; (try have := or_hoR_b10 _ hx); omega)
    replace hb11 := hb11.tr hs (fun hx => by have := (hoR.lt _ hx).1; (try have := or_hoR_b11 _ hx); omega)
    replace hbN := hbN.tr hs (fun hx => by have := (hoR.lt _ hx).1; (try have := or_hoR_gN _ hx); omega)
    have d16 : ∃ (A9 : Option Addr) (c9 : Nat), gg 98 = .slice A9 ((nd A i).ln.length + 1) c9 ∧ Own w33 zlo 30 2 A9 ((nd A i).ln.length + 1) c9 (lnV (insL (nd A i).ln at_ (((k : Nat) : Int), ((A.length : Nat) : Int)))) ∧ ∀ g ∈ aL A9, g ∈ aL AR2 ∨ w31.heap.size ≤ g := hR 16 dE
    obtain ⟨A9, c9, e98, ho98, hg98⟩ := d16
    have d17 : gg 99 = .pointer (some ⟨gN, 0 + i * 2, none⟩) := hR 17 dE
    have e99 := d17
    have d18 : gg 100 = .pointer (some ⟨gN, 0 + i * 2 + 1, none⟩) := hR 18 dE
    have e100 := d18
    have hRw := hRw.put (ys := (insL (nd A i).ln at_ (((k : Nat) : Int), ((A.length : Nat) : Int)))) hil hVk2 hs0 (by rw [insL_len]; exact ho98) hg98
    refine wl_know 98 (.slice A9 ((nd A i).ln.length + 1) c9) e98 nu (wl_know 99 (.pointer (some ⟨gN, 0 + i * 2, none⟩)) e99 nu (wl_know 100 (.pointer (some ⟨gN, 0 + i * 2 + 1, none⟩)) e100 nu ?_))
    refine wl_st1 (v := .slice _ _ _) hbN rfl rfl sz31_GTgt (by show 0 + i * 2 + 1 < curN.size; omega) rfl rfl (fun w34 hq hs => ?_)
    replace hB := hB.tr1 hs om
    replace hb2 := hb2.tr1 hs om
    replace hb4 := hb4.tr1 hs om
    replace hb5 := hb5.tr1 hs om
    replace hBT := hBT.tr1 hs lo_hBT_gN
    replace hb7 := hb7.tr1 hs om
    replace hb8 := hb8.tr1 hs om
    replace hzh := nLT hzh (Same.size hs)
    replace hb10 := hb10.tr1 hs om
    replace hb11 := hb11.tr1 hs om
    replace hRw := hRw.tr hs (fun g hg => by rw [List.mem_singleton.1 hg]; first | exact .inr (.inl ⟨_, _, hbN, by decide⟩) | exact .inl om)
    clear hs
    replace hbN := hq
    have ho := hcb w34 _ _ hbN
    rw [ndV_set1] at ho
    rw [← insL_len (nd A i).ln at_ (((k : Nat) : Int), ((A.length : Nat) : Int))] at ho
    refine x_nil (e_S ?_)
    have or_ho_b8 := own_neA ho hb8 dE
    have or_ho_b10 := own_neA ho hb10 dE
    have or_ho_b11 := own_neA ho hb11 dE
    refine c_region (wl (r_fa U28 sz26_GTgt dE rfl rfl rfl) (wl (r_ld1 (v := .slice _ _ _) U26 rfl rfl (hb8.cell rfl)) (wl (r_fa U63 sz3_GSearch dE rfl rfl rfl) (wl (r_ld1 (v := .int _ _) U3 rfl rfl (hb11.cell rfl)) (wl (r_bd1 (v0 := .int _ _) (fun v0 => #[v0, .slice none 0 0]) rfl kR) ?_)))))
    refine wl_bs (cs := #[_, _]) [(0, .agg _)] rfl U26 sz33_GTgt ze33_GTgt dE dE kR rfl (fun b106 w35 hb106 hs hr => ?_)
    have or_b2_b106 : b2 < b106 := nLL hb2.lt hr
    have or_b4_b106 : b4 < b106 := nLL hb4.lt hr
    have or_b5_b106 : b5 < b106 := nLL hb5.lt hr
    have or_b7_b106 : b7 < b106 := nLL hb7.lt hr
    have or_b8_b106 : b8 < b106 := nLL hb8.lt hr
    have or_hzh_b106 := (nLT hzh hr)
    have or_b10_b106 : b10 < b106 := nLL hb10.lt hr
    have or_b11_b106 : b11 < b106 := nLL hb11.lt hr
    have or_ho_b106 := (fun g hg => nLL (ho.lt g hg).2 hr)
    have lo106 := nLT (Bel.size hB) hr
    have lo_hBT_b106 := nLT (Bel.size hBT) hr
    replace hB := hB.tr0 hs
    replace hb2 := hb2.tr0 hs
    replace hb4 := hb4.tr0 hs
    replace hb5 := hb5.tr0 hs
    replace hBT := hBT.tr0 hs
    replace hb7 := hb7.tr0 hs
    replace hb8 := hb8.tr0 hs
    replace hzh := nLT hzh (Same.size hs)
    replace hb10 := hb10.tr0 hs
    replace hb11 := hb11.tr0 hs
    replace hRw := hRw.tr hs (by simp)
    replace ho := ho.tr0 hs
    clear hs
    clear hr
    refine wl_app U26 in33 rfl dE ho hb106 rfl rfl rfl oneA dE om om hzh (fun g107 cap107 w36 ho107 hs hg => ?_)
    have ne_ho107_b2 : g107 ≠ b2 := fun e => by
     have hl := hb2.lt
     rcases hg with hg | hg
     · have h1 := ho.lt g107 (by rw [hg]; exact List.mem_singleton.2 rfl)
       (try have := or_ho_b2 g107 (by rw [hg]; exact List.mem_singleton.2 rfl)); omega
     · omega
    have ne_ho107_b4 : g107 ≠ b4 := fun e => by
     have hl := hb4.lt
     rcases hg with hg | hg
     · have h1 := ho.lt g107 (by rw [hg]; exact List.mem_singleton.2 rfl)
       (try have := or_ho_b4 g107 (by rw [hg]; exact List.mem_singleton.2 rfl)); omega
     · omega
    have ne_ho107_b5 : g107 ≠ b5 := fun e => by
     have hl := hb5.lt
     rcases hg with hg | hg
     · have h1 := ho.lt g107 (by rw [hg]; exact List.mem_singleton.2 rfl)
       (try have := or_ho_b5 g107 (by rw [hg]; exact List.mem_singleton.2 rfl)); omega
     · omega
    have ne_ho107_b7 : g107 ≠ b7 := fun e => by
     have hl := hb7.lt
     rcases hg with hg | hg
     · have h1 := ho.lt g107 (by rw [hg]; exact List.mem_singleton.2 rfl)
       (try have := or_ho_b7 g107 (by rw [hg]; exact List.mem_singleton.2 rfl)); omega
     · omega
    have ne_ho107_b8 : g107 ≠ b8 := fun e => by
     have hl := hb8.lt
     rcases hg with hg | hg
     · have h1 := ho.lt g107 (by rw [hg]; exact List.mem_singleton.2 rfl)
       (try have := or_ho_b8 g107 (by rw [hg]; exact List.mem_singleton.2 rfl)); omega
     · omega
    have ne_ho107_b10 : g107 ≠ b10 := fun e => by
     have hl := hb10.lt
     rcases hg with hg | hg
     · have h1 := ho.lt g107 (by rw [hg]; exact List.mem_singleton.2 rfl)
       (try have := or_ho_b10 g107 (by rw [hg]; exact List.mem_singleton.2 rfl)); omega
     · omega
    have ne_ho107_b11 : g107 ≠ b11 := fun e => by
     have hl := hb11.lt
     rcases hg with hg | hg
     · have h1 := ho.lt g107 (by rw [hg]; exact List.mem_singleton.2 rfl)
       (try have := or_ho_b11 g107 (by rw [hg]; exact List.mem_singleton.2 rfl)); omega
     · omega
    replace hB := hB.tr hs (fun g hg => nLT om (ho.lt g hg).1)
    replace hb2 := hb2.tr hs (fun hx => by have := (ho.lt _ hx).1; (try have := or_ho_b2 _ hx); omega)
    replace hb4 := hb4.tr hs (fun hx => by have := (ho.lt _ hx).1; (try have := or_ho_b4 _ hx); omega)
    replace hb5 := hb5.tr hs (fun hx => by have := (ho.lt _ hx).1; (try have := or_ho_b5 _ hx); omega)
    replace hBT := hBT.tr hs (fun g hg => nLT om (ho.lt g hg).1)
    replace hb7 := hb7.tr hs (fun hx => by have := (ho.lt _ hx).1; (try have := or_ho_b7 _ hx); omega)
    replace hb8 := hb8.tr hs (fun hx => by have := (ho.lt _ hx).1; (try have := or_ho_b8 _ hx); omega)
    replace hzh := nLT hzh (Same.size hs)
    replace hb10 := hb10.tr hs (fun hx => by have := (ho.lt _ hx).1; (try have := or_ho_b10 _ hx); omega)
    replace hb11 := hb11.tr hs (fun hx => by have := (ho.lt _ hx).1; (try have := or_ho_b11 _ hx); omega)
    replace hRw := hRw.tr hs (fun g hg => .inr (.inl (by obtain ⟨cs, hc⟩ := (ho).typ g hg; exact ⟨cs, _, hc, by decide⟩)))
    obtain ⟨A2, hA2⟩ : ∃ z, z = addN A i k (ftAt fs ((k : Nat) : Int)).val := ⟨_, rfl⟩
    have hA2l : A2.length = A.length + 1 := by rw [hA2, addN_len]
    have hA2i : ∀ x, x < A.length → (nd A2 x).ty = (nd A x).ty := fun x hx => by
      by_cases e : x = i
      · subst e; rw [hA2, addN_at hx]
      · rw [hA2, addN_ne hx e]
    have hA2n : nd A2 A.length = ⟨(vn : Int), []⟩ := by rw [hA2, addN_new, hvl]
    have ho : Own w36 zlo 33 2 (some ⟨g107, 0, none⟩) A2.length cap107 (ndV (tyA A2) (putG (fun x => if x = i then .slice A9 (insL (nd A i).ln at_ (((k : Nat) : Int), ((A.length : Nat) : Int))).length c9 else V x) A.length (.slice none 0 0)) A2.length) := by
      rw [hA2l, ndV_snoc, ndV_congr (f' := tyA A) (h' := (fun x => if x = i then .slice A9 (insL (nd A i).ln at_ (((k : Nat) : Int), ((A.length : Nat) : Int))).length c9 else V x)) (fun x hx => by unfold tyA; rw [hA2i x hx]) (fun x hx => by unfold putG; rw [if_neg om])]
      have e1 : tyA A2 A.length = .int .i64 ((vn : Nat) : Int) := by unfold tyA; rw [hA2n]
      have e2 : putG (fun x => if x = i then .slice A9 (insL (nd A i).ln at_ (((k : Nat) : Int), ((A.length : Nat) : Int))).length c9 else V x) A.length (.slice none 0 0) A.length = .slice none 0 0 := by simp [putG]
      rw [e1, e2]
      exact ho107
    refine wl (r_fa U28 sz26_GTgt dE rfl rfl rfl) ?_
    refine wl_st1 (v := .slice _ _ _) hb8 rfl rfl sz26_GTgt (by first | decide | simp) rfl rfl (fun w37 hq hs => ?_)
    replace hB := hB.tr1 hs lo8
    replace hb2 := hb2.tr1 hs om
    replace hb4 := hb4.tr1 hs om
    replace hb5 := hb5.tr1 hs om
    replace hBT := hBT.tr1 hs lo_hBT_b8
    replace hb7 := hb7.tr1 hs om
    replace hzh := nLT hzh (Same.size hs)
    replace hb10 := hb10.tr1 hs om
    replace hb11 := hb11.tr1 hs om
    replace hRw := hRw.tr hs (fun g hg => by rw [List.mem_singleton.1 hg]; first | exact .inr (.inl ⟨_, _, hb8, by decide⟩) | exact .inl om)
    replace ho := ho.tr1 hs (fun g hg => by first | exact own_neA ho hb8 dE g hg | (have := (ho.lt g hg).1; (try have := or_ho_b8 g hg); omega))
    clear hs
    replace hb8 := hq
    replace hb8 : Blk w37 b8 28 #[.slice (some ⟨g107, 0, none⟩) A2.length cap107] := by rw [hA2l]; exact hb8
    replace hRw : RowsG w37 zlo A2.length (putG (fun x => if x = i then .slice A9 (insL (nd A i).ln at_ (((k : Nat) : Int), ((A.length : Nat) : Int))).length c9 else V x) A.length (.slice none 0 0)) (fun x => (nd A2 x).ln) := by
      have h := hRw.snoc
      rw [hA2l]
      refine h.congr (fun _ _ => rfl) (fun x hx => ?_)
      by_cases e : x = A.length
      · subst e; rw [hA2n]; simp
      · by_cases e2 : x = i
        · subst e2
          rw [hA2, addN_at hil]
          simp only [if_neg e, if_true]
          exact hins.symm
        · rw [hA2, addN_ne om e2]
          simp only [if_neg e, if_neg e2]
    subst hA2
    refine x_nil (e_B (e_S (c_region (wl (r_add rfl rfl rfl om) (wmI rfl ?_)))))
    refine x_nil (e_LS (fs.length - (k + 1)) (lt_next hmk hkl) agA ?_)
    first
      | exact ⟨k + 1, A, nm, _, _, V, by omega, rfl, rfl, hil, hFi, h60, hdn.skip hskip, hB, hBT, hb2, hb4, hb5, hb7, hb8, ho, hRw, hzh⟩
      | exact ⟨k + 1, addN A i k (ftAt fs ((k : Nat) : Int)).val, _, _, _, _, by omega, rfl, rfl, by rw [addN_len]; omega, hFi.add hC hnmi (hFi.lack hC hnmi hkl hsubT htgN) htgN, by rw [addN_len]; omega, hdn.add hC hFi hil htgN, hB, hBT, hb2, hb4, hb5, hb7, hb8, ho, hRw, hzh⟩
   obtain ⟨at_, rfl, hal, hix1, hix2⟩ := hixa.2 c74
   have hat : at_ = at_ := rfl
   have hins := insF_at (t := ((A.length : Nat) : Int)) hix1 hix2
   refine c_skip (e_S (c_seq ?_))
   obtain ⟨gN2, curN, eN, hgN3, hbN, hcs, hcv, hcb⟩ := ho.open_ om
   cases eN
   have hcell : curN[0 + i * 2 + 1]? = some (.slice AR2 (nd A i).ln.length cR2) := by
     rw [hcv _ om, Nat.zero_add, (ndV_get (tyA A) V hil).2, hVk2]
   have or_hoR_b10 := own_neA hoR hb10 dE
   have or_hoR_b11 := own_neA hoR hb11 dE
   have or_hoR_b8 := own_neA hoR hb8 dE
   have or_hoR_gN := own_neA hoR hbN dE
   have nN10 : b10 ≠ gN := fun e => absurd (blk_type (e ▸ hb10) hbN) dE
   have nN11 : b11 ≠ gN := fun e => absurd (blk_type (e ▸ hb11) hbN) dE
   have nN8 : b8 ≠ gN := fun e => absurd (blk_type (e ▸ hb8) hbN) dE
   have zo := fun g hg => (hoR.lt g hg).2
   have lo_hBT_gN : wT.heap.size ≤ gN := by omega
   refine c_monoSO 19 [82, 83, 84, 85, 86, 87, 88, 89, 90, 91, 92, 93, 94, 95, 96, 97, 98, 99, 100] (aL AR2) 16 (fun ix v wv => match ix with | 0 => v = .pointer (some ⟨b8, 0, none⟩) | 1 => v = .slice (some ⟨gN, 0, none⟩) A.length cN | 2 => v = .int .i64 ((i : Nat) : Int) | 3 => v = .pointer (some ⟨b8, 0, none⟩) | 4 => v = .slice (some ⟨gN, 0, none⟩) A.length cN | 5 => v = .int .i64 ((i : Nat) : Int) | 6 => v = .pointer (some ⟨gN, 0 + i * 2, none⟩) | 7 => v = .pointer (some ⟨gN, 0 + i * 2 + 1, none⟩) | 8 => v = .slice AR2 (nd A i).ln.length cR2 | 9 => v = .int .i64 ((at_ : Nat) : Int) | 10 => v = .int .i64 ((k : Nat) : Int) | 11 => v = .pointer (some ⟨b8, 0, none⟩) | 12 => v = .slice (some ⟨gN, 0, none⟩) A.length cN | 13 => v = .int .i64 ((A.length : Nat) : Int) | 14 => v = .agg #[.int .i64 ((k : Nat) : Int), .int .i64 ((A.length : Nat) : Int)] | 15 => ∃ b, v = .slice (some ⟨b, 0, none⟩) 1 1 ∧ w31.heap.size ≤ b ∧ Blk wv b 30 #[.int .i64 ((k : Nat) : Int), .int .i64 ((A.length : Nat) : Int)] | 16 => ∃ (A9 : Option Addr) (c9 : Nat), v = .slice A9 ((nd A i).ln.length + 1) c9 ∧ Own wv zlo 30 2 A9 ((nd A i).ln.length + 1) c9 (lnV (insL (nd A i).ln at_ (((k : Nat) : Int), ((A.length : Nat) : Int)))) ∧ ∀ g ∈ aL A9, g ∈ aL AR2 ∨ w31.heap.size ≤ g | 17 => v = .pointer (some ⟨gN, 0 + i * 2, none⟩) | 18 => v = .pointer (some ⟨gN, 0 + i * 2 + 1, none⟩) | _ => True) (fun _ => True) kR kR ?_ (fun _ _ _ _ => trivial) ?_ ?_ dE ?_
   ·
    intro ix v wv wv2 h hs
    match ix, h with
    | 0, h => exact h
    | 1, h => exact h
    | 2, h => exact h
    | 3, h => exact h
    | 4, h => exact h
    | 5, h => exact h
    | 6, h => exact h
    | 7, h => exact h
    | 8, h => exact h
    | 9, h => exact h
    | 10, h => exact h
    | 11, h => exact h
    | 12, h => exact h
    | 13, h => exact h
    | 14, h => exact h
    | 15, h =>
     obtain ⟨b97, e97, lo97, hb97⟩ := (show ∃ b, v = .slice (some ⟨b, 0, none⟩) 1 1 ∧ w31.heap.size ≤ b ∧ Blk wv b 30 #[.int .i64 ((k : Nat) : Int), .int .i64 ((A.length : Nat) : Int)] from h)
     exact ⟨b97, e97, lo97, hb97.tr0 hs⟩
    | 16, h =>
     obtain ⟨A9, c9, e98, ho98, hg98⟩ := (show ∃ (A9 : Option Addr) (c9 : Nat), v = .slice A9 ((nd A i).ln.length + 1) c9 ∧ Own wv zlo 30 2 A9 ((nd A i).ln.length + 1) c9 (lnV (insL (nd A i).ln at_ (((k : Nat) : Int), ((A.length : Nat) : Int)))) ∧ ∀ g ∈ aL A9, g ∈ aL AR2 ∨ w31.heap.size ≤ g from h)
     exact ⟨A9, c9, e98, ho98.tr0 hs, hg98⟩
    | 17, h => exact h
    | 18, h => exact h
    | _ + 19, h => exact trivial
   ·
    intro ix o hix hne hoq gg wx hs hd
    match ix, hix, hne, hoq with
    | 0, _, _, hoq =>
     obtain rfl := sI hoq
     have hs0 := hs
     replace hb8 := hb8.tr hs (fun hx => by have := (hoR.lt _ hx).1; (try have := or_hoR_b8 _ hx); omega)
     refine os_rv (r_fa U28 sz26_GTgt dE rfl rfl rfl) ⟨Same.refl _ _, ?_⟩
     exact rfl
    | 1, _, _, hoq =>
     obtain rfl := sI hoq
     have hs0 := hs
     replace hb8 := hb8.tr hs (fun hx => by have := (hoR.lt _ hx).1; (try have := or_hoR_b8 _ hx); omega)
     have d0 : gg 82 = .pointer (some ⟨b8, 0, none⟩) := hd 0 (dep_of kR)
     have e82 := d0
     refine os_know 82 (.pointer (some ⟨b8, 0, none⟩)) e82 nu ?_
     refine os_rv (r_ld1 (v := .slice _ _ _) U26 rfl rfl (hb8.cell rfl)) ⟨Same.refl _ _, ?_⟩
     exact rfl
    | 2, _, _, hoq =>
     obtain rfl := sI hoq
     have hs0 := hs
     refine os_rv (r_mv (v := .int _ _) rfl) ⟨Same.refl _ _, ?_⟩
     exact rfl
    | 3, _, _, hoq =>
     obtain rfl := sI hoq
     have hs0 := hs
     replace hb8 := hb8.tr hs (fun hx => by have := (hoR.lt _ hx).1; (try have := or_hoR_b8 _ hx); omega)
     refine os_rv (r_fa U28 sz26_GTgt dE rfl rfl rfl) ⟨Same.refl _ _, ?_⟩
     exact rfl
    | 4, _, _, hoq =>
     obtain rfl := sI hoq
     have hs0 := hs
     replace hb8 := hb8.tr hs (fun hx => by have := (hoR.lt _ hx).1; (try have := or_hoR_b8 _ hx); omega)
     have d3 : gg 85 = .pointer (some ⟨b8, 0, none⟩) := hd 3 (dep_of kR)
     have e85 := d3
     refine os_know 85 (.pointer (some ⟨b8, 0, none⟩)) e85 nu ?_
     refine os_rv (r_ld1 (v := .slice _ _ _) U26 rfl rfl (hb8.cell rfl)) ⟨Same.refl _ _, ?_⟩
     exact rfl
    | 5, _, _, hoq =>
     obtain rfl := sI hoq
     have hs0 := hs
     refine os_rv (r_mv (v := .int _ _) rfl) ⟨Same.refl _ _, ?_⟩
     exact rfl
    | 6, _, _, hoq =>
     obtain rfl := sI hoq
     have hs0 := hs
     have d4 : gg 86 = .slice (some ⟨gN, 0, none⟩) A.length cN := hd 4 (dep_of kR)
     have e86 := d4
     have d5 : gg 87 = .int .i64 ((i : Nat) : Int) := hd 5 (dep_of kR)
     have e87 := d5
     refine os_know 86 (.slice (some ⟨gN, 0, none⟩) A.length cN) e86 nu (os_know 87 (.int .i64 ((i : Nat) : Int)) e87 nu ?_)
     refine os_rv (r_ia (i := i) U26 sz33_GTgt rfl rfl hil rfl) ⟨Same.refl _ _, ?_⟩
     exact rfl
    | 7, _, _, hoq =>
     obtain rfl := sI hoq
     have hs0 := hs
     have d6 : gg 88 = .pointer (some ⟨gN, 0 + i * 2, none⟩) := hd 6 (dep_of kR)
     have e88 := d6
     refine os_know 88 (.pointer (some ⟨gN, 0 + i * 2, none⟩)) e88 nu ?_
     refine os_rv (r_fa U33 sz31_GTgt dE rfl rfl rfl) ⟨Same.refl _ _, ?_⟩
     exact rfl
    | 8, _, _, hoq =>
     obtain rfl := sI hoq
     have hs0 := hs
     replace hbN := hbN.tr hs (fun hx => by have := (hoR.lt _ hx).1; (try have := or_hoR_gN _ hx); omega)
     have d7 : gg 89 = .pointer (some ⟨gN, 0 + i * 2 + 1, none⟩) := hd 7 (dep_of kR)
     have e89 := d7
     refine os_know 89 (.pointer (some ⟨gN, 0 + i * 2 + 1, none⟩)) e89 nu ?_
     refine os_rv (r_ld1 (v := .slice _ _ _) U31 rfl rfl (hbN.cell hcell)) ⟨Same.refl _ _, ?_⟩
     exact rfl
    | 9, _, _, hoq =>
     obtain rfl := sI hoq
     have hs0 := hs
     refine os_rv (r_mv (v := .int _ _) rfl) ⟨Same.refl _ _, ?_⟩
     exact (by first | rfl | exact congrArg (fun n : Nat => Value.int .i64 ((n : Nat) : Int)) hat.symm)
    | 10, _, _, hoq =>
     obtain rfl := sI hoq
     have hs0 := hs
     replace hb10 := hb10.tr hs (fun hx => by have := (hoR.lt _ hx).1; (try have := or_hoR_b10 _ hx); omega)
     refine os_rv (r_ld1 (v := .int _ _) U3 rfl rfl (hb10.cell rfl)) ⟨Same.refl _ _, ?_⟩
     exact rfl
    | 11, _, _, hoq =>
     obtain rfl := sI hoq
     have hs0 := hs
     replace hb8 := hb8.tr hs (fun hx => by have := (hoR.lt _ hx).1; (try have := or_hoR_b8 _ hx); omega)
     refine os_rv (r_fa U28 sz26_GTgt dE rfl rfl rfl) ⟨Same.refl _ _, ?_⟩
     exact rfl
    | 12, _, _, hoq =>
     obtain rfl := sI hoq
     have hs0 := hs
     replace hb8 := hb8.tr hs (fun hx => by have := (hoR.lt _ hx).1; (try have := or_hoR_b8 _ hx); omega)
     have d11 : gg 93 = .pointer (some ⟨b8, 0, none⟩) := hd 11 (dep_of kR)
     have e93 := d11
     refine os_know 93 (.pointer (some ⟨b8, 0, none⟩)) e93 nu ?_
     refine os_rv (r_ld1 (v := .slice _ _ _) U26 rfl rfl (hb8.cell rfl)) ⟨Same.refl _ _, ?_⟩
     exact rfl
    | 13, _, _, hoq =>
     obtain rfl := sI hoq
     have hs0 := hs
     have d12 : gg 94 = .slice (some ⟨gN, 0, none⟩) A.length cN := hd 12 (dep_of kR)
     have e94 := d12
     refine os_know 94 (.slice (some ⟨gN, 0, none⟩) A.length cN) e94 nu ?_
     refine os_rv (r_len U26 rfl) ⟨Same.refl _ _, ?_⟩
     exact rfl
    | 14, _, _, hoq =>
     obtain rfl := sI hoq
     have hs0 := hs
     have d10 : gg 92 = .int .i64 ((k : Nat) : Int) := hd 10 (dep_of kR)
     have e92 := d10
     have d13 : gg 95 = .int .i64 ((A.length : Nat) : Int) := hd 13 (dep_of kR)
     have e95 := d13
     refine os_know 92 (.int .i64 ((k : Nat) : Int)) e92 nu (os_know 95 (.int .i64 ((A.length : Nat) : Int)) e95 nu ?_)
     refine os_rv (r_bd2 (v0 := .int _ _) (v1 := .int _ _) (fun v0 v1 => #[v0, v1]) rfl rfl kR) ⟨Same.refl _ _, ?_⟩
     exact rfl
    | 15, _, _, hoq =>
     obtain rfl := sI hoq
     have hs0 := hs
     have d14 : gg 96 = .agg #[.int .i64 ((k : Nat) : Int), .int .i64 ((A.length : Nat) : Int)] := hd 14 (dep_of kR)
     have e96 := d14
     refine os_know 96 (.agg #[.int .i64 ((k : Nat) : Int), .int .i64 ((A.length : Nat) : Int)]) e96 nu ?_
     refine os_wl (fun ops Q K => ?_)
     refine wl_bs (cs := #[_, _]) [(0, .agg _)] rfl U31 sz30_GSearch ze30_GTgt dE dE kR rfl (fun b97 w38 hb97 hs hr => ?_)
     exact K _ _ ⟨hs, ⟨_, rfl, nLT hs0.size hr, hb97⟩⟩
    | 16, _, hne, _ => exact absurd rfl hne
    | 17, _, _, hoq =>
     obtain rfl := sI hoq
     have hs0 := hs
     have d1 : gg 83 = .slice (some ⟨gN, 0, none⟩) A.length cN := hd 1 (dep_of kR)
     have e83 := d1
     have d2 : gg 84 = .int .i64 ((i : Nat) : Int) := hd 2 (dep_of kR)
     have e84 := d2
     refine os_know 83 (.slice (some ⟨gN, 0, none⟩) A.length cN) e83 nu (os_know 84 (.int .i64 ((i : Nat) : Int)) e84 nu ?_)
     refine os_rv (r_ia (i := i) U26 sz33_GTgt rfl rfl hil rfl) ⟨Same.refl _ _, ?_⟩
     exact rfl
    | 18, _, _, hoq =>
     obtain rfl := sI hoq
     have hs0 := hs
     have d17 : gg 99 = .pointer (some ⟨gN, 0 + i * 2, none⟩) := hd 17 (dep_of kR)
     have e99 := d17
     refine os_know 99 (.pointer (some ⟨gN, 0 + i * 2, none⟩)) e99 nu ?_
     refine os_rv (r_fa U33 sz31_GTgt dE rfl rfl rfl) ⟨Same.refl _ _, ?_⟩
     exact rfl
    | _ + 19, hix, _, _ => exact absurd hix om
   ·
    intro o hoq gg wx hs hd
    obtain rfl := sI hoq
    have hs0 := hs
    replace hB := hB.tr0 hs
    replace hb2 := hb2.tr0 hs
    replace hb4 := hb4.tr0 hs
    replace hb5 := hb5.tr0 hs
    replace hBT := hBT.tr0 hs
    replace hb7 := hb7.tr0 hs
    replace hb8 := hb8.tr0 hs
    replace hzh := nLT hzh (Same.size hs)
    replace hb10 := hb10.tr0 hs
    replace hb11 := hb11.tr0 hs
    replace hbN := hbN.tr0 hs
    replace hoR := hoR.tr0 hs
    clear hs
    have d8 : gg 90 = .slice AR2 (nd A i).ln.length cR2 := hd 8 (dep_of kR)
    have e90 := d8
    have d9 : gg 91 = .int .i64 ((at_ : Nat) : Int) := hd 9 (dep_of kR)
    have e91 := d9
    have d15 : ∃ b, gg 97 = .slice (some ⟨b, 0, none⟩) 1 1 ∧ w31.heap.size ≤ b ∧ Blk wx b 30 #[.int .i64 ((k : Nat) : Int), .int .i64 ((A.length : Nat) : Int)] := hd 15 (dep_of kR)
    obtain ⟨b97, e97, lo97, hb97⟩ := d15
    refine os_know 90 (.slice AR2 (nd A i).ln.length cR2) e90 nu (os_know 91 (.int .i64 ((at_ : Nat) : Int)) e91 nu (os_know 97 (.slice (some ⟨b97, 0, none⟩) 1 1) e97 nu ?_))
    refine os_cl fn55 (insl_any (k := at_) (x := (((k : Nat) : Int), ((A.length : Nat) : Int))) wx hoR hb97 (fun g hg e => by have := zo g hg; omega) hal om hzh) rfl (fun e' w2 hr => ?_)
    obtain ⟨A9, c9, rfl, ho98, hs2, hg98⟩ := hr
    refine ⟨_, rfl, hs2, ⟨_, _, rfl, ho98, fun g hg => (hg98 g hg).imp id (fun h => nLT hs0.size h)⟩, trivial, fun kx v hne h => ?_⟩
    match kx, hne, h with
    | 0, _, h => exact h
    | 1, _, h => exact h
    | 2, _, h => exact h
    | 3, _, h => exact h
    | 4, _, h => exact h
    | 5, _, h => exact h
    | 6, _, h => exact h
    | 7, _, h => exact h
    | 8, _, h => exact h
    | 9, _, h => exact h
    | 10, _, h => exact h
    | 11, _, h => exact h
    | 12, _, h => exact h
    | 13, _, h => exact h
    | 14, _, h => exact h
    | 15, _, h =>
     obtain ⟨b97, e97, lo97, hb97⟩ := (show ∃ b, v = .slice (some ⟨b, 0, none⟩) 1 1 ∧ w31.heap.size ≤ b ∧ Blk wx b 30 #[.int .i64 ((k : Nat) : Int), .int .i64 ((A.length : Nat) : Int)] from h)
     exact ⟨b97, e97, lo97, hb97.tr hs2 (fun hx => by have := zo _ hx; omega)⟩
    | 16, hne, _ => exact absurd rfl hne
    | 17, _, h => exact h
    | 18, _, h => exact h
    | _ + 19, _, _ => exact trivial
   intro gg w39 hs _ hR
   have hs0 := hs
   replace hB := hB.tr hs (fun g hg => nLT om (hoR.lt g hg).1)
   replace hb2 := hb2.tr hs (fun hx => by have := (hoR.lt _ hx).1; (try have := or_hoR_b2 _ hx); omega)
   replace hb4 := hb4.tr hs (fun hx => by have := (hoR.lt _ hx).1; (try have := or_hoR_b4 _ hx); omega)
   replace hb5 := hb5.tr hs (fun hx => by have := (hoR.lt _ hx).1; (try have := or_hoR_b5 _ hx); omega)
   replace hBT := hBT.tr hs (fun g hg => nLT om (hoR.lt g hg).1)
   replace hb7 := hb7.tr hs (fun hx => by have := (hoR.lt _ hx).1; (try have := or_hoR_b7 _ hx); omega)
   replace hb8 := hb8.tr hs (fun hx => by have := (hoR.lt _ hx).1; (try have := or_hoR_b8 _ hx); omega)
   replace hzh := nLT hzh (Same.size hs)
   replace hb10 := hb10.tr hs (fun hx => by have := (hoR.lt _ hx).1; (try have := or_hoR_b10 _ hx); omega)
   replace hb11 := hb11.tr hs (fun hx => by have := (hoR.lt _ hx).1; (try have := or_hoR_b11 _ hx); omega)
   replace hbN := hbN.tr hs (fun hx => by have := (hoR.lt _ hx).1; (try have := or_hoR_gN _ hx); omega)
   have d16 : ∃ (A9 : Option Addr) (c9 : Nat), gg 98 = .slice A9 ((nd A i).ln.length + 1) c9 ∧ Own w39 zlo 30 2 A9 ((nd A i).ln.length + 1) c9 (lnV (insL (nd A i).ln at_ (((k : Nat) : Int), ((A.length : Nat) : Int)))) ∧ ∀ g ∈ aL A9, g ∈ aL AR2 ∨ w31.heap.size ≤ g := hR 16 dE
   obtain ⟨A9, c9, e98, ho98, hg98⟩ := d16
   have d17 : gg 99 = .pointer (some ⟨gN, 0 + i * 2, none⟩) := hR 17 dE
   have e99 := d17
   have d18 : gg 100 = .pointer (some ⟨gN, 0 + i * 2 + 1, none⟩) := hR 18 dE
   have e100 := d18
   have hRw := hRw.put (ys := (insL (nd A i).ln at_ (((k : Nat) : Int), ((A.length : Nat) : Int)))) hil hVk2 hs0 (by rw [insL_len]; exact ho98) hg98
   refine wl_know 98 (.slice A9 ((nd A i).ln.length + 1) c9) e98 nu (wl_know 99 (.pointer (some ⟨gN, 0 + i * 2, none⟩)) e99 nu (wl_know 100 (.pointer (some ⟨gN, 0 + i * 2 + 1, none⟩)) e100 nu ?_))
   refine wl_st1 (v := .slice _ _ _) hbN rfl rfl sz31_GTgt (by show 0 + i * 2 + 1 < curN.size; omega) rfl rfl (fun w40 hq hs => ?_)
   replace hB := hB.tr1 hs om
   replace hb2 := hb2.tr1 hs om
   replace hb4 := hb4.tr1 hs om
   replace hb5 := hb5.tr1 hs om
   replace hBT := hBT.tr1 hs lo_hBT_gN
   replace hb7 := hb7.tr1 hs om
   replace hb8 := hb8.tr1 hs om
   replace hzh := nLT hzh (Same.size hs)
   replace hb10 := hb10.tr1 hs om
   replace hb11 := hb11.tr1 hs om
   replace hRw := hRw.tr hs (fun g hg => by rw [List.mem_singleton.1 hg]; first | exact .inr (.inl ⟨_, _, hbN, by decide⟩) | exact .inl om)
   clear hs
   replace hbN := hq
   have ho := hcb w40 _ _ hbN
   rw [ndV_set1] at ho
   rw [← insL_len (nd A i).ln at_ (((k : Nat) : Int), ((A.length : Nat) : Int))] at ho
   refine x_nil (e_S ?_)
   have or_ho_b8 := own_neA ho hb8 dE
   have or_ho_b10 := own_neA ho hb10 dE
   have or_ho_b11 := own_neA ho hb11 dE
   refine c_region (wl (r_fa U28 sz26_GTgt dE rfl rfl rfl) (wl (r_ld1 (v := .slice _ _ _) U26 rfl rfl (hb8.cell rfl)) (wl (r_fa U63 sz3_GSearch dE rfl rfl rfl) (wl (r_ld1 (v := .int _ _) U3 rfl rfl (hb11.cell rfl)) (wl (r_bd1 (v0 := .int _ _) (fun v0 => #[v0, .slice none 0 0]) rfl kR) ?_)))))
   refine wl_bs (cs := #[_, _]) [(0, .agg _)] rfl U26 sz33_GTgt ze33_GTgt dE dE kR rfl (fun b106 w41 hb106 hs hr => ?_)
   have or_b2_b106 : b2 < b106 := nLL hb2.lt hr
   have or_b4_b106 : b4 < b106 := nLL hb4.lt hr
   have or_b5_b106 : b5 < b106 := nLL hb5.lt hr
   have or_b7_b106 : b7 < b106 := nLL hb7.lt hr
   have or_b8_b106 : b8 < b106 := nLL hb8.lt hr
   have or_hzh_b106 := (nLT hzh hr)
   have or_b10_b106 : b10 < b106 := nLL hb10.lt hr
   have or_b11_b106 : b11 < b106 := nLL hb11.lt hr
   have or_ho_b106 := (fun g hg => nLL (ho.lt g hg).2 hr)
   have lo106 := nLT (Bel.size hB) hr
   have lo_hBT_b106 := nLT (Bel.size hBT) hr
   replace hB := hB.tr0 hs
   replace hb2 := hb2.tr0 hs
   replace hb4 := hb4.tr0 hs
   replace hb5 := hb5.tr0 hs
   replace hBT := hBT.tr0 hs
   replace hb7 := hb7.tr0 hs
   replace hb8 := hb8.tr0 hs
   replace hzh := nLT hzh (Same.size hs)
   replace hb10 := hb10.tr0 hs
   replace hb11 := hb11.tr0 hs
   replace hRw := hRw.tr hs (by simp)
   replace ho := ho.tr0 hs
   clear hs
   clear hr
   refine wl_app U26 in33 rfl dE ho hb106 rfl rfl rfl oneA dE om om hzh (fun g107 cap107 w42 ho107 hs hg => ?_)
   have ne_ho107_b2 : g107 ≠ b2 := fun e => by
    have hl := hb2.lt
    rcases hg with hg | hg
    · have h1 := ho.lt g107 (by rw [hg]; exact List.mem_singleton.2 rfl)
      (try have := or_ho_b2 g107 (by rw [hg]; exact List.mem_singleton.2 rfl)); omega
    · omega
   have ne_ho107_b4 : g107 ≠ b4 := fun e => by
    have hl := hb4.lt
    rcases hg with hg | hg
    · have h1 := ho.lt g107 (by rw [hg]; exact List.mem_singleton.2 rfl)
      (try have := or_ho_b4 g107 (by rw [hg]; exact List.mem_singleton.2 rfl)); omega
    · omega
   have ne_ho107_b5 : g107 ≠ b5 := fun e => by
    have hl := hb5.lt
    rcases hg with hg | hg
    · have h1 := ho.lt g107 (by rw [hg]; exact List.mem_singleton.2 rfl)
      (try have := or_ho_b5 g107 (by rw [hg]; exact List.mem_singleton.2 rfl)); omega
    · omega
   have ne_ho107_b7 : g107 ≠ b7 := fun e => by
    have hl := hb7.lt
    rcases hg with hg | hg
    · have h1 := ho.lt g107 (by rw [hg]; exact List.mem_singleton.2 rfl)
      (try have := or_ho_b7 g107 (by rw [hg]; exact List.mem_singleton.2 rfl)); omega
    · omega
   have ne_ho107_b8 : g107 ≠ b8 := fun e => by
    have hl := hb8.lt
    rcases hg with hg | hg
    · have h1 := ho.lt g107 (by rw [hg]; exact List.mem_singleton.2 rfl)
      (try have := or_ho_b8 g107 (by rw [hg]; exact List.mem_singleton.2 rfl)); omega
    · omega
   have ne_ho107_b10 : g107 ≠ b10 := fun e => by
    have hl := hb10.lt
    rcases hg with hg | hg
    · have h1 := ho.lt g107 (by rw [hg]; exact List.mem_singleton.2 rfl)
      (try have := or_ho_b10 g107 (by rw [hg]; exact List.mem_singleton.2 rfl)); omega
    · omega
   have ne_ho107_b11 : g107 ≠ b11 := fun e => by
    have hl := hb11.lt
    rcases hg with hg | hg
    · have h1 := ho.lt g107 (by rw [hg]; exact List.mem_singleton.2 rfl)
      (try have := or_ho_b11 g107 (by rw [hg]; exact List.mem_singleton.2 rfl)); omega
    · omega
   replace hB := hB.tr hs (fun g hg => nLT om (ho.lt g hg).1)
   replace hb2 := hb2.tr hs (fun hx => by have := (ho.lt _ hx).1; (try have := or_ho_b2 _ hx); omega)
   replace hb4 := hb4.tr hs (fun hx => by have := (ho.lt _ hx).1; (try have := or_ho_b4 _ hx); omega)
   replace hb5 := hb5.tr hs (fun hx => by have := (ho.lt _ hx).1; (try have := or_ho_b5 _ hx); omega)
   replace hBT := hBT.tr hs (fun g hg => nLT om (ho.lt g hg).1)
   replace hb7 := hb7.tr hs (fun hx => by have := (ho.lt _ hx).1; (try have := or_ho_b7 _ hx); omega)
   replace hb8 := hb8.tr hs (fun hx => by have := (ho.lt _ hx).1; (try have := or_ho_b8 _ hx); omega)
   replace hzh := nLT hzh (Same.size hs)
   replace hb10 := hb10.tr hs (fun hx => by have := (ho.lt _ hx).1; (try have := or_ho_b10 _ hx); omega)
   replace hb11 := hb11.tr hs (fun hx => by have := (ho.lt _ hx).1; (try have := or_ho_b11 _ hx); omega)
   replace hRw := hRw.tr hs (fun g hg => .inr (.inl (by obtain ⟨cs, hc⟩ := (ho).typ g hg; exact ⟨cs, _, hc, by decide⟩)))
   obtain ⟨A2, hA2⟩ : ∃ z, z = addN A i k (ftAt fs ((k : Nat) : Int)).val := ⟨_, rfl⟩
   have hA2l : A2.length = A.length + 1 := by rw [hA2, addN_len]
   have hA2i : ∀ x, x < A.length → (nd A2 x).ty = (nd A x).ty := fun x hx => by
     by_cases e : x = i
     · subst e; rw [hA2, addN_at hx]
     · rw [hA2, addN_ne hx e]
   have hA2n : nd A2 A.length = ⟨(vn : Int), []⟩ := by rw [hA2, addN_new, hvl]
   have ho : Own w42 zlo 33 2 (some ⟨g107, 0, none⟩) A2.length cap107 (ndV (tyA A2) (putG (fun x => if x = i then .slice A9 (insL (nd A i).ln at_ (((k : Nat) : Int), ((A.length : Nat) : Int))).length c9 else V x) A.length (.slice none 0 0)) A2.length) := by
     rw [hA2l, ndV_snoc, ndV_congr (f' := tyA A) (h' := (fun x => if x = i then .slice A9 (insL (nd A i).ln at_ (((k : Nat) : Int), ((A.length : Nat) : Int))).length c9 else V x)) (fun x hx => by unfold tyA; rw [hA2i x hx]) (fun x hx => by unfold putG; rw [if_neg om])]
     have e1 : tyA A2 A.length = .int .i64 ((vn : Nat) : Int) := by unfold tyA; rw [hA2n]
     have e2 : putG (fun x => if x = i then .slice A9 (insL (nd A i).ln at_ (((k : Nat) : Int), ((A.length : Nat) : Int))).length c9 else V x) A.length (.slice none 0 0) A.length = .slice none 0 0 := by simp [putG]
     rw [e1, e2]
     exact ho107
   refine wl (r_fa U28 sz26_GTgt dE rfl rfl rfl) ?_
   refine wl_st1 (v := .slice _ _ _) hb8 rfl rfl sz26_GTgt (by first | decide | simp) rfl rfl (fun w43 hq hs => ?_)
   replace hB := hB.tr1 hs lo8
   replace hb2 := hb2.tr1 hs om
   replace hb4 := hb4.tr1 hs om
   replace hb5 := hb5.tr1 hs om
   replace hBT := hBT.tr1 hs lo_hBT_b8
   replace hb7 := hb7.tr1 hs om
   replace hzh := nLT hzh (Same.size hs)
   replace hb10 := hb10.tr1 hs om
   replace hb11 := hb11.tr1 hs om
   replace hRw := hRw.tr hs (fun g hg => by rw [List.mem_singleton.1 hg]; first | exact .inr (.inl ⟨_, _, hb8, by decide⟩) | exact .inl om)
   replace ho := ho.tr1 hs (fun g hg => by first | exact own_neA ho hb8 dE g hg | (have := (ho.lt g hg).1; (try have := or_ho_b8 g hg); omega))
   clear hs
   replace hb8 := hq
   replace hb8 : Blk w43 b8 28 #[.slice (some ⟨g107, 0, none⟩) A2.length cap107] := by rw [hA2l]; exact hb8
   replace hRw : RowsG w43 zlo A2.length (putG (fun x => if x = i then .slice A9 (insL (nd A i).ln at_ (((k : Nat) : Int), ((A.length : Nat) : Int))).length c9 else V x) A.length (.slice none 0 0)) (fun x => (nd A2 x).ln) := by
     have h := hRw.snoc
     rw [hA2l]
     refine h.congr (fun _ _ => rfl) (fun x hx => ?_)
     by_cases e : x = A.length
     · subst e; rw [hA2n]; simp
     · by_cases e2 : x = i
       · subst e2
         rw [hA2, addN_at hil]
         simp only [if_neg e, if_true]
         exact hins.symm
       · rw [hA2, addN_ne om e2]
         simp only [if_neg e, if_neg e2]
   subst hA2
   refine x_nil (e_B (e_S (c_region (wl (r_add rfl rfl rfl om) (wmI rfl ?_)))))
   refine x_nil (e_LS (fs.length - (k + 1)) (lt_next hmk hkl) agA ?_)
   first
     | exact ⟨k + 1, A, nm, _, _, V, by omega, rfl, rfl, hil, hFi, h60, hdn.skip hskip, hB, hBT, hb2, hb4, hb5, hb7, hb8, ho, hRw, hzh⟩
     | exact ⟨k + 1, addN A i k (ftAt fs ((k : Nat) : Int)).val, _, _, _, _, by omega, rfl, rfl, by rw [addN_len]; omega, hFi.add hC hnmi (hFi.lack hC hnmi hkl hsubT htgN) htgN, by rw [addN_len]; omega, hdn.add hC hFi hil htgN, hB, hBT, hb2, hb4, hb5, hb7, hb8, ho, hRw, hzh⟩
  have hke : k = fs.length := by omega
  subst hke
  have hdn2 := hdn.row
  refine c_exit (e_Sx (e_LSx (e_Bx (e_B (e_S ?_)))))
  refine c_region (wmI rfl (wl (r_add rfl rfl rfl om) (waI rfl (x_nil (e_LS (61 - (i + 1)) om agA ?_)))))
  exact ⟨i + 1, A, nm, _, _, V, by omega, rfl, rfl, hFi, h60, hdn2, hB, hBT, hb2, hb4, hb5, hb7, hb8, ho, hRw, hzh⟩
 have hie : i = A.length := by omega
 subst hie
 have htt := hdn.tot
 refine c_exit (e_Sx (e_LSx (e_Bx (e_S (c_seq ?_)))))
 have hAv := gv_of (show (graphF l fs A).1 = 0 by rw [hFi.valid hC h60])
 have hzw : w.heap.size ≤ zlo := by omega
 refine c_region (wl (r_ldS U28 rfl rfl hb8.range0 sz28_GTgt) ?_)
 have z4q := hb4.lt
 have z5q := hb5.lt
 have hszq := Bel.size hB
 refine wl_cl fn49_WFil (from2_any N cN fs.length A 0 _ (rows_nodes ho rfl (fun _ _ => rfl) hRw) hAv.gok.two om hAv.gok.pos) rfl (fun e' w44 hr => ?_)
 obtain ⟨⟨oA, AX, hDA, hokA, rfl, hNX⟩, hs⟩ := hr
 replace hs := Same.of_bel hs
 replace hB := hB.tr0 hs
 replace hb4 := hb4.tr0 hs
 replace hb5 := hb5.tr0 hs
 replace hb8 := hb8.tr0 hs
 replace ho := ho.tr0 hs
 replace hRw := hRw.tr hs (by simp)
 replace hzh := nLT hzh (Same.size hs)
 clear hs
 obtain ⟨ZX, hZX⟩ : ∃ z, z = (w21).heap.size := ⟨_, rfl⟩
 rw [← hZX] at hNX z4q z5q hszq
 obtain ⟨wX, hwX⟩ : ∃ z, z = w44 := ⟨_, rfl⟩
 have hFX : FrSame ZX wX w44 := by rw [hwX]; exact FrSame.refl _ _
 rw [← hwX] at hNX
 refine ⟨_, rfl, ?_⟩
 refine wl (r_bd (vs := #[]) (cs := #[.int .i64 0, .int .i64 0]) (by simp) kR) ?_
 refine wl_stW hb4 rfl rfl sz28_GTgt rfl oneA (fun w45 hq hs => ?_)
 replace hB := hB.tr1 hs lo4
 replace hb5 := hb5.tr1 hs om
 replace hb8 := hb8.tr1 hs om
 replace ho := ho.tr1 hs (fun g hg => by first | exact own_neA ho hb4 dE g hg | (have := (ho.lt g hg).1; (try have := or_ho_b4 g hg); omega))
 replace hRw := hRw.tr hs (fun g hg => by rw [List.mem_singleton.1 hg]; first | exact .inr (.inl ⟨_, _, hb4, by decide⟩) | exact .inl om)
 replace hzh := nLT hzh (Same.size hs)
 replace hFX := hFX.of hs (fun g hg => by rw [List.mem_singleton.1 hg]; omega)
 clear hs
 replace hb4 := hq
 refine wl_stW hb5 rfl rfl sz35_SFind rfl oneA (fun w46 hq hs => ?_)
 replace hB := hB.tr1 hs lo5
 replace hb4 := hb4.tr1 hs om
 replace hb8 := hb8.tr1 hs om
 replace ho := ho.tr1 hs (fun g hg => by first | exact own_neA ho hb5 dE g hg | (have := (ho.lt g hg).1; (try have := or_ho_b5 g hg); omega))
 replace hRw := hRw.tr hs (fun g hg => by rw [List.mem_singleton.1 hg]; first | exact .inr (.inl ⟨_, _, hb5, by decide⟩) | exact .inl om)
 replace hzh := nLT hzh (Same.size hs)
 replace hFX := hFX.of hs (fun g hg => by rw [List.mem_singleton.1 hg]; omega)
 clear hs
 replace hb5 := hq
 refine x_nil (e_S (c_ret (fin2 (.inl rfl) rfl (rr_cell U28 rfl rfl hb4.range0 sz28_GTgt) (rr_cell U35 rfl rfl hb5.range0 sz35_SFind) ?_)))
 have hcl : (canG A oA).length = oA.length := canG_len A oA
 exact ⟨⟨AX, canG A oA, _, (0, 0), by rw [hcl], fun w2 hf => hNX w2 (hFX.then hf hszq), .inr ⟨h0, o, hD, .inl ⟨⟨A, nm, oA, hCe ▸ hFi, htt, h60, hDA, rfl⟩, rfl⟩⟩⟩, hB⟩
end Go.Proofs.YtegngekpmpdngaaDoor
