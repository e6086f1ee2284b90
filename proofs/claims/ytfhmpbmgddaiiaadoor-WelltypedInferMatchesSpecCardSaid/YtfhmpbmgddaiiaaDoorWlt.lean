/- What these functions of the program compute, at every world: glosswright/welltyped.fault, glosswright/welltyped.Loose, glosswright/welltyped.Infer$1. -/
import Derived.Test.YtfhmpbmgddaiiaaDoorU
import Derived.Test.YtfhmpbmgddaiiaaDoorEng5
import Derived.Test.YtfhmpbmgddaiiaaDoorEng4
namespace Go.Proofs.YtfhmpbmgddaiiaaDoor
open Go.RowKit
theorem fn19_Wlt : callable Tryd.prog 19 = true := by kernel_rfl
theorem fn31_Wlt : callable Tryd.prog 31 = true := by kernel_rfl
theorem fn34 : callable Tryd.prog 34 = true := by kernel_rfl
theorem wfault_any (a b : Int) (w : World) : Calls Tryd.prog 34 #[.int .i64 a, .int .i64 b] w fun e w' => e = .returned (flV (a, b)) ∧ Bel w w' := by
 refine enter Tryd.func34 Tryd.ntmps34 rfl (Nat.le_of_ble_eq_true rfl) ?_
 have hB : Bel w w := Below.refl _ _
 refine c_seq (c_region ?_)
 refine wl_al (cs := #[.int .i64 0, .int .i64 0]) ze35_GLoose rfl (fun b4 w1 hb4 hs hr => ?_)
 have lo4 := nLT (Bel.size hB) hr
 replace hB := hB.tr0 hs
 clear hs
 clear hr
 refine x_nil (e_S (c_seq (c_region (wmI rfl (wmI rfl ?_)))))
 refine wl (r_bd2 (v0 := .int _ _) (v1 := .int _ _) (fun v0 v1 => #[v0, v1]) rfl rfl kR) ?_
 refine wl_stW hb4 rfl rfl sz35_GLoose rfl oneA (fun w2 hq hs => ?_)
 replace hB := hB.tr1 hs lo4
 clear hs
 replace hb4 := hq
 refine x_nil (e_S (c_ret (fin1 (.inl rfl) rfl (rr_cell U35 rfl rfl hb4.range0 sz35_GLoose) ?_)))
 exact ⟨rfl, hB⟩
theorem lse_any (A B G : Option Addr) (c d cg : Nat) (l : List Ty) (fs : List Ft) (gr : List Nd) (w : World) (hTab : TabIn w) (hT : TypesIn w A l) (hF : FeatsIn w B fs) (hG : NodesIn w G gr) : Calls Tryd.prog 15 #[.agg #[.slice A l.length c, .slice B fs.length d], .agg #[.slice G gr.length cg]] w fun e w' => e = .returned (flV (looseT l fs gr)) ∧ Bel w w' := by
 refine enter Tryd.func15 Tryd.ntmps15 rfl (Nat.le_of_ble_eq_true rfl) ?_
 have hB : Bel w w := Below.refl _ _
 refine c_seq (c_region ?_)
 refine wl_bx (v := .agg #[_, _]) (cs := #[_, _]) rfl rfl (fun b2 w1 hb2 hs hr => ?_)
 have lo2 := nLT (Bel.size hB) hr
 replace hB := hB.tr0 hs
 clear hs
 clear hr
 refine wl_bx (v := .agg #[_]) (cs := #[_]) rfl rfl (fun b3 w2 hb3 hs hr => ?_)
 have or_b2_b3 : b2 < b3 := nLL hb2.lt hr
 have lo3 := nLT (Bel.size hB) hr
 replace hB := hB.tr0 hs
 replace hb2 := hb2.tr0 hs
 clear hs
 clear hr
 refine wl_al (cs := #[.int .i64 0, .int .i64 0]) ze35_GLoose rfl (fun b4 w3 hb4 hs hr => ?_)
 have or_b2_b4 : b2 < b4 := nLL hb2.lt hr
 have or_b3_b4 : b3 < b4 := nLL hb3.lt hr
 have lo4 := nLT (Bel.size hB) hr
 replace hB := hB.tr0 hs
 replace hb2 := hb2.tr0 hs
 replace hb3 := hb3.tr0 hs
 clear hs
 clear hr
 refine x_nil (e_S (c_seq (c_seq (c_region (wl (r_ldS U25 rfl rfl hb2.range0 sz25) ?_)))))
 refine wl_cl fn31_Wlt (validate_any A B c d l fs _ (hTab.mono hB) (hT.mono hB) (hF.mono hB)) rfl (fun e' w4 hr => ?_)
 obtain ⟨rfl, hs⟩ := hr
 replace hs := Same.of_bel hs
 replace hB := hB.tr0 hs
 replace hb2 := hb2.tr0 hs
 replace hb3 := hb3.tr0 hs
 replace hb4 := hb4.tr0 hs
 clear hs
 refine ⟨_, rfl, ?_⟩
 refine wl_al (cs := #[.int .i64 0, .int .i64 0]) ze35_GLoose rfl (fun b5 w5 hb5 hs hr => ?_)
 have or_b2_b5 : b2 < b5 := nLL hb2.lt hr
 have or_b3_b5 : b3 < b5 := nLL hb3.lt hr
 have or_b4_b5 : b4 < b5 := nLL hb4.lt hr
 have lo5 := nLT (Bel.size hB) hr
 replace hB := hB.tr0 hs
 replace hb2 := hb2.tr0 hs
 replace hb3 := hb3.tr0 hs
 replace hb4 := hb4.tr0 hs
 clear hs
 clear hr
 refine wl_stW hb5 rfl rfl sz35_GLoose rfl oneA (fun w6 hq hs => ?_)
 replace hB := hB.tr1 hs lo5
 replace hb2 := hb2.tr1 hs om
 replace hb3 := hb3.tr1 hs om
 replace hb4 := hb4.tr1 hs om
 clear hs
 replace hb5 := hq
 refine x_nil (e_S (c_seq (c_region (wl (r_fa U35 sz3_GLoose dE rfl rfl rfl) (wl (r_ld1 (v := .int _ _) U3 rfl rfl (hb5.cell rfl)) ?_)))))
 refine wl (r_neq rfl rfl) (x_nil (e_S ?_))
 refine c_ifd rfl (fun c12 => ?_) (fun c12 => ?_)
 ·
  refine c_seq (c_region (wl (r_ldS U35 rfl rfl hb5.range0 sz35_GLoose) ?_))
  refine wl_stW hb4 rfl rfl sz35_GLoose rfl oneA (fun w7 hq hs => ?_)
  replace hB := hB.tr1 hs lo4
  replace hb2 := hb2.tr1 hs om
  replace hb3 := hb3.tr1 hs om
  replace hb5 := hb5.tr1 hs om
  clear hs
  replace hb4 := hq
  refine x_nil (e_S (c_ret (e_Sr (fin1 (.inl rfl) rfl (rr_cell U35 rfl rfl hb4.range0 sz35_GLoose) ?_))))
  exact ⟨ret_fl (lt_hier c12), hB⟩
 have h0 := Decidable.not_not.1 c12
 refine c_skip (e_S (c_seq (c_seq (c_region (wl (r_ldS U25 rfl rfl hb2.range0 sz25) ?_)))))
 refine wl (r_ldS U28 rfl rfl hb3.range0 sz28) ?_
 refine wl_cl fn32 (loose_any A B G c d cg l fs gr _ (hG.mono hB)) rfl (fun e' w8 hr => ?_)
 obtain ⟨rfl, hs⟩ := hr
 replace hs := Same.of_bel hs
 replace hB := hB.tr0 hs
 replace hb2 := hb2.tr0 hs
 replace hb3 := hb3.tr0 hs
 replace hb4 := hb4.tr0 hs
 replace hb5 := hb5.tr0 hs
 clear hs
 refine ⟨_, rfl, ?_⟩
 refine wl_al (cs := #[.int .i64 0, .int .i64 0]) ze35_GLoose rfl (fun b6 w9 hb6 hs hr => ?_)
 have or_b2_b6 : b2 < b6 := nLL hb2.lt hr
 have or_b3_b6 : b3 < b6 := nLL hb3.lt hr
 have or_b4_b6 : b4 < b6 := nLL hb4.lt hr
 have or_b5_b6 : b5 < b6 := nLL hb5.lt hr
 have lo6 := nLT (Bel.size hB) hr
 replace hB := hB.tr0 hs
 replace hb2 := hb2.tr0 hs
 replace hb3 := hb3.tr0 hs
 replace hb4 := hb4.tr0 hs
 replace hb5 := hb5.tr0 hs
 clear hs
 clear hr
 refine wl_stW hb6 rfl rfl sz35_GLoose rfl oneA (fun w10 hq hs => ?_)
 replace hB := hB.tr1 hs lo6
 replace hb2 := hb2.tr1 hs om
 replace hb3 := hb3.tr1 hs om
 replace hb4 := hb4.tr1 hs om
 replace hb5 := hb5.tr1 hs om
 clear hs
 replace hb6 := hq
 refine x_nil (e_S (c_seq (c_region (wl (r_fa U35 sz3_GLoose dE rfl rfl rfl) (wl (r_ld1 (v := .int _ _) U3 rfl rfl (hb6.cell rfl)) ?_)))))
 refine wl (r_neq rfl rfl) (x_nil (e_S ?_))
 refine c_ifd rfl (fun c19 => ?_) (fun c19 => ?_)
 ·
  refine c_seq (c_region (wl (r_ldS U35 rfl rfl hb6.range0 sz35_GLoose) ?_))
  refine wl_stW hb4 rfl rfl sz35_GLoose rfl oneA (fun w11 hq hs => ?_)
  replace hB := hB.tr1 hs lo4
  replace hb2 := hb2.tr1 hs om
  replace hb3 := hb3.tr1 hs om
  replace hb5 := hb5.tr1 hs om
  replace hb6 := hb6.tr1 hs om
  clear hs
  replace hb4 := hq
  refine x_nil (e_S (c_ret (e_Sr (fin1 (.inl rfl) rfl (rr_cell U35 rfl rfl hb4.range0 sz35_GLoose) ?_))))
  exact ⟨ret_fl (lt_loose h0 c19), hB⟩
 have h1 := Decidable.not_not.1 c19
 have hk := gok_of h1
 refine c_skip (e_S (c_seq (c_seq (c_region (wl (r_ldS U28 rfl rfl hb3.range0 sz28) ?_)))))
 refine wl_cl fn33 (unr_any G cg l.length fs.length gr _ (hG.mono hB) hk) rfl (fun e' w12 hr => ?_)
 obtain ⟨rfl, hs⟩ := hr
 replace hs := Same.of_bel hs
 replace hB := hB.tr0 hs
 replace hb2 := hb2.tr0 hs
 replace hb3 := hb3.tr0 hs
 replace hb4 := hb4.tr0 hs
 replace hb5 := hb5.tr0 hs
 replace hb6 := hb6.tr0 hs
 clear hs
 refine ⟨_, rfl, ?_⟩
 refine waI rfl (x_nil (e_S (c_seq (c_region (wmI rfl ?_)))))
 refine wl (r_geq rfl rfl) (x_nil (e_S ?_))
 refine c_ifd rfl (fun c24 => ?_) (fun c24 => ?_)
 ·
  refine c_seq (c_region (wmI rfl ?_))
  refine wl_cl fn34 (wfault_any _ _ _) rfl (fun e' w13 hr => ?_)
  obtain ⟨rfl, hs⟩ := hr
  replace hs := Same.of_bel hs
  replace hB := hB.tr0 hs
  replace hb2 := hb2.tr0 hs
  replace hb3 := hb3.tr0 hs
  replace hb4 := hb4.tr0 hs
  replace hb5 := hb5.tr0 hs
  replace hb6 := hb6.tr0 hs
  clear hs
  refine ⟨_, rfl, ?_⟩
  refine wl_stW hb4 rfl rfl sz35_GLoose rfl oneA (fun w14 hq hs => ?_)
  replace hB := hB.tr1 hs lo4
  replace hb2 := hb2.tr1 hs om
  replace hb3 := hb3.tr1 hs om
  replace hb5 := hb5.tr1 hs om
  replace hb6 := hb6.tr1 hs om
  clear hs
  replace hb4 := hq
  refine x_nil (e_S (c_ret (e_Sr (fin1 (.inl rfl) rfl (rr_cell U35 rfl rfl hb4.range0 sz35_GLoose) ?_))))
  exact ⟨ret_fl (lt_unr h0 h1 c24), hB⟩
 refine c_skip (e_S (c_seq (c_region (wl (r_bd (vs := #[]) (cs := #[.int .i64 0, .int .i64 0]) (by simp) kR) ?_))))
 refine wl_stW hb4 rfl rfl sz35_GLoose rfl oneA (fun w15 hq hs => ?_)
 replace hB := hB.tr1 hs lo4
 replace hb2 := hb2.tr1 hs om
 replace hb3 := hb3.tr1 hs om
 replace hb5 := hb5.tr1 hs om
 replace hb6 := hb6.tr1 hs om
 clear hs
 replace hb4 := hq
 refine x_nil (e_S (c_ret (fin1 (.inl rfl) rfl (rr_cell U35 rfl rfl hb4.range0 sz35_GLoose) ?_)))
 exact ⟨ret_fl (lt_zero h0 h1 c24), hB⟩
set_option maxHeartbeats 1000000 in
theorem raise_any {w : World} {zl zh b8 b9 bu bd gF cF i b : Nat} {l : List Ty} {G : List Nd} {T : Nat → Nat} (hTab : TabIn w) (hTI : TableIn w l bu bd) (hS : Sound l) (hb8 : Blk w b8 54 #[.slice (some ⟨bu, 0, none⟩) l.length l.length, .slice (some ⟨bd, 0, none⟩) l.length l.length]) (hb9 : Blk w b9 28 #[.slice (some ⟨gF, 0, none⟩) G.length cF]) (hg : GrT w zl zh (some ⟨gF, 0, none⟩) cF G (fun x => ((T x : Nat) : Int))) (hil : i < G.length) (ht : T i < l.length) (hbl : b < l.length) : Calls Tryd.prog 18 #[.int .i64 (i : Nat), .int .i64 (b : Nat), .pointer (some ⟨b8, 0, none⟩), .pointer (some ⟨b9, 0, none⟩)] w fun e w' => e = .returned (.bool (meet l (T i) b).2.1) ∧ ChG (fun k => k = gF) w w' ∧ GrT w' zl zh (some ⟨gF, 0, none⟩) cF G (fun x => (((if (meet l (T i) b).2.1 = true then raiseT l T (i, b) else T) x : Nat) : Int)) := by
 have hB : Bel w w := Below.refl _ _
 obtain ⟨V, g, cur, eA, hgF1, hgF2, hbF, hsz, hc0, hc1, hrF, hcl⟩   := hg.open_ hil
 cases eA
 have ne8 : b8 ≠ gF := fun e => absurd (blk_type (e ▸ hb8) hbF) dE
 have ne9 : b9 ≠ gF := fun e => absurd (blk_type (e ▸ hb9) hbF) dE
 refine enter Tryd.func18 Tryd.ntmps18 rfl (Nat.le_of_ble_eq_true rfl) (c_seq (c_region (waB rfl (x_nil (e_S ?_)))))
 refine c_seq ?_
 refine c_monoTO 16 [11, 12, 13, 14, 15, 16, 17, 18, 19, 10, 20, 21, 22, 7, 8, 9] (fun _ => false) (fun ix v wv => match ix with | 0 => v = tabV l.length bu bd | 1 => v = .pointer (some ⟨b9, 0, none⟩) | 2 => v = .slice (some ⟨gF, 0, none⟩) G.length cF | 3 => v = .int .i64 ((i : Nat) : Int) | 4 => v = .pointer (some ⟨gF, 0 + i * 2, none⟩) | 5 => v = .pointer (some ⟨gF, 0 + i * 2 + 0, none⟩) | 6 => v = .int .i64 ((T i : Nat) : Int) | 7 => v = .int .i64 ((b : Nat) : Int) | 8 => v = .tuple #[.int .i64 ((meet l (T i) b).1 : Nat), .bool (meet l (T i) b).2.1, .bool (meet l (T i) b).2.2] | 9 => v = .tuple #[.int .i64 ((meet l (T i) b).1 : Nat), .bool (meet l (T i) b).2.1, .bool (meet l (T i) b).2.2] | 10 => v = .int .i64 ((meet l (T i) b).1 : Nat) | 11 => v = .bool (meet l (T i) b).2.1 | 12 => v = .bool (meet l (T i) b).2.2 | 13 => v = .int .i64 ((meet l (T i) b).1 : Nat) | 14 => v = .bool (meet l (T i) b).2.1 | 15 => v = .bool (meet l (T i) b).2.2 | _ => True) kR kR ?_ ?_ ?_
 ·
  intro ix v wv wv2 h hs
  match ix, h with
  | 0, h => exact h
  | 1, h => exact h
  | 2, h => exact h
  | 3, h => exact h
  | 4, h => exact h
  | 5, h => exact h
  | 6, h => exact h
  | 7, h => exact h
  | 8, h => exact h
  | 9, h => exact h
  | 10, h => exact h
  | 11, h => exact h
  | 12, h => exact h
  | 13, h => exact h
  | 14, h => exact h
  | 15, h => exact h
  | _ + 16, h => exact trivial
 ·
  intro ix o hix hoq gg wx hs hd hdis
  match ix, hix, hoq with
  | 0, _, hoq =>
   obtain rfl := sI hoq
   have hs0 := hs
   replace hb8 := hb8.tr0 hs
   clear hs
   refine os_rv (r_ldS U54 rfl rfl hb8.range0 sz54_GVal) ⟨Same.refl _ _, ?_, frsh_no⟩
   exact rfl
  | 1, _, hoq =>
   obtain rfl := sI hoq
   have hs0 := hs
   replace hb9 := hb9.tr0 hs
   clear hs
   refine os_rv (r_fa U28 sz26 dE rfl rfl rfl) ⟨Same.refl _ _, ?_, frsh_no⟩
   exact rfl
  | 2, _, hoq =>
   obtain rfl := sI hoq
   have hs0 := hs
   replace hb9 := hb9.tr0 hs
   clear hs
   have d1 : gg 12 = .pointer (some ⟨b9, 0, none⟩) := hd 1 (dep_of kR)
   have e12 := d1
   refine os_know 12 (.pointer (some ⟨b9, 0, none⟩)) e12 nu ?_
   refine os_rv (r_ld1 (v := .slice _ _ _) U26 rfl rfl (hb9.cell rfl)) ⟨Same.refl _ _, ?_, frsh_no⟩
   exact rfl
  | 3, _, hoq =>
   obtain rfl := sI hoq
   have hs0 := hs
   clear hs
   refine os_rv (r_mv (v := .int _ _) rfl) ⟨Same.refl _ _, ?_, frsh_no⟩
   exact rfl
  | 4, _, hoq =>
   obtain rfl := sI hoq
   have hs0 := hs
   clear hs
   have d2 : gg 13 = .slice (some ⟨gF, 0, none⟩) G.length cF := hd 2 (dep_of kR)
   have e13 := d2
   have d3 : gg 14 = .int .i64 ((i : Nat) : Int) := hd 3 (dep_of kR)
   have e14 := d3
   refine os_know 13 (.slice (some ⟨gF, 0, none⟩) G.length cF) e13 nu (os_know 14 (.int .i64 ((i : Nat) : Int)) e14 nu ?_)
   refine os_rv (r_ia (i := i) U26 sz33 rfl rfl hil rfl) ⟨Same.refl _ _, ?_, frsh_no⟩
   exact rfl
  | 5, _, hoq =>
   obtain rfl := sI hoq
   have hs0 := hs
   clear hs
   have d4 : gg 15 = .pointer (some ⟨gF, 0 + i * 2, none⟩) := hd 4 (dep_of kR)
   have e15 := d4
   refine os_know 15 (.pointer (some ⟨gF, 0 + i * 2, none⟩)) e15 nu ?_
   refine os_rv (r_fa U33 sz3_GLoose dE rfl rfl rfl) ⟨Same.refl _ _, ?_, frsh_no⟩
   exact rfl
  | 6, _, hoq =>
   obtain rfl := sI hoq
   have hs0 := hs
   replace hbF := hbF.tr0 hs
   clear hs
   have d5 : gg 16 = .pointer (some ⟨gF, 0 + i * 2 + 0, none⟩) := hd 5 (dep_of kR)
   have e16 := d5
   refine os_know 16 (.pointer (some ⟨gF, 0 + i * 2 + 0, none⟩)) e16 nu ?_
   refine os_rv (r_ld1 (v := .int _ _) U3 rfl rfl (hbF.cell (hc0 i hil))) ⟨Same.refl _ _, ?_, frsh_no⟩
   exact rfl
  | 7, _, hoq =>
   obtain rfl := sI hoq
   have hs0 := hs
   clear hs
   refine os_rv (r_mv (v := .int _ _) rfl) ⟨Same.refl _ _, ?_, frsh_no⟩
   exact rfl
  | 8, _, hoq =>
   obtain rfl := sI hoq
   have hs0 := hs
   replace hB := hB.tr0 hs
   clear hs
   have d0 : gg 11 = tabV l.length bu bd := hd 0 (dep_of kR)
   have e11 := d0
   have d6 : gg 17 = .int .i64 ((T i : Nat) : Int) := hd 6 (dep_of kR)
   have e17 := d6
   have d7 : gg 18 = .int .i64 ((b : Nat) : Int) := hd 7 (dep_of kR)
   have e18 := d7
   refine os_know 11 (tabV l.length bu bd) e11 (by simp [undef, tabV]) (os_know 17 (.int .i64 ((T i : Nat) : Int)) e17 nu (os_know 18 (.int .i64 ((b : Nat) : Int)) e18 nu ?_))
   refine os_cl fn19_Wlt (meet_any l bu bd (T i) b wx (hTab.mono hB) (hTI.mono hB) hS.vt hS.le ht hbl) rfl (fun e' w2 hr => ?_)
   obtain ⟨rfl, hs⟩ := hr
   exact ⟨_, rfl, Same.of_bel hs, rfl, frsh_no⟩
  | 9, _, hoq =>
   obtain rfl := sI hoq
   have hs0 := hs
   clear hs
   have d8 : gg 19 = .tuple #[.int .i64 ((meet l (T i) b).1 : Nat), .bool (meet l (T i) b).2.1, .bool (meet l (T i) b).2.2] := hd 8 (dep_of kR)
   have e19 := d8
   refine os_know 19 (.tuple #[.int .i64 ((meet l (T i) b).1 : Nat), .bool (meet l (T i) b).2.1, .bool (meet l (T i) b).2.2]) e19 nu ?_
   refine os_rv (r_mv (v := .tuple _) rfl) ⟨Same.refl _ _, ?_, frsh_no⟩
   exact rfl
  | 10, _, hoq =>
   obtain rfl := sI hoq
   have hs0 := hs
   clear hs
   have d9 : gg 10 = .tuple #[.int .i64 ((meet l (T i) b).1 : Nat), .bool (meet l (T i) b).2.1, .bool (meet l (T i) b).2.2] := hd 9 (dep_of kR)
   have e10 := d9
   refine os_know 10 (.tuple #[.int .i64 ((meet l (T i) b).1 : Nat), .bool (meet l (T i) b).2.1, .bool (meet l (T i) b).2.2]) e10 nu ?_
   refine os_rv (r_ex (v := _) rfl rfl) ⟨Same.refl _ _, ?_, frsh_no⟩
   exact rfl
  | 11, _, hoq =>
   obtain rfl := sI hoq
   have hs0 := hs
   clear hs
   have d9 : gg 10 = .tuple #[.int .i64 ((meet l (T i) b).1 : Nat), .bool (meet l (T i) b).2.1, .bool (meet l (T i) b).2.2] := hd 9 (dep_of kR)
   have e10 := d9
   refine os_know 10 (.tuple #[.int .i64 ((meet l (T i) b).1 : Nat), .bool (meet l (T i) b).2.1, .bool (meet l (T i) b).2.2]) e10 nu ?_
   refine os_rv (r_ex (v := _) rfl rfl) ⟨Same.refl _ _, ?_, frsh_no⟩
   exact rfl
  | 12, _, hoq =>
   obtain rfl := sI hoq
   have hs0 := hs
   clear hs
   have d9 : gg 10 = .tuple #[.int .i64 ((meet l (T i) b).1 : Nat), .bool (meet l (T i) b).2.1, .bool (meet l (T i) b).2.2] := hd 9 (dep_of kR)
   have e10 := d9
   refine os_know 10 (.tuple #[.int .i64 ((meet l (T i) b).1 : Nat), .bool (meet l (T i) b).2.1, .bool (meet l (T i) b).2.2]) e10 nu ?_
   refine os_rv (r_ex (v := _) rfl rfl) ⟨Same.refl _ _, ?_, frsh_no⟩
   exact rfl
  | 13, _, hoq =>
   obtain rfl := sI hoq
   have hs0 := hs
   clear hs
   have d10 : gg 20 = .int .i64 ((meet l (T i) b).1 : Nat) := hd 10 (dep_of kR)
   have e20 := d10
   refine os_know 20 (.int .i64 ((meet l (T i) b).1 : Nat)) e20 nu ?_
   refine os_rv (r_as (v := .int _ _) rfl) ⟨Same.refl _ _, ?_, frsh_no⟩
   exact rfl
  | 14, _, hoq =>
   obtain rfl := sI hoq
   have hs0 := hs
   clear hs
   have d11 : gg 21 = .bool (meet l (T i) b).2.1 := hd 11 (dep_of kR)
   have e21 := d11
   refine os_know 21 (.bool (meet l (T i) b).2.1) e21 nu ?_
   refine os_rv (r_as (v := .bool _) rfl) ⟨Same.refl _ _, ?_, frsh_no⟩
   exact rfl
  | 15, _, hoq =>
   obtain rfl := sI hoq
   have hs0 := hs
   clear hs
   have d12 : gg 22 = .bool (meet l (T i) b).2.2 := hd 12 (dep_of kR)
   have e22 := d12
   refine os_know 22 (.bool (meet l (T i) b).2.2) e22 nu ?_
   refine os_rv (r_as (v := .bool _) rfl) ⟨Same.refl _ _, ?_, frsh_no⟩
   exact rfl
  | _ + 16, hix, _ => exact absurd hix om
 intro gg w1 hs hR hdis
 have hs0 := hs
 replace hB := hB.tr0 hs
 replace hb8 := hb8.tr0 hs
 replace hb9 := hb9.tr0 hs
 replace hbF := hbF.tr0 hs
 replace hrF := fun x hx => (hrF x hx).tr hs (by simp)
 clear hs
 have d13 : gg 7 = .int .i64 ((meet l (T i) b).1 : Nat) := hR 13 dE
 have e7 := d13
 have d14 : gg 8 = .bool (meet l (T i) b).2.1 := hR 14 dE
 have e8 := d14
 have d15 : gg 9 = .bool (meet l (T i) b).2.2 := hR 15 dE
 have e9 := d15
 refine wl_know 7 (.int .i64 ((meet l (T i) b).1 : Nat)) e7 nu (wl_know 8 (.bool (meet l (T i) b).2.1) e8 nu (wl_know 9 (.bool (meet l (T i) b).2.2) e9 nu (x_nil (e_S (c_seq ?_)))))
 refine c_seq (c_region (wmB rfl (x_nil (e_S ?_))))
 refine c_if rfl (fun c23 => ?_) (fun c23 => ?_)
 ·
  have hC : ChG (fun k => k = gF) w w1 := ChG.bel hB
  refine c_region (wl (r_fa U28 sz26 dE rfl rfl rfl) (wl (r_ld1 (v := .slice _ _ _) U26 rfl rfl (hb9.cell rfl)) (wmI rfl (wmI rfl (wl (r_ia (i := i) U26 sz33 rfl rfl hil rfl) ?_)))))
  refine wl (r_fa U33 sz3_GLoose dE rfl rfl rfl) ?_
  refine wl_st1 (v := .int _ _) hbF rfl rfl sz3_GLoose (by show 0 + i * 2 + 0 < cur.size; omega) rfl rfl (fun w2 hq hs => ?_)
  replace hb8 := hb8.tr1 hs om
  replace hb9 := hb9.tr1 hs om
  replace hrF := fun x hx => (hrF x hx).tr hs (fun g hg => by rw [List.mem_singleton.1 hg]; exact .inr ⟨_, _, hbF, by decide⟩)
  replace hC := hC.st hs (fun g hg => .inl (List.mem_singleton.1 hg))
  clear hs
  replace hbF := hq
  refine x_nil (e_S (c_seq (c_region (wmB rfl (waB rfl ?_)))))
  refine x_nil (e_S (c_ret (fin1 (.inl rfl) rfl rfl ?_)))
  first
    | exact ⟨rfl, hC, (hcl _ _ hbF hrF).congr (fun y _ => by rw [if_pos c23]; unfold raiseT; by_cases e : y = i <;> simp [e])⟩
    | exact ⟨rfl, hC, by rw [if_neg (show ¬ (meet l (T i) b).2.1 = true from by rw [c23]; decide)]; exact hg.tr (Same.of_bel hB) (by simp)⟩
 have hC : ChG (fun k => k = gF) w w1 := ChG.bel hB
 refine c_skip (e_S (c_seq (c_region (wmB rfl (waB rfl ?_)))))
 refine x_nil (e_S (c_ret (fin1 (.inl rfl) rfl rfl ?_)))
 first
   | exact ⟨rfl, hC, (hcl _ _ hbF hrF).congr (fun y _ => by rw [if_pos c23]; unfold raiseT; by_cases e : y = i <;> simp [e])⟩
   | exact ⟨rfl, hC, by rw [if_neg (show ¬ (meet l (T i) b).2.1 = true from by rw [c23]; decide)]; exact hg.tr (Same.of_bel hB) (by simp)⟩
end Go.Proofs.YtfhmpbmgddaiiaaDoor
