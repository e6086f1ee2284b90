/- What these functions of the program compute, at every world: glosswright/glosswrightlaw3.HierarchyOrderMatchesSpec. -/
import Derived.Test.YthhkbhapfcfdjaaDoorRef6
namespace Go.Proofs.YthhkbhapfcfdjaaDoor
open Go.RowKit

theorem hsub_no {l : List Ty} {fs : List Ft} {a b : Int} (h : ¬ (twoF l fs a b).1 = 0) : hsub l fs a b = false := by unfold hsub; rw [if_pos h]
theorem hmeet_no {l : List Ty} {fs : List Ft} {a b : Int} (h : ¬ (twoF l fs a b).1 = 0) : hmeet l fs a b = (0, false) := by unfold hmeet; rw [if_pos h]
theorem hjoin_no {l : List Ty} {fs : List Ft} {a b : Int} (h : ¬ (twoF l fs a b).1 = 0) : hjoin l fs a b = [] := by unfold hjoin; rw [if_pos h]

theorem fn16 : callable Tryd.prog 16 = true := by kernel_rfl
theorem fn18 : callable Tryd.prog 18 = true := by kernel_rfl
set_option maxHeartbeats 2000000 in
theorem law6_any (A B : Option Addr) (c d : Nat) (l : List Ty) (fs : List Ft) (a b : Int) (w : World) (hTab : TabIn w) (hl : l.length ≤ c) (hf : fs.length ≤ d) (hT : TypesIn w A l) (hF : FeatsIn w B fs) (ha : -9223372036854775808 ≤ a ∧ a ≤ 9223372036854775807) (hbb : -9223372036854775808 ≤ b ∧ b ≤ 9223372036854775807) : Calls Tryd.prog 6 #[.agg #[.slice A l.length c, .slice B fs.length d], .int .i64 a, .int .i64 b] w fun e w' => e = .returned (.bool true) ∧ Bel w w' := by
  refine enter Tryd.func6 Tryd.ntmps6 rfl (Nat.le_of_ble_eq_true rfl) ?_
  have hB : Bel w w := Below.refl _ _
  refine c_seq ?_
  refine c_region ?_
  refine wl_bx (v := .agg #[_, _]) (cs := #[_, _]) rfl rfl (fun b3 w1 hb3 hs hr => ?_)
  have lo3 := Nat.le_trans (Bel.size hB) hr
  replace hB := hB.tr0 hs
  clear hs
  clear hr
  refine wl (r_as (v := .bool _) rfl) ?_
  refine x_nil ?_
  refine e_S ?_
  refine c_seq ?_
  refine c_region ?_
  refine wl_cl fn9 (small_any _) rfl (fun e' w2 hr => ?_)
  obtain ⟨⟨As, cs, Bs, ds, xs, ys, zs, rfl, hTs, hFs⟩, hs⟩ := hr
  replace hs := Same.of_bel hs
  replace hB := hB.tr0 hs
  replace hb3 := hb3.tr0 hs
  clear hs
  have hB2 : Bel w2 w2 := Below.refl _ _
  refine ⟨_, rfl, ?_⟩
  refine wl (r_fdS (cs' := #[_, _]) Tryd.underlying36 rfl Tryd.underlying25 rfl sz25 rfl rfl) ?_
  refine wl_al (cs := #[.slice none 0 0, .slice none 0 0]) ze25 rfl (fun b7 w3 hb7 hs hr => ?_)
  have or_b3_b7 : b3 < b7 := Nat.lt_of_lt_of_le hb3.lt hr
  have lo7 := Nat.le_trans (Bel.size hB) hr
  have lo_hB2_b7 := Nat.le_trans (Bel.size hB2) hr
  replace hB := hB.tr0 hs
  replace hb3 := hb3.tr0 hs
  replace hB2 := hB2.tr0 hs
  clear hs
  clear hr
  refine wl_stW hb7 rfl rfl sz25 rfl (by repeat (first | rfl | refine one_cons (by first | rfl | assumption) ?_)) (fun w4 hq hs => ?_)
  replace hB := hB.tr1 hs lo7
  replace hb3 := hb3.tr1 hs (by omega)
  replace hB2 := hB2.tr1 hs lo_hB2_b7
  clear hs
  replace hb7 := hq
  refine x_nil ?_
  refine e_S ?_
  refine c_seq ?_
  refine c_seq ?_
  refine c_region ?_
  refine wl (r_ldS Tryd.underlying25 rfl rfl hb7.range0 sz25) ?_
  refine wl_cl fn13 (small_sub (hTab.mono hB) (hTs.mono hB2) (hFs.mono hB2)) rfl (fun e' w5 hr => ?_)
  obtain ⟨rfl, hs⟩ := hr
  replace hs := Same.of_bel hs
  replace hB := hB.tr0 hs
  replace hb3 := hb3.tr0 hs
  replace hB2 := hB2.tr0 hs
  replace hb7 := hb7.tr0 hs
  clear hs
  refine ⟨_, rfl, ?_⟩
  refine wl (r_mv (v := .tuple _) rfl) ?_
  refine wl (r_ex (v := .bool _) rfl rfl) ?_
  refine wl (r_ex (v := .agg _) rfl rfl) ?_
  refine wl_al (cs := #[.int .i64 0, .int .i64 0]) ze27 rfl (fun b9 w6 hb9 hs hr => ?_)
  have or_b3_b9 : b3 < b9 := Nat.lt_of_lt_of_le hb3.lt hr
  have or_b7_b9 : b7 < b9 := Nat.lt_of_lt_of_le hb7.lt hr
  have lo9 := Nat.le_trans (Bel.size hB) hr
  replace hB := hB.tr0 hs
  replace hb3 := hb3.tr0 hs
  replace hb7 := hb7.tr0 hs
  clear hs
  clear hr
  refine wl (r_as (v := .bool _) rfl) ?_
  refine wl_stW hb9 rfl rfl sz27 rfl (by repeat (first | rfl | refine one_cons (by first | rfl | assumption) ?_)) (fun w7 hq hs => ?_)
  replace hB := hB.tr1 hs lo9
  replace hb3 := hb3.tr1 hs (by omega)
  replace hb7 := hb7.tr1 hs (by omega)
  clear hs
  replace hb9 := hq
  refine x_nil ?_
  refine e_S ?_
  refine c_seq ?_
  refine c_region ?_
  refine wl (r_mv (v := .bool _) rfl) ?_
  refine wl (r_not rfl) ?_
  refine wl (r_mv (v := .bool false) rfl) ?_
  refine wl_gd 30 rfl rfl ?_
  refine wl (r_fa Tryd.underlying27 sz3 (by decide) rfl rfl rfl) ?_
  refine wl_gd 30 rfl rfl ?_
  refine wl (r_ld1 (v := .int _ _) Tryd.underlying3 rfl rfl (hb9.cell rfl)) ?_
  refine wl_gd 30 rfl rfl ?_
  refine wl (r_neq rfl rfl) ?_
  refine wl (r_pf (v := .bool _) rfl rfl) ?_
  refine x_nil ?_
  refine e_S ?_
  refine c_ifd rfl (fun c34 => ?_) (fun c34 => ?_)
  · exact absurd rfl c34
  · skip
    refine c_skip ?_
    refine e_S ?_
    refine c_seq ?_
    refine c_region ?_
    refine wl (r_ldS Tryd.underlying25 rfl rfl hb3.range0 sz25) ?_
    refine wl_cl fn10 (hierFault_any A B c d l fs _ hl hf (hT.mono hB) (hF.mono hB)) rfl (fun e' w8 hr => ?_)
    obtain ⟨rfl, hs⟩ := hr
    replace hs := Same.of_bel hs
    replace hB := hB.tr0 hs
    replace hb3 := hb3.tr0 hs
    replace hb7 := hb7.tr0 hs
    replace hb9 := hb9.tr0 hs
    clear hs
    refine ⟨_, rfl, ?_⟩
    refine wl_al (cs := #[.int .i64 0, .int .i64 0]) ze27 rfl (fun b10 w9 hb10 hs hr => ?_)
    have or_b3_b10 : b3 < b10 := Nat.lt_of_lt_of_le hb3.lt hr
    have or_b7_b10 : b7 < b10 := Nat.lt_of_lt_of_le hb7.lt hr
    have or_b9_b10 : b9 < b10 := Nat.lt_of_lt_of_le hb9.lt hr
    have lo10 := Nat.le_trans (Bel.size hB) hr
    replace hB := hB.tr0 hs
    replace hb3 := hb3.tr0 hs
    replace hb7 := hb7.tr0 hs
    replace hb9 := hb9.tr0 hs
    clear hs
    clear hr
    refine wl_stW hb10 rfl rfl sz27 rfl (by repeat (first | rfl | refine one_cons (by first | rfl | assumption) ?_)) (fun w10 hq hs => ?_)
    replace hB := hB.tr1 hs lo10
    replace hb3 := hb3.tr1 hs (by omega)
    replace hb7 := hb7.tr1 hs (by omega)
    replace hb9 := hb9.tr1 hs (by omega)
    clear hs
    replace hb10 := hq
    refine x_nil ?_
    refine e_S ?_
    refine c_seq ?_
    refine c_seq ?_
    refine c_cut1 [37, 38, 39, 40, 41, 42, 43, 44, 45, 46, 47, 48, 49, 50] 50 (.bool (decide ((hierFault l fs).1 = 0 ∧ (a < 0 ∨ (l.length : Int) ≤ a)))) (by simp [undef]) ?_ (fun gq => ?_)
    · refine c_region ?_
      refine wl (r_fa Tryd.underlying27 sz3 (by decide) rfl rfl rfl) ?_
      refine wl (r_ld1 (v := .int _ _) Tryd.underlying3 rfl rfl (hb10.cell rfl)) ?_
      refine wl (r_eql rfl rfl) ?_
      refine wl (r_mv (v := .bool _) rfl) ?_
      refine wl_casesd 40 rfl (fun g40 => ?_) (fun g40 => ?_)
      · skip
        refine wl_gd 40 rfl rfl ?_
        refine wl (r_mv (v := .int _ _) rfl) ?_
        refine wl_gd 40 rfl rfl ?_
        refine wl (r_lss rfl rfl) ?_
        refine wl_gd 40 rfl rfl ?_
        refine wl (r_mv (v := .bool _) rfl) ?_
        refine wl_casesd 43 rfl (fun g43 => ?_) (fun g43 => ?_)
        · skip
          refine wlgn 43 rfl rfl rfl ?_
          refine wlgn 43 rfl rfl rfl ?_
          refine wlgn 43 rfl rfl rfl ?_
          refine wlgn 43 rfl rfl rfl ?_
          refine wlgn 43 rfl rfl rfl ?_
          refine wl_gd 40 rfl rfl ?_
          refine wl (r_pt (v := .bool _) rfl rfl) ?_
          refine wl (r_pt (v := .bool _) rfl rfl) ?_
          refine x_nil (e_R ⟨rfl, (by repeat (first | exact ag_refl | exact ag_ovr' | refine ag_upd rfl ?_ | refine ag_sub rfl ?_ | refine ag_kn (by assumption) ?_)), ?_⟩)
          show Value.bool _ = Value.bool _
          first | exact congrArg Value.bool (decide_eq_true (by omega)).symm | exact congrArg Value.bool (decide_eq_false (by omega)).symm | exact congrArg Value.bool (decide_eq_decide.2 (by omega)) | exact congrArg Value.bool ((decide_not).symm.trans (decide_eq_decide.2 (by omega)))
        · skip
          refine wl_gd 43 rfl rfl ?_
          refine wl (r_mv (v := .int _ _) rfl) ?_
          refine wl_gd 43 rfl rfl ?_
          refine wl (r_fa Tryd.underlying25 sz22 (by decide) rfl rfl rfl) ?_
          refine wl_gd 43 rfl rfl ?_
          refine wl (r_ld1 (v := .slice _ _ _) Tryd.underlying22 rfl rfl (hb3.cell rfl)) ?_
          refine wl_gd 43 rfl rfl ?_
          refine wl (r_len Tryd.underlying22 rfl) ?_
          refine wl_gd 43 rfl rfl ?_
          refine wl (r_geq rfl rfl) ?_
          refine wl_gd 40 rfl rfl ?_
          refine wl (r_pf (v := .bool _) rfl rfl) ?_
          refine wl (r_pt (v := .bool _) rfl rfl) ?_
          refine x_nil (e_R ⟨rfl, (by repeat (first | exact ag_refl | exact ag_ovr' | refine ag_upd rfl ?_ | refine ag_sub rfl ?_ | refine ag_kn (by assumption) ?_)), ?_⟩)
          show Value.bool _ = Value.bool _
          first | exact congrArg Value.bool (decide_eq_true (by omega)).symm | exact congrArg Value.bool (decide_eq_false (by omega)).symm | exact congrArg Value.bool (decide_eq_decide.2 (by omega)) | exact congrArg Value.bool ((decide_not).symm.trans (decide_eq_decide.2 (by omega)))
      · skip
        refine wlgn 40 rfl rfl rfl ?_
        refine wlgn 40 rfl rfl rfl ?_
        refine wlgn 40 rfl rfl rfl ?_
        refine wlgu 43 rfl rfl ?_
        refine wlgu 43 rfl rfl ?_
        refine wlgu 43 rfl rfl ?_
        refine wlgu 43 rfl rfl ?_
        refine wlgu 43 rfl rfl ?_
        refine wlgn 40 rfl rfl rfl ?_
        refine wl (r_pf (v := .bool _) rfl rfl) ?_
        refine x_nil (e_R ⟨rfl, (by repeat (first | exact ag_refl | exact ag_ovr' | refine ag_upd rfl ?_ | refine ag_sub rfl ?_ | refine ag_kn (by assumption) ?_)), ?_⟩)
        show Value.bool _ = Value.bool _
        first | exact congrArg Value.bool (decide_eq_true (by omega)).symm | exact congrArg Value.bool (decide_eq_false (by omega)).symm | exact congrArg Value.bool (decide_eq_decide.2 (by omega)) | exact congrArg Value.bool ((decide_not).symm.trans (decide_eq_decide.2 (by omega)))
    refine e_S ?_
    refine c_ifd rfl (fun c50 => ?_) (fun c50 => ?_)
    · skip
      refine c_region ?_
      refine wl (r_bd2 (v0 := .int _ _) (v1 := .int _ _) (fun v0 v1 => #[v0, v1]) rfl rfl (by kernel_rfl)) ?_
      refine wl_stW hb10 rfl rfl sz27 rfl (by repeat (first | rfl | refine one_cons (by first | rfl | assumption) ?_)) (fun w11 hq hs => ?_)
      replace hB := hB.tr1 hs lo10
      replace hb3 := hb3.tr1 hs (by omega)
      replace hb7 := hb7.tr1 hs (by omega)
      replace hb9 := hb9.tr1 hs (by omega)
      clear hs
      replace hb10 := hq
      have h2 := two_a (fs := fs) (b := b) c50.1 c50.2
      replace hb10 : Blk w11 b10 27 #[.int .i64 (twoF l fs a b).1, .int .i64 (twoF l fs a b).2] := by rw [h2]; exact hb10
      refine x_nil ?_
      refine e_S ?_
      refine c_seq ?_
      refine c_region ?_
      refine wl (r_ldS Tryd.underlying25 rfl rfl hb3.range0 sz25) ?_
      refine wl (r_mv (v := .int _ _) rfl) ?_
      refine wl (r_mv (v := .int _ _) rfl) ?_
      refine wl_cl fn13 (hsub_any A B c d l fs a b _ (hTab.mono hB) (hT.mono hB) (hF.mono hB)) rfl (fun e' w12 hr => ?_)
      obtain ⟨rfl, hs⟩ := hr
      replace hs := Same.of_bel hs
      replace hB := hB.tr0 hs
      replace hb3 := hb3.tr0 hs
      replace hb7 := hb7.tr0 hs
      replace hb9 := hb9.tr0 hs
      replace hb10 := hb10.tr0 hs
      clear hs
      refine ⟨_, rfl, ?_⟩
      refine wl (r_mv (v := .tuple _) rfl) ?_
      refine wl (r_ex (v := .bool _) rfl rfl) ?_
      refine wl (r_ex (v := .agg _) rfl rfl) ?_
      refine wl_al (cs := #[.int .i64 0, .int .i64 0]) ze27 rfl (fun b12 w13 hb12 hs hr => ?_)
      have or_b3_b12 : b3 < b12 := Nat.lt_of_lt_of_le hb3.lt hr
      have or_b7_b12 : b7 < b12 := Nat.lt_of_lt_of_le hb7.lt hr
      have or_b9_b12 : b9 < b12 := Nat.lt_of_lt_of_le hb9.lt hr
      have or_b10_b12 : b10 < b12 := Nat.lt_of_lt_of_le hb10.lt hr
      have lo12 := Nat.le_trans (Bel.size hB) hr
      replace hB := hB.tr0 hs
      replace hb3 := hb3.tr0 hs
      replace hb7 := hb7.tr0 hs
      replace hb9 := hb9.tr0 hs
      replace hb10 := hb10.tr0 hs
      clear hs
      clear hr
      refine wl (r_as (v := .bool _) rfl) ?_
      refine wl_stW hb12 rfl rfl sz27 rfl (by repeat (first | rfl | refine one_cons (by first | rfl | assumption) ?_)) (fun w14 hq hs => ?_)
      replace hB := hB.tr1 hs lo12
      replace hb3 := hb3.tr1 hs (by omega)
      replace hb7 := hb7.tr1 hs (by omega)
      replace hb9 := hb9.tr1 hs (by omega)
      replace hb10 := hb10.tr1 hs (by omega)
      clear hs
      replace hb12 := hq
      refine x_nil ?_
      refine e_S ?_
      refine c_seq ?_
      refine c_region ?_
      refine wl (r_ldS Tryd.underlying25 rfl rfl hb3.range0 sz25) ?_
      refine wl (r_mv (v := .int _ _) rfl) ?_
      refine wl (r_mv (v := .int _ _) rfl) ?_
      refine wl_cl fn11 (hmeet_any A B c d l fs a b _ (hTab.mono hB) (hT.mono hB) (hF.mono hB)) rfl (fun e' w15 hr => ?_)
      obtain ⟨rfl, hs⟩ := hr
      replace hs := Same.of_bel hs
      replace hB := hB.tr0 hs
      replace hb3 := hb3.tr0 hs
      replace hb7 := hb7.tr0 hs
      replace hb9 := hb9.tr0 hs
      replace hb10 := hb10.tr0 hs
      replace hb12 := hb12.tr0 hs
      clear hs
      refine ⟨_, rfl, ?_⟩
      refine wl (r_mv (v := .tuple _) rfl) ?_
      refine wl (r_ex (v := .int _ _) rfl rfl) ?_
      refine wl (r_ex (v := .bool _) rfl rfl) ?_
      refine wl (r_ex (v := .agg _) rfl rfl) ?_
      refine wl_al (cs := #[.int .i64 0, .int .i64 0]) ze27 rfl (fun b15 w16 hb15 hs hr => ?_)
      have or_b3_b15 : b3 < b15 := Nat.lt_of_lt_of_le hb3.lt hr
      have or_b7_b15 : b7 < b15 := Nat.lt_of_lt_of_le hb7.lt hr
      have or_b9_b15 : b9 < b15 := Nat.lt_of_lt_of_le hb9.lt hr
      have or_b10_b15 : b10 < b15 := Nat.lt_of_lt_of_le hb10.lt hr
      have or_b12_b15 : b12 < b15 := Nat.lt_of_lt_of_le hb12.lt hr
      have lo15 := Nat.le_trans (Bel.size hB) hr
      replace hB := hB.tr0 hs
      replace hb3 := hb3.tr0 hs
      replace hb7 := hb7.tr0 hs
      replace hb9 := hb9.tr0 hs
      replace hb10 := hb10.tr0 hs
      replace hb12 := hb12.tr0 hs
      clear hs
      clear hr
      refine wl (r_as (v := .int _ _) rfl) ?_
      refine wl (r_as (v := .bool _) rfl) ?_
      refine wl_stW hb15 rfl rfl sz27 rfl (by repeat (first | rfl | refine one_cons (by first | rfl | assumption) ?_)) (fun w17 hq hs => ?_)
      replace hB := hB.tr1 hs lo15
      replace hb3 := hb3.tr1 hs (by omega)
      replace hb7 := hb7.tr1 hs (by omega)
      replace hb9 := hb9.tr1 hs (by omega)
      replace hb10 := hb10.tr1 hs (by omega)
      replace hb12 := hb12.tr1 hs (by omega)
      clear hs
      replace hb15 := hq
      refine x_nil ?_
      refine e_S ?_
      refine c_seq ?_
      refine c_region ?_
      refine wl (r_ldS Tryd.underlying25 rfl rfl hb3.range0 sz25) ?_
      refine wl (r_mv (v := .int _ _) rfl) ?_
      refine wl (r_mv (v := .int _ _) rfl) ?_
      have hbs := Bel.size hB
      have z10 := hb10.lt
      refine wl_cl fn14 (hjoin_any A B c d l fs a b _ (hTab.mono hB) (hT.mono hB) (hF.mono hB)) rfl (fun e' w18 hr => ?_)
      obtain ⟨⟨AJ, capJ, rfl, hoJ⟩, hs⟩ := hr
      replace hs := Same.of_bel hs
      replace hB := hB.tr0 hs
      replace hb3 := hb3.tr0 hs
      replace hb7 := hb7.tr0 hs
      replace hb9 := hb9.tr0 hs
      replace hb10 := hb10.tr0 hs
      replace hb12 := hb12.tr0 hs
      replace hb15 := hb15.tr0 hs
      clear hs
      refine ⟨_, rfl, ?_⟩
      refine wl (r_mv (v := .tuple _) rfl) ?_
      refine wl (r_ex (v := .slice _ _ _) rfl rfl) ?_
      refine wl (r_ex (v := .agg _) rfl rfl) ?_
      refine wl_al (cs := #[.int .i64 0, .int .i64 0]) ze27 rfl (fun b17 w19 hb17 hs hr => ?_)
      have or_b3_b17 : b3 < b17 := Nat.lt_of_lt_of_le hb3.lt hr
      have or_b7_b17 : b7 < b17 := Nat.lt_of_lt_of_le hb7.lt hr
      have or_b9_b17 : b9 < b17 := Nat.lt_of_lt_of_le hb9.lt hr
      have or_b10_b17 : b10 < b17 := Nat.lt_of_lt_of_le hb10.lt hr
      have or_b12_b17 : b12 < b17 := Nat.lt_of_lt_of_le hb12.lt hr
      have or_b15_b17 : b15 < b17 := Nat.lt_of_lt_of_le hb15.lt hr
      have or_hoJ_b17 := fun g hg => Nat.lt_of_lt_of_le (hoJ.lt g hg).2 hr
      have lo17 := Nat.le_trans (Bel.size hB) hr
      replace hB := hB.tr0 hs
      replace hb3 := hb3.tr0 hs
      replace hb7 := hb7.tr0 hs
      replace hb9 := hb9.tr0 hs
      replace hb10 := hb10.tr0 hs
      replace hb12 := hb12.tr0 hs
      replace hb15 := hb15.tr0 hs
      replace hoJ := hoJ.tr0 hs
      clear hs
      clear hr
      refine wl (r_as (v := .slice _ _ _) rfl) ?_
      refine wl_stW hb17 rfl rfl sz27 rfl (by repeat (first | rfl | refine one_cons (by first | rfl | assumption) ?_)) (fun w20 hq hs => ?_)
      replace hB := hB.tr1 hs lo17
      replace hb3 := hb3.tr1 hs (by omega)
      replace hb7 := hb7.tr1 hs (by omega)
      replace hb9 := hb9.tr1 hs (by omega)
      replace hb10 := hb10.tr1 hs (by omega)
      replace hb12 := hb12.tr1 hs (by omega)
      replace hb15 := hb15.tr1 hs (by omega)
      replace hoJ := hoJ.tr1 hs (fun g hg => by have := (hoJ.lt g hg).1; (try have := or_hoJ_b17 g hg); (try simp only [aL, List.mem_singleton] at hg); omega)
      clear hs
      replace hb17 := hq
      refine x_nil ?_
      refine e_S ?_
      refine c_seq ?_
      refine c_seq ?_
      refine c_region ?_
      refine wl (r_fa Tryd.underlying27 sz3 (by decide) rfl rfl rfl) ?_
      refine wl (r_ld1 (v := .int _ _) Tryd.underlying3 rfl rfl (hb10.cell rfl)) ?_
      refine wl (r_neq rfl rfl) ?_
      refine x_nil ?_
      refine e_S ?_
      refine c_ifd rfl (fun c91 => ?_) (fun c91 => ?_)
      · skip
        refine c_seq ?_
        refine c_region ?_
        refine wl (r_ldS Tryd.underlying27 rfl rfl hb12.range0 sz27) ?_
        refine wl (r_ldS Tryd.underlying27 rfl rfl hb10.range0 sz27) ?_
        refine wl (r_eqF Tryd.eqGuardType27 ft27 Tryd.stoodInHeld27 fd27 Tryd.underlying3 rfl rfl) ?_
        refine wl (r_mv (v := .bool true) (congrArg Value.bool (decide_eq_true ⟨rfl, rfl⟩))) ?_
        refine wl_gd 95 rfl rfl ?_
        refine wl (r_ldS Tryd.underlying27 rfl rfl hb15.range0 sz27) ?_
        refine wl_gd 95 rfl rfl ?_
        refine wl (r_ldS Tryd.underlying27 rfl rfl hb10.range0 sz27) ?_
        refine wl_gd 95 rfl rfl ?_
        refine wl (r_eqF Tryd.eqGuardType27 ft27 Tryd.stoodInHeld27 fd27 Tryd.underlying3 rfl rfl) ?_
        refine wl (r_pt (v := .bool _) rfl rfl) ?_
        refine wl (r_mv (v := .bool true) (congrArg Value.bool (decide_eq_true ⟨rfl, rfl⟩))) ?_
        refine wl_gd 100 rfl rfl ?_
        refine wl (r_ldS Tryd.underlying27 rfl rfl hb17.range0 sz27) ?_
        refine wl_gd 100 rfl rfl ?_
        refine wl (r_ldS Tryd.underlying27 rfl rfl hb10.range0 sz27) ?_
        refine wl_gd 100 rfl rfl ?_
        refine wl (r_eqF Tryd.eqGuardType27 ft27 Tryd.stoodInHeld27 fd27 Tryd.underlying3 rfl rfl) ?_
        refine wl (r_pt (v := .bool _) rfl rfl) ?_
        refine wl (r_mv (v := .bool true) (congrArg Value.bool (decide_eq_true ⟨rfl, rfl⟩))) ?_
        refine wl_gd 105 rfl rfl ?_
        refine wl (r_mv (v := .bool _) rfl) ?_
        refine wl_gd 105 rfl rfl ?_
        refine wl (r_not rfl) ?_
        refine wl (r_pt (v := .bool _) rfl rfl) ?_
        refine wl (r_mv (v := .bool true) (congrArg Value.bool (by rw [hsub_no c91]; rfl))) ?_
        refine wl_gd 109 rfl rfl ?_
        refine wl (r_mv (v := .bool _) rfl) ?_
        refine wl_gd 109 rfl rfl ?_
        refine wl (r_not rfl) ?_
        refine wl (r_pt (v := .bool _) rfl rfl) ?_
        refine wl (r_mv (v := .bool true) (congrArg Value.bool (by rw [hmeet_no c91]; rfl))) ?_
        refine wl_gd 113 rfl rfl ?_
        refine wl (r_mv (v := .int _ _) rfl) ?_
        refine wl_gd 113 rfl rfl ?_
        refine wl (r_eql rfl rfl) ?_
        refine wl (r_pt (v := .bool _) rfl rfl) ?_
        refine wl (r_mv (v := .bool true) (congrArg Value.bool (decide_eq_true (by rw [hmeet_no c91]; rfl)))) ?_
        refine wl_gd 117 rfl rfl ?_
        refine wl (r_mv (v := .slice _ _ _) rfl) ?_
        refine wl_gd 117 rfl rfl ?_
        refine wl (r_len Tryd.underlying45 rfl) ?_
        refine wl_gd 117 rfl rfl ?_
        refine wl (r_eql rfl rfl) ?_
        refine wl (r_pt (v := .bool _) rfl rfl) ?_
        refine wl (r_as (v := .bool true) (congrArg Value.bool (decide_eq_true (by rw [hjoin_no c91]; rfl)))) ?_
        refine x_nil ?_
        refine e_S ?_
        refine c_ret ?_
        refine e_Sr ?_
        refine fin1 (.inl rfl) rfl rfl ?_
        exact ⟨rfl, hB⟩
      · have hk := two_ok (Decidable.not_not.1 c91)
        have hS := hk.s
        have hal := hk.al
        have hbl := hk.bl
        have h0 := hk.h
        obtain ⟨an, rfl⟩ := Int.eq_ofNat_of_zero_le hk.a0
        obtain ⟨bn, rfl⟩ := Int.eq_ofNat_of_zero_le hk.b0
        have han : an < l.length := by omega
        have hbn : bn < l.length := by omega
        have hsi := hsub_in h0 han hbn
        have hmi := hmeet_in h0 han hbn
        have hji := hjoin_in h0 han hbn
        refine c_skip ?_
        refine e_S ?_
        refine c_seq ?_
        refine c_region ?_
        refine wl (r_fa Tryd.underlying25 sz22 (by decide) rfl rfl rfl) ?_
        refine wl (r_ld1 (v := .slice _ _ _) Tryd.underlying22 rfl rfl (hb3.cell rfl)) ?_
        refine wl (r_mv (v := .int _ _) rfl) ?_
        refine wl (r_mv (v := .int _ _) rfl) ?_
        refine wl_cl fn16 (smeet_any A c l an bn _ (hT.mono hB) hS.vt hS.le han hbn) rfl (fun e' w21 hr => ?_)
        obtain ⟨⟨un, rfl⟩, hs⟩ := hr
        replace hs := Same.of_bel hs
        replace hB := hB.tr0 hs
        replace hb3 := hb3.tr0 hs
        replace hb7 := hb7.tr0 hs
        replace hb9 := hb9.tr0 hs
        replace hb10 := hb10.tr0 hs
        replace hb12 := hb12.tr0 hs
        replace hb15 := hb15.tr0 hs
        replace hoJ := hoJ.tr0 hs
        replace hb17 := hb17.tr0 hs
        clear hs
        refine ⟨_, rfl, ?_⟩
        refine wl (r_mv (v := .tuple _) rfl) ?_
        refine wl (r_ex (v := .int _ _) rfl rfl) ?_
        refine wl (r_ex (v := .bool _) rfl rfl) ?_
        refine wl (r_ex (v := .bool _) rfl rfl) ?_
        refine wl (r_as (v := .int _ _) rfl) ?_
        refine wl (r_as (v := .bool _) rfl) ?_
        refine wl (r_as (v := .bool _) rfl) ?_
        refine x_nil ?_
        refine e_S ?_
        refine c_seq ?_
        refine c_region ?_
        refine wl (r_ldS Tryd.underlying27 rfl rfl hb12.range0 sz27) ?_
        refine wl (r_ldS Tryd.underlying27 rfl rfl hb10.range0 sz27) ?_
        refine wl (r_eqF Tryd.eqGuardType27 ft27 Tryd.stoodInHeld27 fd27 Tryd.underlying3 rfl rfl) ?_
        refine wl (r_mv (v := .bool true) (congrArg Value.bool (decide_eq_true ⟨rfl, rfl⟩))) ?_
        refine wl_gd 134 rfl rfl ?_
        refine wl (r_ldS Tryd.underlying27 rfl rfl hb15.range0 sz27) ?_
        refine wl_gd 134 rfl rfl ?_
        refine wl (r_ldS Tryd.underlying27 rfl rfl hb10.range0 sz27) ?_
        refine wl_gd 134 rfl rfl ?_
        refine wl (r_eqF Tryd.eqGuardType27 ft27 Tryd.stoodInHeld27 fd27 Tryd.underlying3 rfl rfl) ?_
        refine wl (r_pt (v := .bool _) rfl rfl) ?_
        refine wl (r_mv (v := .bool true) (congrArg Value.bool (decide_eq_true ⟨rfl, rfl⟩))) ?_
        refine wl_gd 139 rfl rfl ?_
        refine wl (r_ldS Tryd.underlying27 rfl rfl hb17.range0 sz27) ?_
        refine wl_gd 139 rfl rfl ?_
        refine wl (r_ldS Tryd.underlying27 rfl rfl hb10.range0 sz27) ?_
        refine wl_gd 139 rfl rfl ?_
        refine wl (r_eqF Tryd.eqGuardType27 ft27 Tryd.stoodInHeld27 fd27 Tryd.underlying3 rfl rfl) ?_
        refine wl (r_pt (v := .bool _) rfl rfl) ?_
        refine wl (r_mv (v := .bool true) (congrArg Value.bool (decide_eq_true ⟨rfl, rfl⟩))) ?_
        refine wl_gd 144 rfl rfl ?_
        refine wl (r_mv (v := .bool _) rfl) ?_
        refine wl_gd 144 rfl rfl ?_
        refine wl (r_fa Tryd.underlying25 sz22 (by decide) rfl rfl rfl) ?_
        refine wl_gd 144 rfl rfl ?_
        refine wl (r_ld1 (v := .slice _ _ _) Tryd.underlying22 rfl rfl (hb3.cell rfl)) ?_
        refine wl_gd 144 rfl rfl ?_
        refine wl (r_mv (v := .int _ _) rfl) ?_
        refine wl_gd 144 rfl rfl ?_
        refine wl (r_mv (v := .int _ _) rfl) ?_
        refine wl_gd 144 rfl rfl ?_
        refine wl_cl fn17 (sub_any _ _ _ _ _ _ (hT.mono hB) hS.vt hS.le han hbn) rfl (fun e' w22 hr => ?_)
        obtain ⟨rfl, hs⟩ := hr
        replace hs := Same.of_bel hs
        replace hB := hB.tr0 hs
        replace hb3 := hb3.tr0 hs
        replace hb7 := hb7.tr0 hs
        replace hb9 := hb9.tr0 hs
        replace hb10 := hb10.tr0 hs
        replace hb12 := hb12.tr0 hs
        replace hb15 := hb15.tr0 hs
        replace hoJ := hoJ.tr0 hs
        replace hb17 := hb17.tr0 hs
        clear hs
        refine ⟨_, rfl, ?_⟩
        refine wl_gd 144 rfl rfl ?_
        refine wl (r_eqlB Tryd.underlying4 rfl rfl) ?_
        refine wl (r_pt (v := .bool _) rfl rfl) ?_
        refine wl (r_mv (v := .bool true) (congrArg Value.bool (by rw [hsi]; simp))) ?_
        refine wl_gd 153 rfl rfl ?_
        refine wl (r_mv (v := .int _ _) rfl) ?_
        refine wl_gd 153 rfl rfl ?_
        refine wl (r_mv (v := .int _ _) rfl) ?_
        refine wl_gd 153 rfl rfl ?_
        refine wl (r_eql rfl rfl) ?_
        refine wl (r_pt (v := .bool _) rfl rfl) ?_
        refine wl (r_mv (v := .bool true) (congrArg Value.bool (decide_eq_true (by rw [hmi])))) ?_
        refine wl_gd 158 rfl rfl ?_
        refine wl (r_mv (v := .bool _) rfl) ?_
        refine wl_gd 158 rfl rfl ?_
        refine wl (r_mv (v := .bool _) rfl) ?_
        refine wl_gd 158 rfl rfl ?_
        refine wl (r_eqlB Tryd.underlying4 rfl rfl) ?_
        refine wl (r_pt (v := .bool _) rfl rfl) ?_
        refine wl (r_mv (v := .bool true) (congrArg Value.bool (by rw [hmi]; simp))) ?_
        refine wl_gd 163 rfl rfl ?_
        refine wl (r_mv (v := .slice _ _ _) rfl) ?_
        refine wl_gd 163 rfl rfl ?_
        refine wl (r_fa Tryd.underlying25 sz22 (by decide) rfl rfl rfl) ?_
        refine wl_gd 163 rfl rfl ?_
        refine wl (r_ld1 (v := .slice _ _ _) Tryd.underlying22 rfl rfl (hb3.cell rfl)) ?_
        refine wl_gd 163 rfl rfl ?_
        refine wl (r_mv (v := .int _ _) rfl) ?_
        refine wl_gd 163 rfl rfl ?_
        refine wl (r_mv (v := .int _ _) rfl) ?_
        refine wl_gd 163 rfl rfl ?_
        have hbs2 := Bel.size hB
        refine wl_cl fn18 (sjoins_any A c l an bn _ (hT.mono hB) hS.vt hS.le han hbn) rfl (fun e' w23 hr => ?_)
        obtain ⟨⟨AK, capK, rfl, hoK⟩, hs⟩ := hr
        replace hs := Same.of_bel hs
        replace hB := hB.tr0 hs
        replace hb3 := hb3.tr0 hs
        replace hb7 := hb7.tr0 hs
        replace hb9 := hb9.tr0 hs
        replace hb10 := hb10.tr0 hs
        replace hb12 := hb12.tr0 hs
        replace hb15 := hb15.tr0 hs
        replace hoJ := hoJ.tr0 hs
        replace hb17 := hb17.tr0 hs
        clear hs
        refine ⟨_, rfl, ?_⟩
        refine wl_gd 163 rfl rfl ?_
        refine wl_cl fn15 (equal_any _ _ _ _ _ _ _ (own_ints hoJ) (own_ints hoK)) rfl (fun e' w24 hr => ?_)
        obtain ⟨rfl, hs⟩ := hr
        replace hs := Same.of_bel hs
        replace hB := hB.tr0 hs
        replace hb3 := hb3.tr0 hs
        replace hb7 := hb7.tr0 hs
        replace hb9 := hb9.tr0 hs
        replace hb10 := hb10.tr0 hs
        replace hb12 := hb12.tr0 hs
        replace hb15 := hb15.tr0 hs
        replace hoJ := hoJ.tr0 hs
        replace hb17 := hb17.tr0 hs
        replace hoK := hoK.tr0 hs
        clear hs
        refine ⟨_, rfl, ?_⟩
        refine wl (r_pt (v := .bool _) rfl rfl) ?_
        refine wl (r_as (v := .bool true) (congrArg Value.bool (decide_eq_true hji))) ?_
        refine x_nil ?_
        refine e_S ?_
        refine c_ret ?_
        refine fin1 (.inl rfl) rfl rfl ?_
        exact ⟨rfl, hB⟩
    · skip
      refine c_seq ?_
      refine c_cut1 [52, 53, 54, 55, 56, 57, 58, 59, 60, 61, 62, 63, 64, 65] 65 (.bool (decide ((hierFault l fs).1 = 0 ∧ (b < 0 ∨ (l.length : Int) ≤ b)))) (by simp [undef]) ?_ (fun gq => ?_)
      · refine c_region ?_
        refine wl (r_fa Tryd.underlying27 sz3 (by decide) rfl rfl rfl) ?_
        refine wl (r_ld1 (v := .int _ _) Tryd.underlying3 rfl rfl (hb10.cell rfl)) ?_
        refine wl (r_eql rfl rfl) ?_
        refine wl (r_mv (v := .bool _) rfl) ?_
        refine wl_casesd 55 rfl (fun g55 => ?_) (fun g55 => ?_)
        · skip
          refine wl_gd 55 rfl rfl ?_
          refine wl (r_mv (v := .int _ _) rfl) ?_
          refine wl_gd 55 rfl rfl ?_
          refine wl (r_lss rfl rfl) ?_
          refine wl_gd 55 rfl rfl ?_
          refine wl (r_mv (v := .bool _) rfl) ?_
          refine wl_casesd 58 rfl (fun g58 => ?_) (fun g58 => ?_)
          · skip
            refine wlgn 58 rfl rfl rfl ?_
            refine wlgn 58 rfl rfl rfl ?_
            refine wlgn 58 rfl rfl rfl ?_
            refine wlgn 58 rfl rfl rfl ?_
            refine wlgn 58 rfl rfl rfl ?_
            refine wl_gd 55 rfl rfl ?_
            refine wl (r_pt (v := .bool _) rfl rfl) ?_
            refine wl (r_pt (v := .bool _) rfl rfl) ?_
            refine x_nil (e_R ⟨rfl, (by repeat (first | exact ag_refl | exact ag_ovr' | refine ag_upd rfl ?_ | refine ag_sub rfl ?_ | refine ag_kn (by assumption) ?_)), ?_⟩)
            show Value.bool _ = Value.bool _
            first | exact congrArg Value.bool (decide_eq_true (by omega)).symm | exact congrArg Value.bool (decide_eq_false (by omega)).symm | exact congrArg Value.bool (decide_eq_decide.2 (by omega)) | exact congrArg Value.bool ((decide_not).symm.trans (decide_eq_decide.2 (by omega)))
          · skip
            refine wl_gd 58 rfl rfl ?_
            refine wl (r_mv (v := .int _ _) rfl) ?_
            refine wl_gd 58 rfl rfl ?_
            refine wl (r_fa Tryd.underlying25 sz22 (by decide) rfl rfl rfl) ?_
            refine wl_gd 58 rfl rfl ?_
            refine wl (r_ld1 (v := .slice _ _ _) Tryd.underlying22 rfl rfl (hb3.cell rfl)) ?_
            refine wl_gd 58 rfl rfl ?_
            refine wl (r_len Tryd.underlying22 rfl) ?_
            refine wl_gd 58 rfl rfl ?_
            refine wl (r_geq rfl rfl) ?_
            refine wl_gd 55 rfl rfl ?_
            refine wl (r_pf (v := .bool _) rfl rfl) ?_
            refine wl (r_pt (v := .bool _) rfl rfl) ?_
            refine x_nil (e_R ⟨rfl, (by repeat (first | exact ag_refl | exact ag_ovr' | refine ag_upd rfl ?_ | refine ag_sub rfl ?_ | refine ag_kn (by assumption) ?_)), ?_⟩)
            show Value.bool _ = Value.bool _
            first | exact congrArg Value.bool (decide_eq_true (by omega)).symm | exact congrArg Value.bool (decide_eq_false (by omega)).symm | exact congrArg Value.bool (decide_eq_decide.2 (by omega)) | exact congrArg Value.bool ((decide_not).symm.trans (decide_eq_decide.2 (by omega)))
        · skip
          refine wlgn 55 rfl rfl rfl ?_
          refine wlgn 55 rfl rfl rfl ?_
          refine wlgn 55 rfl rfl rfl ?_
          refine wlgu 58 rfl rfl ?_
          refine wlgu 58 rfl rfl ?_
          refine wlgu 58 rfl rfl ?_
          refine wlgu 58 rfl rfl ?_
          refine wlgu 58 rfl rfl ?_
          refine wlgn 55 rfl rfl rfl ?_
          refine wl (r_pf (v := .bool _) rfl rfl) ?_
          refine x_nil (e_R ⟨rfl, (by repeat (first | exact ag_refl | exact ag_ovr' | refine ag_upd rfl ?_ | refine ag_sub rfl ?_ | refine ag_kn (by assumption) ?_)), ?_⟩)
          show Value.bool _ = Value.bool _
          first | exact congrArg Value.bool (decide_eq_true (by omega)).symm | exact congrArg Value.bool (decide_eq_false (by omega)).symm | exact congrArg Value.bool (decide_eq_decide.2 (by omega)) | exact congrArg Value.bool ((decide_not).symm.trans (decide_eq_decide.2 (by omega)))
      refine e_S ?_
      refine c_ifd rfl (fun c65 => ?_) (fun c65 => ?_)
      · skip
        refine c_region ?_
        refine wl (r_bd2 (v0 := .int _ _) (v1 := .int _ _) (fun v0 v1 => #[v0, v1]) rfl rfl (by kernel_rfl)) ?_
        refine wl_stW hb10 rfl rfl sz27 rfl (by repeat (first | rfl | refine one_cons (by first | rfl | assumption) ?_)) (fun w25 hq hs => ?_)
        replace hB := hB.tr1 hs lo10
        replace hb3 := hb3.tr1 hs (by omega)
        replace hb7 := hb7.tr1 hs (by omega)
        replace hb9 := hb9.tr1 hs (by omega)
        clear hs
        replace hb10 := hq
        have h2 := two_b (fs := fs) (a := a) c65.1 (fun h => c50 ⟨c65.1, h⟩) c65.2
        replace hb10 : Blk w25 b10 27 #[.int .i64 (twoF l fs a b).1, .int .i64 (twoF l fs a b).2] := by rw [h2]; exact hb10
        refine x_nil ?_
        refine e_S ?_
        refine c_seq ?_
        refine c_region ?_
        refine wl (r_ldS Tryd.underlying25 rfl rfl hb3.range0 sz25) ?_
        refine wl (r_mv (v := .int _ _) rfl) ?_
        refine wl (r_mv (v := .int _ _) rfl) ?_
        refine wl_cl fn13 (hsub_any A B c d l fs a b _ (hTab.mono hB) (hT.mono hB) (hF.mono hB)) rfl (fun e' w26 hr => ?_)
        obtain ⟨rfl, hs⟩ := hr
        replace hs := Same.of_bel hs
        replace hB := hB.tr0 hs
        replace hb3 := hb3.tr0 hs
        replace hb7 := hb7.tr0 hs
        replace hb9 := hb9.tr0 hs
        replace hb10 := hb10.tr0 hs
        clear hs
        refine ⟨_, rfl, ?_⟩
        refine wl (r_mv (v := .tuple _) rfl) ?_
        refine wl (r_ex (v := .bool _) rfl rfl) ?_
        refine wl (r_ex (v := .agg _) rfl rfl) ?_
        refine wl_al (cs := #[.int .i64 0, .int .i64 0]) ze27 rfl (fun b12 w27 hb12 hs hr => ?_)
        have or_b3_b12 : b3 < b12 := Nat.lt_of_lt_of_le hb3.lt hr
        have or_b7_b12 : b7 < b12 := Nat.lt_of_lt_of_le hb7.lt hr
        have or_b9_b12 : b9 < b12 := Nat.lt_of_lt_of_le hb9.lt hr
        have or_b10_b12 : b10 < b12 := Nat.lt_of_lt_of_le hb10.lt hr
        have lo12 := Nat.le_trans (Bel.size hB) hr
        replace hB := hB.tr0 hs
        replace hb3 := hb3.tr0 hs
        replace hb7 := hb7.tr0 hs
        replace hb9 := hb9.tr0 hs
        replace hb10 := hb10.tr0 hs
        clear hs
        clear hr
        refine wl (r_as (v := .bool _) rfl) ?_
        refine wl_stW hb12 rfl rfl sz27 rfl (by repeat (first | rfl | refine one_cons (by first | rfl | assumption) ?_)) (fun w28 hq hs => ?_)
        replace hB := hB.tr1 hs lo12
        replace hb3 := hb3.tr1 hs (by omega)
        replace hb7 := hb7.tr1 hs (by omega)
        replace hb9 := hb9.tr1 hs (by omega)
        replace hb10 := hb10.tr1 hs (by omega)
        clear hs
        replace hb12 := hq
        refine x_nil ?_
        refine e_S ?_
        refine c_seq ?_
        refine c_region ?_
        refine wl (r_ldS Tryd.underlying25 rfl rfl hb3.range0 sz25) ?_
        refine wl (r_mv (v := .int _ _) rfl) ?_
        refine wl (r_mv (v := .int _ _) rfl) ?_
        refine wl_cl fn11 (hmeet_any A B c d l fs a b _ (hTab.mono hB) (hT.mono hB) (hF.mono hB)) rfl (fun e' w29 hr => ?_)
        obtain ⟨rfl, hs⟩ := hr
        replace hs := Same.of_bel hs
        replace hB := hB.tr0 hs
        replace hb3 := hb3.tr0 hs
        replace hb7 := hb7.tr0 hs
        replace hb9 := hb9.tr0 hs
        replace hb10 := hb10.tr0 hs
        replace hb12 := hb12.tr0 hs
        clear hs
        refine ⟨_, rfl, ?_⟩
        refine wl (r_mv (v := .tuple _) rfl) ?_
        refine wl (r_ex (v := .int _ _) rfl rfl) ?_
        refine wl (r_ex (v := .bool _) rfl rfl) ?_
        refine wl (r_ex (v := .agg _) rfl rfl) ?_
        refine wl_al (cs := #[.int .i64 0, .int .i64 0]) ze27 rfl (fun b15 w30 hb15 hs hr => ?_)
        have or_b3_b15 : b3 < b15 := Nat.lt_of_lt_of_le hb3.lt hr
        have or_b7_b15 : b7 < b15 := Nat.lt_of_lt_of_le hb7.lt hr
        have or_b9_b15 : b9 < b15 := Nat.lt_of_lt_of_le hb9.lt hr
        have or_b10_b15 : b10 < b15 := Nat.lt_of_lt_of_le hb10.lt hr
        have or_b12_b15 : b12 < b15 := Nat.lt_of_lt_of_le hb12.lt hr
        have lo15 := Nat.le_trans (Bel.size hB) hr
        replace hB := hB.tr0 hs
        replace hb3 := hb3.tr0 hs
        replace hb7 := hb7.tr0 hs
        replace hb9 := hb9.tr0 hs
        replace hb10 := hb10.tr0 hs
        replace hb12 := hb12.tr0 hs
        clear hs
        clear hr
        refine wl (r_as (v := .int _ _) rfl) ?_
        refine wl (r_as (v := .bool _) rfl) ?_
        refine wl_stW hb15 rfl rfl sz27 rfl (by repeat (first | rfl | refine one_cons (by first | rfl | assumption) ?_)) (fun w31 hq hs => ?_)
        replace hB := hB.tr1 hs lo15
        replace hb3 := hb3.tr1 hs (by omega)
        replace hb7 := hb7.tr1 hs (by omega)
        replace hb9 := hb9.tr1 hs (by omega)
        replace hb10 := hb10.tr1 hs (by omega)
        replace hb12 := hb12.tr1 hs (by omega)
        clear hs
        replace hb15 := hq
        refine x_nil ?_
        refine e_S ?_
        refine c_seq ?_
        refine c_region ?_
        refine wl (r_ldS Tryd.underlying25 rfl rfl hb3.range0 sz25) ?_
        refine wl (r_mv (v := .int _ _) rfl) ?_
        refine wl (r_mv (v := .int _ _) rfl) ?_
        have hbs := Bel.size hB
        have z10 := hb10.lt
        refine wl_cl fn14 (hjoin_any A B c d l fs a b _ (hTab.mono hB) (hT.mono hB) (hF.mono hB)) rfl (fun e' w32 hr => ?_)
        obtain ⟨⟨AJ, capJ, rfl, hoJ⟩, hs⟩ := hr
        replace hs := Same.of_bel hs
        replace hB := hB.tr0 hs
        replace hb3 := hb3.tr0 hs
        replace hb7 := hb7.tr0 hs
        replace hb9 := hb9.tr0 hs
        replace hb10 := hb10.tr0 hs
        replace hb12 := hb12.tr0 hs
        replace hb15 := hb15.tr0 hs
        clear hs
        refine ⟨_, rfl, ?_⟩
        refine wl (r_mv (v := .tuple _) rfl) ?_
        refine wl (r_ex (v := .slice _ _ _) rfl rfl) ?_
        refine wl (r_ex (v := .agg _) rfl rfl) ?_
        refine wl_al (cs := #[.int .i64 0, .int .i64 0]) ze27 rfl (fun b17 w33 hb17 hs hr => ?_)
        have or_b3_b17 : b3 < b17 := Nat.lt_of_lt_of_le hb3.lt hr
        have or_b7_b17 : b7 < b17 := Nat.lt_of_lt_of_le hb7.lt hr
        have or_b9_b17 : b9 < b17 := Nat.lt_of_lt_of_le hb9.lt hr
        have or_b10_b17 : b10 < b17 := Nat.lt_of_lt_of_le hb10.lt hr
        have or_b12_b17 : b12 < b17 := Nat.lt_of_lt_of_le hb12.lt hr
        have or_b15_b17 : b15 < b17 := Nat.lt_of_lt_of_le hb15.lt hr
        have or_hoJ_b17 := fun g hg => Nat.lt_of_lt_of_le (hoJ.lt g hg).2 hr
        have lo17 := Nat.le_trans (Bel.size hB) hr
        replace hB := hB.tr0 hs
        replace hb3 := hb3.tr0 hs
        replace hb7 := hb7.tr0 hs
        replace hb9 := hb9.tr0 hs
        replace hb10 := hb10.tr0 hs
        replace hb12 := hb12.tr0 hs
        replace hb15 := hb15.tr0 hs
        replace hoJ := hoJ.tr0 hs
        clear hs
        clear hr
        refine wl (r_as (v := .slice _ _ _) rfl) ?_
        refine wl_stW hb17 rfl rfl sz27 rfl (by repeat (first | rfl | refine one_cons (by first | rfl | assumption) ?_)) (fun w34 hq hs => ?_)
        replace hB := hB.tr1 hs lo17
        replace hb3 := hb3.tr1 hs (by omega)
        replace hb7 := hb7.tr1 hs (by omega)
        replace hb9 := hb9.tr1 hs (by omega)
        replace hb10 := hb10.tr1 hs (by omega)
        replace hb12 := hb12.tr1 hs (by omega)
        replace hb15 := hb15.tr1 hs (by omega)
        replace hoJ := hoJ.tr1 hs (fun g hg => by have := (hoJ.lt g hg).1; (try have := or_hoJ_b17 g hg); (try simp only [aL, List.mem_singleton] at hg); omega)
        clear hs
        replace hb17 := hq
        refine x_nil ?_
        refine e_S ?_
        refine c_seq ?_
        refine c_seq ?_
        refine c_region ?_
        refine wl (r_fa Tryd.underlying27 sz3 (by decide) rfl rfl rfl) ?_
        refine wl (r_ld1 (v := .int _ _) Tryd.underlying3 rfl rfl (hb10.cell rfl)) ?_
        refine wl (r_neq rfl rfl) ?_
        refine x_nil ?_
        refine e_S ?_
        refine c_ifd rfl (fun c91 => ?_) (fun c91 => ?_)
        · skip
          refine c_seq ?_
          refine c_region ?_
          refine wl (r_ldS Tryd.underlying27 rfl rfl hb12.range0 sz27) ?_
          refine wl (r_ldS Tryd.underlying27 rfl rfl hb10.range0 sz27) ?_
          refine wl (r_eqF Tryd.eqGuardType27 ft27 Tryd.stoodInHeld27 fd27 Tryd.underlying3 rfl rfl) ?_
          refine wl (r_mv (v := .bool true) (congrArg Value.bool (decide_eq_true ⟨rfl, rfl⟩))) ?_
          refine wl_gd 95 rfl rfl ?_
          refine wl (r_ldS Tryd.underlying27 rfl rfl hb15.range0 sz27) ?_
          refine wl_gd 95 rfl rfl ?_
          refine wl (r_ldS Tryd.underlying27 rfl rfl hb10.range0 sz27) ?_
          refine wl_gd 95 rfl rfl ?_
          refine wl (r_eqF Tryd.eqGuardType27 ft27 Tryd.stoodInHeld27 fd27 Tryd.underlying3 rfl rfl) ?_
          refine wl (r_pt (v := .bool _) rfl rfl) ?_
          refine wl (r_mv (v := .bool true) (congrArg Value.bool (decide_eq_true ⟨rfl, rfl⟩))) ?_
          refine wl_gd 100 rfl rfl ?_
          refine wl (r_ldS Tryd.underlying27 rfl rfl hb17.range0 sz27) ?_
          refine wl_gd 100 rfl rfl ?_
          refine wl (r_ldS Tryd.underlying27 rfl rfl hb10.range0 sz27) ?_
          refine wl_gd 100 rfl rfl ?_
          refine wl (r_eqF Tryd.eqGuardType27 ft27 Tryd.stoodInHeld27 fd27 Tryd.underlying3 rfl rfl) ?_
          refine wl (r_pt (v := .bool _) rfl rfl) ?_
          refine wl (r_mv (v := .bool true) (congrArg Value.bool (decide_eq_true ⟨rfl, rfl⟩))) ?_
          refine wl_gd 105 rfl rfl ?_
          refine wl (r_mv (v := .bool _) rfl) ?_
          refine wl_gd 105 rfl rfl ?_
          refine wl (r_not rfl) ?_
          refine wl (r_pt (v := .bool _) rfl rfl) ?_
          refine wl (r_mv (v := .bool true) (congrArg Value.bool (by rw [hsub_no c91]; rfl))) ?_
          refine wl_gd 109 rfl rfl ?_
          refine wl (r_mv (v := .bool _) rfl) ?_
          refine wl_gd 109 rfl rfl ?_
          refine wl (r_not rfl) ?_
          refine wl (r_pt (v := .bool _) rfl rfl) ?_
          refine wl (r_mv (v := .bool true) (congrArg Value.bool (by rw [hmeet_no c91]; rfl))) ?_
          refine wl_gd 113 rfl rfl ?_
          refine wl (r_mv (v := .int _ _) rfl) ?_
          refine wl_gd 113 rfl rfl ?_
          refine wl (r_eql rfl rfl) ?_
          refine wl (r_pt (v := .bool _) rfl rfl) ?_
          refine wl (r_mv (v := .bool true) (congrArg Value.bool (decide_eq_true (by rw [hmeet_no c91]; rfl)))) ?_
          refine wl_gd 117 rfl rfl ?_
          refine wl (r_mv (v := .slice _ _ _) rfl) ?_
          refine wl_gd 117 rfl rfl ?_
          refine wl (r_len Tryd.underlying45 rfl) ?_
          refine wl_gd 117 rfl rfl ?_
          refine wl (r_eql rfl rfl) ?_
          refine wl (r_pt (v := .bool _) rfl rfl) ?_
          refine wl (r_as (v := .bool true) (congrArg Value.bool (decide_eq_true (by rw [hjoin_no c91]; rfl)))) ?_
          refine x_nil ?_
          refine e_S ?_
          refine c_ret ?_
          refine e_Sr ?_
          refine fin1 (.inl rfl) rfl rfl ?_
          exact ⟨rfl, hB⟩
        · have hk := two_ok (Decidable.not_not.1 c91)
          have hS := hk.s
          have hal := hk.al
          have hbl := hk.bl
          have h0 := hk.h
          obtain ⟨an, rfl⟩ := Int.eq_ofNat_of_zero_le hk.a0
          obtain ⟨bn, rfl⟩ := Int.eq_ofNat_of_zero_le hk.b0
          have han : an < l.length := by omega
          have hbn : bn < l.length := by omega
          have hsi := hsub_in h0 han hbn
          have hmi := hmeet_in h0 han hbn
          have hji := hjoin_in h0 han hbn
          refine c_skip ?_
          refine e_S ?_
          refine c_seq ?_
          refine c_region ?_
          refine wl (r_fa Tryd.underlying25 sz22 (by decide) rfl rfl rfl) ?_
          refine wl (r_ld1 (v := .slice _ _ _) Tryd.underlying22 rfl rfl (hb3.cell rfl)) ?_
          refine wl (r_mv (v := .int _ _) rfl) ?_
          refine wl (r_mv (v := .int _ _) rfl) ?_
          refine wl_cl fn16 (smeet_any A c l an bn _ (hT.mono hB) hS.vt hS.le han hbn) rfl (fun e' w35 hr => ?_)
          obtain ⟨⟨un, rfl⟩, hs⟩ := hr
          replace hs := Same.of_bel hs
          replace hB := hB.tr0 hs
          replace hb3 := hb3.tr0 hs
          replace hb7 := hb7.tr0 hs
          replace hb9 := hb9.tr0 hs
          replace hb10 := hb10.tr0 hs
          replace hb12 := hb12.tr0 hs
          replace hb15 := hb15.tr0 hs
          replace hoJ := hoJ.tr0 hs
          replace hb17 := hb17.tr0 hs
          clear hs
          refine ⟨_, rfl, ?_⟩
          refine wl (r_mv (v := .tuple _) rfl) ?_
          refine wl (r_ex (v := .int _ _) rfl rfl) ?_
          refine wl (r_ex (v := .bool _) rfl rfl) ?_
          refine wl (r_ex (v := .bool _) rfl rfl) ?_
          refine wl (r_as (v := .int _ _) rfl) ?_
          refine wl (r_as (v := .bool _) rfl) ?_
          refine wl (r_as (v := .bool _) rfl) ?_
          refine x_nil ?_
          refine e_S ?_
          refine c_seq ?_
          refine c_region ?_
          refine wl (r_ldS Tryd.underlying27 rfl rfl hb12.range0 sz27) ?_
          refine wl (r_ldS Tryd.underlying27 rfl rfl hb10.range0 sz27) ?_
          refine wl (r_eqF Tryd.eqGuardType27 ft27 Tryd.stoodInHeld27 fd27 Tryd.underlying3 rfl rfl) ?_
          refine wl (r_mv (v := .bool true) (congrArg Value.bool (decide_eq_true ⟨rfl, rfl⟩))) ?_
          refine wl_gd 134 rfl rfl ?_
          refine wl (r_ldS Tryd.underlying27 rfl rfl hb15.range0 sz27) ?_
          refine wl_gd 134 rfl rfl ?_
          refine wl (r_ldS Tryd.underlying27 rfl rfl hb10.range0 sz27) ?_
          refine wl_gd 134 rfl rfl ?_
          refine wl (r_eqF Tryd.eqGuardType27 ft27 Tryd.stoodInHeld27 fd27 Tryd.underlying3 rfl rfl) ?_
          refine wl (r_pt (v := .bool _) rfl rfl) ?_
          refine wl (r_mv (v := .bool true) (congrArg Value.bool (decide_eq_true ⟨rfl, rfl⟩))) ?_
          refine wl_gd 139 rfl rfl ?_
          refine wl (r_ldS Tryd.underlying27 rfl rfl hb17.range0 sz27) ?_
          refine wl_gd 139 rfl rfl ?_
          refine wl (r_ldS Tryd.underlying27 rfl rfl hb10.range0 sz27) ?_
          refine wl_gd 139 rfl rfl ?_
          refine wl (r_eqF Tryd.eqGuardType27 ft27 Tryd.stoodInHeld27 fd27 Tryd.underlying3 rfl rfl) ?_
          refine wl (r_pt (v := .bool _) rfl rfl) ?_
          refine wl (r_mv (v := .bool true) (congrArg Value.bool (decide_eq_true ⟨rfl, rfl⟩))) ?_
          refine wl_gd 144 rfl rfl ?_
          refine wl (r_mv (v := .bool _) rfl) ?_
          refine wl_gd 144 rfl rfl ?_
          refine wl (r_fa Tryd.underlying25 sz22 (by decide) rfl rfl rfl) ?_
          refine wl_gd 144 rfl rfl ?_
          refine wl (r_ld1 (v := .slice _ _ _) Tryd.underlying22 rfl rfl (hb3.cell rfl)) ?_
          refine wl_gd 144 rfl rfl ?_
          refine wl (r_mv (v := .int _ _) rfl) ?_
          refine wl_gd 144 rfl rfl ?_
          refine wl (r_mv (v := .int _ _) rfl) ?_
          refine wl_gd 144 rfl rfl ?_
          refine wl_cl fn17 (sub_any _ _ _ _ _ _ (hT.mono hB) hS.vt hS.le han hbn) rfl (fun e' w36 hr => ?_)
          obtain ⟨rfl, hs⟩ := hr
          replace hs := Same.of_bel hs
          replace hB := hB.tr0 hs
          replace hb3 := hb3.tr0 hs
          replace hb7 := hb7.tr0 hs
          replace hb9 := hb9.tr0 hs
          replace hb10 := hb10.tr0 hs
          replace hb12 := hb12.tr0 hs
          replace hb15 := hb15.tr0 hs
          replace hoJ := hoJ.tr0 hs
          replace hb17 := hb17.tr0 hs
          clear hs
          refine ⟨_, rfl, ?_⟩
          refine wl_gd 144 rfl rfl ?_
          refine wl (r_eqlB Tryd.underlying4 rfl rfl) ?_
          refine wl (r_pt (v := .bool _) rfl rfl) ?_
          refine wl (r_mv (v := .bool true) (congrArg Value.bool (by rw [hsi]; simp))) ?_
          refine wl_gd 153 rfl rfl ?_
          refine wl (r_mv (v := .int _ _) rfl) ?_
          refine wl_gd 153 rfl rfl ?_
          refine wl (r_mv (v := .int _ _) rfl) ?_
          refine wl_gd 153 rfl rfl ?_
          refine wl (r_eql rfl rfl) ?_
          refine wl (r_pt (v := .bool _) rfl rfl) ?_
          refine wl (r_mv (v := .bool true) (congrArg Value.bool (decide_eq_true (by rw [hmi])))) ?_
          refine wl_gd 158 rfl rfl ?_
          refine wl (r_mv (v := .bool _) rfl) ?_
          refine wl_gd 158 rfl rfl ?_
          refine wl (r_mv (v := .bool _) rfl) ?_
          refine wl_gd 158 rfl rfl ?_
          refine wl (r_eqlB Tryd.underlying4 rfl rfl) ?_
          refine wl (r_pt (v := .bool _) rfl rfl) ?_
          refine wl (r_mv (v := .bool true) (congrArg Value.bool (by rw [hmi]; simp))) ?_
          refine wl_gd 163 rfl rfl ?_
          refine wl (r_mv (v := .slice _ _ _) rfl) ?_
          refine wl_gd 163 rfl rfl ?_
          refine wl (r_fa Tryd.underlying25 sz22 (by decide) rfl rfl rfl) ?_
          refine wl_gd 163 rfl rfl ?_
          refine wl (r_ld1 (v := .slice _ _ _) Tryd.underlying22 rfl rfl (hb3.cell rfl)) ?_
          refine wl_gd 163 rfl rfl ?_
          refine wl (r_mv (v := .int _ _) rfl) ?_
          refine wl_gd 163 rfl rfl ?_
          refine wl (r_mv (v := .int _ _) rfl) ?_
          refine wl_gd 163 rfl rfl ?_
          have hbs2 := Bel.size hB
          refine wl_cl fn18 (sjoins_any A c l an bn _ (hT.mono hB) hS.vt hS.le han hbn) rfl (fun e' w37 hr => ?_)
          obtain ⟨⟨AK, capK, rfl, hoK⟩, hs⟩ := hr
          replace hs := Same.of_bel hs
          replace hB := hB.tr0 hs
          replace hb3 := hb3.tr0 hs
          replace hb7 := hb7.tr0 hs
          replace hb9 := hb9.tr0 hs
          replace hb10 := hb10.tr0 hs
          replace hb12 := hb12.tr0 hs
          replace hb15 := hb15.tr0 hs
          replace hoJ := hoJ.tr0 hs
          replace hb17 := hb17.tr0 hs
          clear hs
          refine ⟨_, rfl, ?_⟩
          refine wl_gd 163 rfl rfl ?_
          refine wl_cl fn15 (equal_any _ _ _ _ _ _ _ (own_ints hoJ) (own_ints hoK)) rfl (fun e' w38 hr => ?_)
          obtain ⟨rfl, hs⟩ := hr
          replace hs := Same.of_bel hs
          replace hB := hB.tr0 hs
          replace hb3 := hb3.tr0 hs
          replace hb7 := hb7.tr0 hs
          replace hb9 := hb9.tr0 hs
          replace hb10 := hb10.tr0 hs
          replace hb12 := hb12.tr0 hs
          replace hb15 := hb15.tr0 hs
          replace hoJ := hoJ.tr0 hs
          replace hb17 := hb17.tr0 hs
          replace hoK := hoK.tr0 hs
          clear hs
          refine ⟨_, rfl, ?_⟩
          refine wl (r_pt (v := .bool _) rfl rfl) ?_
          refine wl (r_as (v := .bool true) (congrArg Value.bool (decide_eq_true hji))) ?_
          refine x_nil ?_
          refine e_S ?_
          refine c_ret ?_
          refine fin1 (.inl rfl) rfl rfl ?_
          exact ⟨rfl, hB⟩
      · have h2 := two_else c50 c65
        replace hb10 : Blk w10 b10 27 #[.int .i64 (twoF l fs a b).1, .int .i64 (twoF l fs a b).2] := by rw [h2]; exact hb10
        refine c_skip ?_
        refine e_S ?_
        refine c_seq ?_
        refine c_region ?_
        refine wl (r_ldS Tryd.underlying25 rfl rfl hb3.range0 sz25) ?_
        refine wl (r_mv (v := .int _ _) rfl) ?_
        refine wl (r_mv (v := .int _ _) rfl) ?_
        refine wl_cl fn13 (hsub_any A B c d l fs a b _ (hTab.mono hB) (hT.mono hB) (hF.mono hB)) rfl (fun e' w39 hr => ?_)
        obtain ⟨rfl, hs⟩ := hr
        replace hs := Same.of_bel hs
        replace hB := hB.tr0 hs
        replace hb3 := hb3.tr0 hs
        replace hb7 := hb7.tr0 hs
        replace hb9 := hb9.tr0 hs
        replace hb10 := hb10.tr0 hs
        clear hs
        refine ⟨_, rfl, ?_⟩
        refine wl (r_mv (v := .tuple _) rfl) ?_
        refine wl (r_ex (v := .bool _) rfl rfl) ?_
        refine wl (r_ex (v := .agg _) rfl rfl) ?_
        refine wl_al (cs := #[.int .i64 0, .int .i64 0]) ze27 rfl (fun b12 w40 hb12 hs hr => ?_)
        have or_b3_b12 : b3 < b12 := Nat.lt_of_lt_of_le hb3.lt hr
        have or_b7_b12 : b7 < b12 := Nat.lt_of_lt_of_le hb7.lt hr
        have or_b9_b12 : b9 < b12 := Nat.lt_of_lt_of_le hb9.lt hr
        have or_b10_b12 : b10 < b12 := Nat.lt_of_lt_of_le hb10.lt hr
        have lo12 := Nat.le_trans (Bel.size hB) hr
        replace hB := hB.tr0 hs
        replace hb3 := hb3.tr0 hs
        replace hb7 := hb7.tr0 hs
        replace hb9 := hb9.tr0 hs
        replace hb10 := hb10.tr0 hs
        clear hs
        clear hr
        refine wl (r_as (v := .bool _) rfl) ?_
        refine wl_stW hb12 rfl rfl sz27 rfl (by repeat (first | rfl | refine one_cons (by first | rfl | assumption) ?_)) (fun w41 hq hs => ?_)
        replace hB := hB.tr1 hs lo12
        replace hb3 := hb3.tr1 hs (by omega)
        replace hb7 := hb7.tr1 hs (by omega)
        replace hb9 := hb9.tr1 hs (by omega)
        replace hb10 := hb10.tr1 hs (by omega)
        clear hs
        replace hb12 := hq
        refine x_nil ?_
        refine e_S ?_
        refine c_seq ?_
        refine c_region ?_
        refine wl (r_ldS Tryd.underlying25 rfl rfl hb3.range0 sz25) ?_
        refine wl (r_mv (v := .int _ _) rfl) ?_
        refine wl (r_mv (v := .int _ _) rfl) ?_
        refine wl_cl fn11 (hmeet_any A B c d l fs a b _ (hTab.mono hB) (hT.mono hB) (hF.mono hB)) rfl (fun e' w42 hr => ?_)
        obtain ⟨rfl, hs⟩ := hr
        replace hs := Same.of_bel hs
        replace hB := hB.tr0 hs
        replace hb3 := hb3.tr0 hs
        replace hb7 := hb7.tr0 hs
        replace hb9 := hb9.tr0 hs
        replace hb10 := hb10.tr0 hs
        replace hb12 := hb12.tr0 hs
        clear hs
        refine ⟨_, rfl, ?_⟩
        refine wl (r_mv (v := .tuple _) rfl) ?_
        refine wl (r_ex (v := .int _ _) rfl rfl) ?_
        refine wl (r_ex (v := .bool _) rfl rfl) ?_
        refine wl (r_ex (v := .agg _) rfl rfl) ?_
        refine wl_al (cs := #[.int .i64 0, .int .i64 0]) ze27 rfl (fun b15 w43 hb15 hs hr => ?_)
        have or_b3_b15 : b3 < b15 := Nat.lt_of_lt_of_le hb3.lt hr
        have or_b7_b15 : b7 < b15 := Nat.lt_of_lt_of_le hb7.lt hr
        have or_b9_b15 : b9 < b15 := Nat.lt_of_lt_of_le hb9.lt hr
        have or_b10_b15 : b10 < b15 := Nat.lt_of_lt_of_le hb10.lt hr
        have or_b12_b15 : b12 < b15 := Nat.lt_of_lt_of_le hb12.lt hr
        have lo15 := Nat.le_trans (Bel.size hB) hr
        replace hB := hB.tr0 hs
        replace hb3 := hb3.tr0 hs
        replace hb7 := hb7.tr0 hs
        replace hb9 := hb9.tr0 hs
        replace hb10 := hb10.tr0 hs
        replace hb12 := hb12.tr0 hs
        clear hs
        clear hr
        refine wl (r_as (v := .int _ _) rfl) ?_
        refine wl (r_as (v := .bool _) rfl) ?_
        refine wl_stW hb15 rfl rfl sz27 rfl (by repeat (first | rfl | refine one_cons (by first | rfl | assumption) ?_)) (fun w44 hq hs => ?_)
        replace hB := hB.tr1 hs lo15
        replace hb3 := hb3.tr1 hs (by omega)
        replace hb7 := hb7.tr1 hs (by omega)
        replace hb9 := hb9.tr1 hs (by omega)
        replace hb10 := hb10.tr1 hs (by omega)
        replace hb12 := hb12.tr1 hs (by omega)
        clear hs
        replace hb15 := hq
        refine x_nil ?_
        refine e_S ?_
        refine c_seq ?_
        refine c_region ?_
        refine wl (r_ldS Tryd.underlying25 rfl rfl hb3.range0 sz25) ?_
        refine wl (r_mv (v := .int _ _) rfl) ?_
        refine wl (r_mv (v := .int _ _) rfl) ?_
        have hbs := Bel.size hB
        have z10 := hb10.lt
        refine wl_cl fn14 (hjoin_any A B c d l fs a b _ (hTab.mono hB) (hT.mono hB) (hF.mono hB)) rfl (fun e' w45 hr => ?_)
        obtain ⟨⟨AJ, capJ, rfl, hoJ⟩, hs⟩ := hr
        replace hs := Same.of_bel hs
        replace hB := hB.tr0 hs
        replace hb3 := hb3.tr0 hs
        replace hb7 := hb7.tr0 hs
        replace hb9 := hb9.tr0 hs
        replace hb10 := hb10.tr0 hs
        replace hb12 := hb12.tr0 hs
        replace hb15 := hb15.tr0 hs
        clear hs
        refine ⟨_, rfl, ?_⟩
        refine wl (r_mv (v := .tuple _) rfl) ?_
        refine wl (r_ex (v := .slice _ _ _) rfl rfl) ?_
        refine wl (r_ex (v := .agg _) rfl rfl) ?_
        refine wl_al (cs := #[.int .i64 0, .int .i64 0]) ze27 rfl (fun b17 w46 hb17 hs hr => ?_)
        have or_b3_b17 : b3 < b17 := Nat.lt_of_lt_of_le hb3.lt hr
        have or_b7_b17 : b7 < b17 := Nat.lt_of_lt_of_le hb7.lt hr
        have or_b9_b17 : b9 < b17 := Nat.lt_of_lt_of_le hb9.lt hr
        have or_b10_b17 : b10 < b17 := Nat.lt_of_lt_of_le hb10.lt hr
        have or_b12_b17 : b12 < b17 := Nat.lt_of_lt_of_le hb12.lt hr
        have or_b15_b17 : b15 < b17 := Nat.lt_of_lt_of_le hb15.lt hr
        have or_hoJ_b17 := fun g hg => Nat.lt_of_lt_of_le (hoJ.lt g hg).2 hr
        have lo17 := Nat.le_trans (Bel.size hB) hr
        replace hB := hB.tr0 hs
        replace hb3 := hb3.tr0 hs
        replace hb7 := hb7.tr0 hs
        replace hb9 := hb9.tr0 hs
        replace hb10 := hb10.tr0 hs
        replace hb12 := hb12.tr0 hs
        replace hb15 := hb15.tr0 hs
        replace hoJ := hoJ.tr0 hs
        clear hs
        clear hr
        refine wl (r_as (v := .slice _ _ _) rfl) ?_
        refine wl_stW hb17 rfl rfl sz27 rfl (by repeat (first | rfl | refine one_cons (by first | rfl | assumption) ?_)) (fun w47 hq hs => ?_)
        replace hB := hB.tr1 hs lo17
        replace hb3 := hb3.tr1 hs (by omega)
        replace hb7 := hb7.tr1 hs (by omega)
        replace hb9 := hb9.tr1 hs (by omega)
        replace hb10 := hb10.tr1 hs (by omega)
        replace hb12 := hb12.tr1 hs (by omega)
        replace hb15 := hb15.tr1 hs (by omega)
        replace hoJ := hoJ.tr1 hs (fun g hg => by have := (hoJ.lt g hg).1; (try have := or_hoJ_b17 g hg); (try simp only [aL, List.mem_singleton] at hg); omega)
        clear hs
        replace hb17 := hq
        refine x_nil ?_
        refine e_S ?_
        refine c_seq ?_
        refine c_seq ?_
        refine c_region ?_
        refine wl (r_fa Tryd.underlying27 sz3 (by decide) rfl rfl rfl) ?_
        refine wl (r_ld1 (v := .int _ _) Tryd.underlying3 rfl rfl (hb10.cell rfl)) ?_
        refine wl (r_neq rfl rfl) ?_
        refine x_nil ?_
        refine e_S ?_
        refine c_ifd rfl (fun c91 => ?_) (fun c91 => ?_)
        · skip
          refine c_seq ?_
          refine c_region ?_
          refine wl (r_ldS Tryd.underlying27 rfl rfl hb12.range0 sz27) ?_
          refine wl (r_ldS Tryd.underlying27 rfl rfl hb10.range0 sz27) ?_
          refine wl (r_eqF Tryd.eqGuardType27 ft27 Tryd.stoodInHeld27 fd27 Tryd.underlying3 rfl rfl) ?_
          refine wl (r_mv (v := .bool true) (congrArg Value.bool (decide_eq_true ⟨rfl, rfl⟩))) ?_
          refine wl_gd 95 rfl rfl ?_
          refine wl (r_ldS Tryd.underlying27 rfl rfl hb15.range0 sz27) ?_
          refine wl_gd 95 rfl rfl ?_
          refine wl (r_ldS Tryd.underlying27 rfl rfl hb10.range0 sz27) ?_
          refine wl_gd 95 rfl rfl ?_
          refine wl (r_eqF Tryd.eqGuardType27 ft27 Tryd.stoodInHeld27 fd27 Tryd.underlying3 rfl rfl) ?_
          refine wl (r_pt (v := .bool _) rfl rfl) ?_
          refine wl (r_mv (v := .bool true) (congrArg Value.bool (decide_eq_true ⟨rfl, rfl⟩))) ?_
          refine wl_gd 100 rfl rfl ?_
          refine wl (r_ldS Tryd.underlying27 rfl rfl hb17.range0 sz27) ?_
          refine wl_gd 100 rfl rfl ?_
          refine wl (r_ldS Tryd.underlying27 rfl rfl hb10.range0 sz27) ?_
          refine wl_gd 100 rfl rfl ?_
          refine wl (r_eqF Tryd.eqGuardType27 ft27 Tryd.stoodInHeld27 fd27 Tryd.underlying3 rfl rfl) ?_
          refine wl (r_pt (v := .bool _) rfl rfl) ?_
          refine wl (r_mv (v := .bool true) (congrArg Value.bool (decide_eq_true ⟨rfl, rfl⟩))) ?_
          refine wl_gd 105 rfl rfl ?_
          refine wl (r_mv (v := .bool _) rfl) ?_
          refine wl_gd 105 rfl rfl ?_
          refine wl (r_not rfl) ?_
          refine wl (r_pt (v := .bool _) rfl rfl) ?_
          refine wl (r_mv (v := .bool true) (congrArg Value.bool (by rw [hsub_no c91]; rfl))) ?_
          refine wl_gd 109 rfl rfl ?_
          refine wl (r_mv (v := .bool _) rfl) ?_
          refine wl_gd 109 rfl rfl ?_
          refine wl (r_not rfl) ?_
          refine wl (r_pt (v := .bool _) rfl rfl) ?_
          refine wl (r_mv (v := .bool true) (congrArg Value.bool (by rw [hmeet_no c91]; rfl))) ?_
          refine wl_gd 113 rfl rfl ?_
          refine wl (r_mv (v := .int _ _) rfl) ?_
          refine wl_gd 113 rfl rfl ?_
          refine wl (r_eql rfl rfl) ?_
          refine wl (r_pt (v := .bool _) rfl rfl) ?_
          refine wl (r_mv (v := .bool true) (congrArg Value.bool (decide_eq_true (by rw [hmeet_no c91]; rfl)))) ?_
          refine wl_gd 117 rfl rfl ?_
          refine wl (r_mv (v := .slice _ _ _) rfl) ?_
          refine wl_gd 117 rfl rfl ?_
          refine wl (r_len Tryd.underlying45 rfl) ?_
          refine wl_gd 117 rfl rfl ?_
          refine wl (r_eql rfl rfl) ?_
          refine wl (r_pt (v := .bool _) rfl rfl) ?_
          refine wl (r_as (v := .bool true) (congrArg Value.bool (decide_eq_true (by rw [hjoin_no c91]; rfl)))) ?_
          refine x_nil ?_
          refine e_S ?_
          refine c_ret ?_
          refine e_Sr ?_
          refine fin1 (.inl rfl) rfl rfl ?_
          exact ⟨rfl, hB⟩
        · have hk := two_ok (Decidable.not_not.1 c91)
          have hS := hk.s
          have hal := hk.al
          have hbl := hk.bl
          have h0 := hk.h
          obtain ⟨an, rfl⟩ := Int.eq_ofNat_of_zero_le hk.a0
          obtain ⟨bn, rfl⟩ := Int.eq_ofNat_of_zero_le hk.b0
          have han : an < l.length := by omega
          have hbn : bn < l.length := by omega
          have hsi := hsub_in h0 han hbn
          have hmi := hmeet_in h0 han hbn
          have hji := hjoin_in h0 han hbn
          refine c_skip ?_
          refine e_S ?_
          refine c_seq ?_
          refine c_region ?_
          refine wl (r_fa Tryd.underlying25 sz22 (by decide) rfl rfl rfl) ?_
          refine wl (r_ld1 (v := .slice _ _ _) Tryd.underlying22 rfl rfl (hb3.cell rfl)) ?_
          refine wl (r_mv (v := .int _ _) rfl) ?_
          refine wl (r_mv (v := .int _ _) rfl) ?_
          refine wl_cl fn16 (smeet_any A c l an bn _ (hT.mono hB) hS.vt hS.le han hbn) rfl (fun e' w48 hr => ?_)
          obtain ⟨⟨un, rfl⟩, hs⟩ := hr
          replace hs := Same.of_bel hs
          replace hB := hB.tr0 hs
          replace hb3 := hb3.tr0 hs
          replace hb7 := hb7.tr0 hs
          replace hb9 := hb9.tr0 hs
          replace hb10 := hb10.tr0 hs
          replace hb12 := hb12.tr0 hs
          replace hb15 := hb15.tr0 hs
          replace hoJ := hoJ.tr0 hs
          replace hb17 := hb17.tr0 hs
          clear hs
          refine ⟨_, rfl, ?_⟩
          refine wl (r_mv (v := .tuple _) rfl) ?_
          refine wl (r_ex (v := .int _ _) rfl rfl) ?_
          refine wl (r_ex (v := .bool _) rfl rfl) ?_
          refine wl (r_ex (v := .bool _) rfl rfl) ?_
          refine wl (r_as (v := .int _ _) rfl) ?_
          refine wl (r_as (v := .bool _) rfl) ?_
          refine wl (r_as (v := .bool _) rfl) ?_
          refine x_nil ?_
          refine e_S ?_
          refine c_seq ?_
          refine c_region ?_
          refine wl (r_ldS Tryd.underlying27 rfl rfl hb12.range0 sz27) ?_
          refine wl (r_ldS Tryd.underlying27 rfl rfl hb10.range0 sz27) ?_
          refine wl (r_eqF Tryd.eqGuardType27 ft27 Tryd.stoodInHeld27 fd27 Tryd.underlying3 rfl rfl) ?_
          refine wl (r_mv (v := .bool true) (congrArg Value.bool (decide_eq_true ⟨rfl, rfl⟩))) ?_
          refine wl_gd 134 rfl rfl ?_
          refine wl (r_ldS Tryd.underlying27 rfl rfl hb15.range0 sz27) ?_
          refine wl_gd 134 rfl rfl ?_
          refine wl (r_ldS Tryd.underlying27 rfl rfl hb10.range0 sz27) ?_
          refine wl_gd 134 rfl rfl ?_
          refine wl (r_eqF Tryd.eqGuardType27 ft27 Tryd.stoodInHeld27 fd27 Tryd.underlying3 rfl rfl) ?_
          refine wl (r_pt (v := .bool _) rfl rfl) ?_
          refine wl (r_mv (v := .bool true) (congrArg Value.bool (decide_eq_true ⟨rfl, rfl⟩))) ?_
          refine wl_gd 139 rfl rfl ?_
          refine wl (r_ldS Tryd.underlying27 rfl rfl hb17.range0 sz27) ?_
          refine wl_gd 139 rfl rfl ?_
          refine wl (r_ldS Tryd.underlying27 rfl rfl hb10.range0 sz27) ?_
          refine wl_gd 139 rfl rfl ?_
          refine wl (r_eqF Tryd.eqGuardType27 ft27 Tryd.stoodInHeld27 fd27 Tryd.underlying3 rfl rfl) ?_
          refine wl (r_pt (v := .bool _) rfl rfl) ?_
          refine wl (r_mv (v := .bool true) (congrArg Value.bool (decide_eq_true ⟨rfl, rfl⟩))) ?_
          refine wl_gd 144 rfl rfl ?_
          refine wl (r_mv (v := .bool _) rfl) ?_
          refine wl_gd 144 rfl rfl ?_
          refine wl (r_fa Tryd.underlying25 sz22 (by decide) rfl rfl rfl) ?_
          refine wl_gd 144 rfl rfl ?_
          refine wl (r_ld1 (v := .slice _ _ _) Tryd.underlying22 rfl rfl (hb3.cell rfl)) ?_
          refine wl_gd 144 rfl rfl ?_
          refine wl (r_mv (v := .int _ _) rfl) ?_
          refine wl_gd 144 rfl rfl ?_
          refine wl (r_mv (v := .int _ _) rfl) ?_
          refine wl_gd 144 rfl rfl ?_
          refine wl_cl fn17 (sub_any _ _ _ _ _ _ (hT.mono hB) hS.vt hS.le han hbn) rfl (fun e' w49 hr => ?_)
          obtain ⟨rfl, hs⟩ := hr
          replace hs := Same.of_bel hs
          replace hB := hB.tr0 hs
          replace hb3 := hb3.tr0 hs
          replace hb7 := hb7.tr0 hs
          replace hb9 := hb9.tr0 hs
          replace hb10 := hb10.tr0 hs
          replace hb12 := hb12.tr0 hs
          replace hb15 := hb15.tr0 hs
          replace hoJ := hoJ.tr0 hs
          replace hb17 := hb17.tr0 hs
          clear hs
          refine ⟨_, rfl, ?_⟩
          refine wl_gd 144 rfl rfl ?_
          refine wl (r_eqlB Tryd.underlying4 rfl rfl) ?_
          refine wl (r_pt (v := .bool _) rfl rfl) ?_
          refine wl (r_mv (v := .bool true) (congrArg Value.bool (by rw [hsi]; simp))) ?_
          refine wl_gd 153 rfl rfl ?_
          refine wl (r_mv (v := .int _ _) rfl) ?_
          refine wl_gd 153 rfl rfl ?_
          refine wl (r_mv (v := .int _ _) rfl) ?_
          refine wl_gd 153 rfl rfl ?_
          refine wl (r_eql rfl rfl) ?_
          refine wl (r_pt (v := .bool _) rfl rfl) ?_
          refine wl (r_mv (v := .bool true) (congrArg Value.bool (decide_eq_true (by rw [hmi])))) ?_
          refine wl_gd 158 rfl rfl ?_
          refine wl (r_mv (v := .bool _) rfl) ?_
          refine wl_gd 158 rfl rfl ?_
          refine wl (r_mv (v := .bool _) rfl) ?_
          refine wl_gd 158 rfl rfl ?_
          refine wl (r_eqlB Tryd.underlying4 rfl rfl) ?_
          refine wl (r_pt (v := .bool _) rfl rfl) ?_
          refine wl (r_mv (v := .bool true) (congrArg Value.bool (by rw [hmi]; simp))) ?_
          refine wl_gd 163 rfl rfl ?_
          refine wl (r_mv (v := .slice _ _ _) rfl) ?_
          refine wl_gd 163 rfl rfl ?_
          refine wl (r_fa Tryd.underlying25 sz22 (by decide) rfl rfl rfl) ?_
          refine wl_gd 163 rfl rfl ?_
          refine wl (r_ld1 (v := .slice _ _ _) Tryd.underlying22 rfl rfl (hb3.cell rfl)) ?_
          refine wl_gd 163 rfl rfl ?_
          refine wl (r_mv (v := .int _ _) rfl) ?_
          refine wl_gd 163 rfl rfl ?_
          refine wl (r_mv (v := .int _ _) rfl) ?_
          refine wl_gd 163 rfl rfl ?_
          have hbs2 := Bel.size hB
          refine wl_cl fn18 (sjoins_any A c l an bn _ (hT.mono hB) hS.vt hS.le han hbn) rfl (fun e' w50 hr => ?_)
          obtain ⟨⟨AK, capK, rfl, hoK⟩, hs⟩ := hr
          replace hs := Same.of_bel hs
          replace hB := hB.tr0 hs
          replace hb3 := hb3.tr0 hs
          replace hb7 := hb7.tr0 hs
          replace hb9 := hb9.tr0 hs
          replace hb10 := hb10.tr0 hs
          replace hb12 := hb12.tr0 hs
          replace hb15 := hb15.tr0 hs
          replace hoJ := hoJ.tr0 hs
          replace hb17 := hb17.tr0 hs
          clear hs
          refine ⟨_, rfl, ?_⟩
          refine wl_gd 163 rfl rfl ?_
          refine wl_cl fn15 (equal_any _ _ _ _ _ _ _ (own_ints hoJ) (own_ints hoK)) rfl (fun e' w51 hr => ?_)
          obtain ⟨rfl, hs⟩ := hr
          replace hs := Same.of_bel hs
          replace hB := hB.tr0 hs
          replace hb3 := hb3.tr0 hs
          replace hb7 := hb7.tr0 hs
          replace hb9 := hb9.tr0 hs
          replace hb10 := hb10.tr0 hs
          replace hb12 := hb12.tr0 hs
          replace hb15 := hb15.tr0 hs
          replace hoJ := hoJ.tr0 hs
          replace hb17 := hb17.tr0 hs
          replace hoK := hoK.tr0 hs
          clear hs
          refine ⟨_, rfl, ?_⟩
          refine wl (r_pt (v := .bool _) rfl rfl) ?_
          refine wl (r_as (v := .bool true) (congrArg Value.bool (decide_eq_true hji))) ?_
          refine x_nil ?_
          refine e_S ?_
          refine c_ret ?_
          refine fin1 (.inl rfl) rfl rfl ?_
          exact ⟨rfl, hB⟩
end Go.Proofs.YthhkbhapfcfdjaaDoor
