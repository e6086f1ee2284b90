/- What these functions of the program compute, at every world: glosswright/glosswrightlaw3.SubsumeKeepsPaths. -/
import Derived.Test.YtlaihbaneoeffaaDoorSLaw
namespace Go.Proofs.YtlaihbaneoeffaaDoor
open Go.RowKit

theorem fn26 : callable Tryd.prog 26 = true := by kernel_rfl
set_option maxHeartbeats 4000000 in
theorem law16_any (A B G1 G2 : Option Addr) (c d c1 c2 : Nat) (l : List Ty) (fs : List Ft) (ga gb : List Nd) (w : World) (PA : Option Addr) (cp : Nat) (p : List Int) (hTab : TabIn w) (hT : TypesIn w A l) (hF : FeatsIn w B fs) (hG1 : NodesIn w G1 ga) (hG2 : NodesIn w G2 gb) (hP : IntsIn w PA p) : Calls Tryd.prog 8 #[.agg #[.slice A l.length c, .slice B fs.length d], .agg #[.slice G1 ga.length c1], .agg #[.slice G2 gb.length c2], .slice PA p.length cp] w fun e w' => e = .returned (.bool true) ∧ Bel w w' := by
  refine enter Tryd.func8 Tryd.ntmps8 rfl (Nat.le_of_ble_eq_true rfl) ?_
  have hB : Bel w w := Below.refl _ _
  refine c_seq ?_
  refine c_region ?_
  refine wl_bx (v := .agg #[_, _]) (cs := #[_, _]) rfl rfl (fun b4 w1 hb4 hs hr => ?_)
  have lo4 := Nat.le_trans (Bel.size hB) hr
  replace hB := hB.tr0 hs
  clear hs
  clear hr
  refine wl_bx (v := .agg #[_]) (cs := #[_]) rfl rfl (fun b5 w2 hb5 hs hr => ?_)
  have or_b4_b5 : b4 < b5 := Nat.lt_of_lt_of_le hb4.lt hr
  have lo5 := Nat.le_trans (Bel.size hB) hr
  replace hB := hB.tr0 hs
  replace hb4 := hb4.tr0 hs
  clear hs
  clear hr
  refine wl_bx (v := .agg #[_]) (cs := #[_]) rfl rfl (fun b6 w3 hb6 hs hr => ?_)
  have or_b4_b6 : b4 < b6 := Nat.lt_of_lt_of_le hb4.lt hr
  have or_b5_b6 : b5 < b6 := Nat.lt_of_lt_of_le hb5.lt hr
  have lo6 := Nat.le_trans (Bel.size hB) hr
  replace hB := hB.tr0 hs
  replace hb4 := hb4.tr0 hs
  replace hb5 := hb5.tr0 hs
  clear hs
  clear hr
  refine wl (r_as (v := .bool _) rfl) ?_
  refine x_nil ?_
  refine e_S ?_
  refine c_seq ?_
  refine c_seq ?_
  refine c_region ?_
  refine wl_cl fn10 (pair_any _) rfl (fun e' w4 hr => ?_)
  obtain ⟨⟨Ap, Bp, rfl, hTp, hFp⟩, hs⟩ := hr
  replace hs := Same.of_bel hs
  replace hB := hB.tr0 hs
  replace hb4 := hb4.tr0 hs
  replace hb5 := hb5.tr0 hs
  replace hb6 := hb6.tr0 hs
  clear hs
  have hB0 : Bel w4 w4 := Below.refl _ _
  refine ⟨_, rfl, ?_⟩
  refine wl_cl fn15 (apart_any _) rfl (fun e' w5 hr => ?_)
  obtain ⟨⟨Ga, rfl, hGa⟩, hs⟩ := hr
  replace hs := Same.of_bel hs
  replace hB := hB.tr0 hs
  replace hb4 := hb4.tr0 hs
  replace hb5 := hb5.tr0 hs
  replace hb6 := hb6.tr0 hs
  replace hB0 := hB0.tr0 hs
  clear hs
  have hB1 : Bel w5 w5 := Below.refl _ _
  refine ⟨_, rfl, ?_⟩
  refine wl_cl fn16 (shared_any _) rfl (fun e' w6 hr => ?_)
  obtain ⟨⟨Gb, rfl, hGb⟩, hs⟩ := hr
  replace hs := Same.of_bel hs
  replace hB := hB.tr0 hs
  replace hb4 := hb4.tr0 hs
  replace hb5 := hb5.tr0 hs
  replace hb6 := hb6.tr0 hs
  replace hB0 := hB0.tr0 hs
  replace hB1 := hB1.tr0 hs
  clear hs
  have hB2 : Bel w6 w6 := Below.refl _ _
  refine ⟨_, rfl, ?_⟩
  refine wl_cl fn18 (subp_any (ga := apartG) (gb := sharedG) rfl rfl apart_ok shared_ok subB_as (hTab.mono hB) (hTp.mono hB0) (hFp.mono hB0) (hGa.mono hB1) (hGb.mono hB2)) rfl (fun e' w7 hr => ?_)
  obtain ⟨rfl, hs⟩ := hr
  replace hs := Same.of_bel hs
  replace hB := hB.tr0 hs
  replace hb4 := hb4.tr0 hs
  replace hb5 := hb5.tr0 hs
  replace hb6 := hb6.tr0 hs
  replace hB0 := hB0.tr0 hs
  replace hB1 := hB1.tr0 hs
  replace hB2 := hB2.tr0 hs
  clear hs
  refine ⟨_, rfl, ?_⟩
  refine wl (r_mv (v := .tuple _) rfl) ?_
  refine wl (r_ex (v := _) rfl rfl) ?_
  refine wl (r_ex (v := _) rfl rfl) ?_
  refine wl_al (cs := #[.int .i64 0, .int .i64 0]) ze35 rfl (fun b10 w8 hb10 hs hr => ?_)
  have or_b4_b10 : b4 < b10 := Nat.lt_of_lt_of_le hb4.lt hr
  have or_b5_b10 : b5 < b10 := Nat.lt_of_lt_of_le hb5.lt hr
  have or_b6_b10 : b6 < b10 := Nat.lt_of_lt_of_le hb6.lt hr
  have lo10 := Nat.le_trans (Bel.size hB) hr
  replace hB := hB.tr0 hs
  replace hb4 := hb4.tr0 hs
  replace hb5 := hb5.tr0 hs
  replace hb6 := hb6.tr0 hs
  clear hs
  clear hr
  refine wl (r_as (v := .bool _) rfl) ?_
  refine wl_stW hb10 rfl rfl sz35 rfl (by repeat (first | rfl | refine one_cons (by first | rfl | assumption) ?_)) (fun w9 hq hs => ?_)
  replace hB := hB.tr1 hs lo10
  replace hb4 := hb4.tr1 hs (by omega)
  replace hb5 := hb5.tr1 hs (by omega)
  replace hb6 := hb6.tr1 hs (by omega)
  clear hs
  replace hb10 := hq
  refine x_nil ?_
  refine e_S ?_
  refine c_seq ?_
  refine c_region ?_
  refine wl (r_mv (v := .bool _) rfl) ?_
  refine wl (r_not rfl) ?_
  refine x_nil ?_
  refine e_S ?_
  refine c_if rfl (fun c24 => ?_) (fun c24 => ?_)
  · exact absurd c24 (by decide)
  · skip
    refine c_skip ?_
    refine e_S ?_
    refine c_seq ?_
    refine c_region ?_
    refine wl (r_ldS Tryd.underlying25 rfl rfl hb4.range0 sz25) ?_
    refine wl (r_ldS Tryd.underlying28 rfl rfl hb5.range0 sz28) ?_
    refine wl (r_ldS Tryd.underlying28 rfl rfl hb6.range0 sz28) ?_
    refine wl_cl fn18 (subs_any A B G1 G2 c d c1 c2 l fs ga gb _ (hTab.mono hB) (hT.mono hB) (hF.mono hB) (hG1.mono hB) (hG2.mono hB)) rfl (fun e' w10 hr => ?_)
    obtain ⟨rfl, hs⟩ := hr
    replace hs := Same.of_bel hs
    replace hB := hB.tr0 hs
    replace hb4 := hb4.tr0 hs
    replace hb5 := hb5.tr0 hs
    replace hb6 := hb6.tr0 hs
    replace hb10 := hb10.tr0 hs
    clear hs
    refine ⟨_, rfl, ?_⟩
    refine wl (r_mv (v := .tuple _) rfl) ?_
    refine wl (r_ex (v := _) rfl rfl) ?_
    refine wl (r_ex (v := _) rfl rfl) ?_
    refine wl_al (cs := #[.int .i64 0, .int .i64 0]) ze35 rfl (fun b12 w11 hb12 hs hr => ?_)
    have or_b4_b12 : b4 < b12 := Nat.lt_of_lt_of_le hb4.lt hr
    have or_b5_b12 : b5 < b12 := Nat.lt_of_lt_of_le hb5.lt hr
    have or_b6_b12 : b6 < b12 := Nat.lt_of_lt_of_le hb6.lt hr
    have or_b10_b12 : b10 < b12 := Nat.lt_of_lt_of_le hb10.lt hr
    have lo12 := Nat.le_trans (Bel.size hB) hr
    replace hB := hB.tr0 hs
    replace hb4 := hb4.tr0 hs
    replace hb5 := hb5.tr0 hs
    replace hb6 := hb6.tr0 hs
    replace hb10 := hb10.tr0 hs
    clear hs
    clear hr
    refine wl (r_as (v := .bool _) rfl) ?_
    refine wl_stW hb12 rfl rfl sz35 rfl (by repeat (first | rfl | refine one_cons (by first | rfl | assumption) ?_)) (fun w12 hq hs => ?_)
    replace hB := hB.tr1 hs lo12
    replace hb4 := hb4.tr1 hs (by omega)
    replace hb5 := hb5.tr1 hs (by omega)
    replace hb6 := hb6.tr1 hs (by omega)
    replace hb10 := hb10.tr1 hs (by omega)
    clear hs
    replace hb12 := hq
    refine x_nil ?_
    refine e_S ?_
    refine c_seq ?_
    refine c_seq ?_
    refine c_cut1 [32, 33, 34, 35, 36, 37, 38] 38 (.bool (decide (¬ (twoG l fs ga gb).1 = 0 ∨ ¬ subB l fs ga gb = true))) (by simp [undef]) ?_ (fun gq => ?_)
    · refine c_region ?_
      refine wl (r_fa Tryd.underlying35 sz3 (by decide) rfl rfl rfl) ?_
      refine wl (r_ld1 (v := .int _ _) Tryd.underlying3 rfl rfl (hb12.cell rfl)) ?_
      refine wl (r_neq rfl rfl) ?_
      refine wl (r_mv (v := .bool _) rfl) ?_
      refine wl_casesd 35 rfl (fun g35 => ?_) (fun g35 => ?_)
      · skip
        refine wlgn 35 rfl rfl rfl ?_
        refine wlgn 35 rfl rfl rfl ?_
        refine wl (r_pt (v := .bool _) rfl rfl) ?_
        refine x_nil (e_R ⟨rfl, (by repeat (first | exact ag_refl | exact ag_ovr' | refine ag_upd rfl ?_ | refine ag_sub rfl ?_ | refine ag_kn (by assumption) ?_)), ?_⟩)
        show Value.bool _ = Value.bool _
        first | exact congrArg Value.bool (decide_eq_true (Or.inl (by first | assumption | exact g35))).symm | (simp only [Value.bool.injEq]; simp [g35]; done) | (simp [g35]; done)
      · skip
        refine wl_gd 35 rfl rfl ?_
        refine wl (r_mv (v := .bool _) rfl) ?_
        refine wl_gd 35 rfl rfl ?_
        refine wl (r_not rfl) ?_
        refine wl (r_pf (v := .bool _) rfl rfl) ?_
        refine x_nil (e_R ⟨rfl, (by repeat (first | exact ag_refl | exact ag_ovr' | refine ag_upd rfl ?_ | refine ag_sub rfl ?_ | refine ag_kn (by assumption) ?_)), ?_⟩)
        show Value.bool _ = Value.bool _
        first | exact congrArg Value.bool (decide_eq_true (Or.inl (by first | assumption | exact g35))).symm | (simp only [Value.bool.injEq]; simp [g35]; done) | (simp [g35]; done)
    refine e_S ?_
    refine c_ifd rfl (fun c38 => ?_) (fun c38 => ?_)
    · skip
      refine c_seq ?_
      refine c_region ?_
      refine wl (r_as (v := .bool _) rfl) ?_
      refine x_nil ?_
      refine e_S ?_
      refine c_ret ?_
      refine e_Sr ?_
      refine fin1 (.inl rfl) rfl rfl ?_
      exact ⟨rfl, hB⟩
    · have h0 : (twoG l fs ga gb).1 = 0 := Decidable.not_not.1 (fun h => c38 (.inl h))
      have hsb : subB l fs ga gb = true := Decidable.not_not.1 (fun h => c38 (.inr h))
      obtain ⟨⟨hva, hvb⟩, hga0, hgb0⟩ := two_gv h0
      obtain ⟨φ, hφ⟩ := (subB_iff hga0 hgb0).1 hsb
      refine c_skip ?_
      refine e_S ?_
      refine c_seq ?_
      refine c_region ?_
      refine wl (r_ldS Tryd.underlying25 rfl rfl hb4.range0 sz25) ?_
      refine wl (r_ldS Tryd.underlying28 rfl rfl hb5.range0 sz28) ?_
      refine wl (r_mv (v := .slice _ _ _) rfl) ?_
      have z12 := hb12.lt
      refine wl_cl fn26 (at_any A B G1 c d c1 l fs ga _ PA cp p (hTab.mono hB) (hT.mono hB) (hF.mono hB) (hG1.mono hB) (hP.mono hB)) rfl (fun e' w13 hr => ?_)
      obtain ⟨⟨AX, rfl, hNX, hAtX⟩, hs⟩ := hr
      replace hs := Same.of_bel hs
      replace hB := hB.tr0 hs
      replace hb4 := hb4.tr0 hs
      replace hb5 := hb5.tr0 hs
      replace hb6 := hb6.tr0 hs
      replace hb10 := hb10.tr0 hs
      replace hb12 := hb12.tr0 hs
      clear hs
      obtain ⟨ZX, hZX⟩ : ∃ z, z = (w12).heap.size := ⟨_, rfl⟩
      rw [← hZX] at hNX z12
      obtain ⟨wX, hwX⟩ : ∃ z, z = w13 := ⟨_, rfl⟩
      have hFX : FrSame ZX wX w13 := by rw [hwX]; exact FrSame.refl _ _
      rw [← hwX] at hNX
      refine ⟨_, rfl, ?_⟩
      refine wl (r_mv (v := .tuple _) rfl) ?_
      refine wl (r_ex (v := _) rfl rfl) ?_
      refine wl (r_ex (v := _) rfl rfl) ?_
      refine wl (r_ex (v := _) rfl rfl) ?_
      refine wl_al (cs := #[.slice none 0 0]) ze28 rfl (fun b13 w14 hb13 hs hr => ?_)
      have or_b4_b13 : b4 < b13 := Nat.lt_of_lt_of_le hb4.lt hr
      have or_b5_b13 : b5 < b13 := Nat.lt_of_lt_of_le hb5.lt hr
      have or_b6_b13 : b6 < b13 := Nat.lt_of_lt_of_le hb6.lt hr
      have or_b10_b13 : b10 < b13 := Nat.lt_of_lt_of_le hb10.lt hr
      have or_b12_b13 : b12 < b13 := Nat.lt_of_lt_of_le hb12.lt hr
      have or_hFX_b13 := (Nat.le_trans hFX.size hr)
      have lo13 := Nat.le_trans (Bel.size hB) hr
      replace hB := hB.tr0 hs
      replace hb4 := hb4.tr0 hs
      replace hb5 := hb5.tr0 hs
      replace hb6 := hb6.tr0 hs
      replace hb10 := hb10.tr0 hs
      replace hb12 := hb12.tr0 hs
      replace hFX := hFX.of hs (by simp)
      clear hs
      clear hr
      refine wl_stW hb13 rfl rfl sz28 rfl (by repeat (first | rfl | refine one_cons (by first | rfl | assumption) ?_)) (fun w15 hq hs => ?_)
      replace hB := hB.tr1 hs lo13
      replace hb4 := hb4.tr1 hs (by omega)
      replace hb5 := hb5.tr1 hs (by omega)
      replace hb6 := hb6.tr1 hs (by omega)
      replace hb10 := hb10.tr1 hs (by omega)
      replace hb12 := hb12.tr1 hs (by omega)
      replace hFX := hFX.of hs (fun g hg => by rw [List.mem_singleton.1 hg]; omega)
      clear hs
      replace hb13 := hq
      refine wl (r_as (v := .bool _) rfl) ?_
      refine wl_stW hb12 rfl rfl sz35 rfl (by repeat (first | rfl | refine one_cons (by first | rfl | assumption) ?_)) (fun w16 hq hs => ?_)
      replace hB := hB.tr1 hs lo12
      replace hb4 := hb4.tr1 hs (by omega)
      replace hb5 := hb5.tr1 hs (by omega)
      replace hb6 := hb6.tr1 hs (by omega)
      replace hb10 := hb10.tr1 hs (by omega)
      replace hFX := hFX.of hs (fun g hg => by rw [List.mem_singleton.1 hg]; omega)
      replace hb13 := hb13.tr1 hs (by omega)
      clear hs
      replace hb12 := hq
      refine x_nil ?_
      refine e_S ?_
      refine c_seq ?_
      refine c_seq ?_
      refine c_cut1 [47, 48, 49, 50, 51, 52, 53] 53 (.bool (decide (¬ (atF l fs ga p).1 = 0 ∨ ¬ AtOk l fs ga p))) (by simp [undef]) ?_ (fun gq => ?_)
      · refine c_region ?_
        refine wl (r_fa Tryd.underlying35 sz3 (by decide) rfl rfl rfl) ?_
        refine wl (r_ld1 (v := .int _ _) Tryd.underlying3 rfl rfl (hb12.cell rfl)) ?_
        refine wl (r_neq rfl rfl) ?_
        refine wl (r_mv (v := .bool _) rfl) ?_
        refine wl_casesd 50 rfl (fun g50 => ?_) (fun g50 => ?_)
        · skip
          refine wlgn 50 rfl rfl rfl ?_
          refine wlgn 50 rfl rfl rfl ?_
          refine wl (r_pt (v := .bool _) rfl rfl) ?_
          refine x_nil (e_R ⟨rfl, (by repeat (first | exact ag_refl | exact ag_ovr' | refine ag_upd rfl ?_ | refine ag_sub rfl ?_ | refine ag_kn (by assumption) ?_)), ?_⟩)
          show Value.bool _ = Value.bool _
          first | exact congrArg Value.bool (decide_eq_true (Or.inl (by first | assumption | exact g50))).symm | (simp only [Value.bool.injEq]; simp [g50]; done) | (simp [g50]; done)
        · skip
          refine wl_gd 50 rfl rfl ?_
          refine wl (r_mv (v := .bool _) rfl) ?_
          refine wl_gd 50 rfl rfl ?_
          refine wl (r_not rfl) ?_
          refine wl (r_pf (v := .bool _) rfl rfl) ?_
          refine x_nil (e_R ⟨rfl, (by repeat (first | exact ag_refl | exact ag_ovr' | refine ag_upd rfl ?_ | refine ag_sub rfl ?_ | refine ag_kn (by assumption) ?_)), ?_⟩)
          show Value.bool _ = Value.bool _
          first | exact congrArg Value.bool (decide_eq_true (Or.inl (by first | assumption | exact g50))).symm | (simp only [Value.bool.injEq]; simp [g50]; done) | (simp [g50]; done)
      refine e_S ?_
      refine c_ifd rfl (fun c53 => ?_) (fun c53 => ?_)
      · skip
        refine c_seq ?_
        refine c_region ?_
        refine wl (r_as (v := .bool _) rfl) ?_
        refine x_nil ?_
        refine e_S ?_
        refine c_ret ?_
        refine e_Sr ?_
        refine fin1 (.inl rfl) rfl rfl ?_
        exact ⟨rfl, hB⟩
      · have hok : AtOk l fs ga p := Decidable.not_not.1 (fun h => c53 (.inr h))
        obtain ⟨a, oa, hal, haw, hda, hXe⟩ := hAtX hok
        obtain ⟨_, hp3, hpr⟩ := at_zero.1 hok.1
        obtain ⟨hbw, _⟩ := hφ.walk hva.gx p hva.gok.pos haw
        rw [hφ.zero] at hbw
        have hokb : AtOk l fs gb p := ⟨at_zero.2 ⟨hgb0, hp3, hpr⟩, by rw [show walkT gb p 0 = walkT gb p ((0 : Nat) : Int) from rfl, hbw]; omega⟩
        refine c_skip ?_
        refine e_S ?_
        refine c_seq ?_
        refine c_region ?_
        refine wl (r_ldS Tryd.underlying25 rfl rfl hb4.range0 sz25) ?_
        refine wl (r_ldS Tryd.underlying28 rfl rfl hb6.range0 sz28) ?_
        refine wl (r_mv (v := .slice _ _ _) rfl) ?_
        have z12 := hb12.lt
        refine wl_cl fn26 (at_any A B G2 c d c2 l fs gb _ PA cp p (hTab.mono hB) (hT.mono hB) (hF.mono hB) (hG2.mono hB) (hP.mono hB)) rfl (fun e' w17 hr => ?_)
        obtain ⟨⟨AY, rfl, hNY, hAtY⟩, hs⟩ := hr
        replace hs := Same.of_bel hs
        replace hB := hB.tr0 hs
        replace hb4 := hb4.tr0 hs
        replace hb5 := hb5.tr0 hs
        replace hb6 := hb6.tr0 hs
        replace hb10 := hb10.tr0 hs
        replace hb12 := hb12.tr0 hs
        replace hFX := hFX.of hs (by simp)
        replace hb13 := hb13.tr0 hs
        clear hs
        obtain ⟨ZY, hZY⟩ : ∃ z, z = (w16).heap.size := ⟨_, rfl⟩
        rw [← hZY] at hNY z12
        obtain ⟨wY, hwY⟩ : ∃ z, z = w17 := ⟨_, rfl⟩
        have hFY : FrSame ZY wY w17 := by rw [hwY]; exact FrSame.refl _ _
        rw [← hwY] at hNY
        refine ⟨_, rfl, ?_⟩
        refine wl (r_mv (v := .tuple _) rfl) ?_
        refine wl (r_ex (v := _) rfl rfl) ?_
        refine wl (r_ex (v := _) rfl rfl) ?_
        refine wl (r_ex (v := _) rfl rfl) ?_
        refine wl_al (cs := #[.slice none 0 0]) ze28 rfl (fun b15 w18 hb15 hs hr => ?_)
        have or_b4_b15 : b4 < b15 := Nat.lt_of_lt_of_le hb4.lt hr
        have or_b5_b15 : b5 < b15 := Nat.lt_of_lt_of_le hb5.lt hr
        have or_b6_b15 : b6 < b15 := Nat.lt_of_lt_of_le hb6.lt hr
        have or_b10_b15 : b10 < b15 := Nat.lt_of_lt_of_le hb10.lt hr
        have or_b12_b15 : b12 < b15 := Nat.lt_of_lt_of_le hb12.lt hr
        have or_hFX_b15 := (Nat.le_trans hFX.size hr)
        have or_b13_b15 : b13 < b15 := Nat.lt_of_lt_of_le hb13.lt hr
        have or_hFY_b15 := (Nat.le_trans hFY.size hr)
        have lo15 := Nat.le_trans (Bel.size hB) hr
        replace hB := hB.tr0 hs
        replace hb4 := hb4.tr0 hs
        replace hb5 := hb5.tr0 hs
        replace hb6 := hb6.tr0 hs
        replace hb10 := hb10.tr0 hs
        replace hb12 := hb12.tr0 hs
        replace hFX := hFX.of hs (by simp)
        replace hb13 := hb13.tr0 hs
        replace hFY := hFY.of hs (by simp)
        clear hs
        clear hr
        refine wl_stW hb15 rfl rfl sz28 rfl (by repeat (first | rfl | refine one_cons (by first | rfl | assumption) ?_)) (fun w19 hq hs => ?_)
        replace hB := hB.tr1 hs lo15
        replace hb4 := hb4.tr1 hs (by omega)
        replace hb5 := hb5.tr1 hs (by omega)
        replace hb6 := hb6.tr1 hs (by omega)
        replace hb10 := hb10.tr1 hs (by omega)
        replace hb12 := hb12.tr1 hs (by omega)
        replace hFX := hFX.of hs (fun g hg => by rw [List.mem_singleton.1 hg]; omega)
        replace hb13 := hb13.tr1 hs (by omega)
        replace hFY := hFY.of hs (fun g hg => by rw [List.mem_singleton.1 hg]; omega)
        clear hs
        replace hb15 := hq
        refine wl (r_as (v := .bool _) rfl) ?_
        refine wl_stW hb12 rfl rfl sz35 rfl (by repeat (first | rfl | refine one_cons (by first | rfl | assumption) ?_)) (fun w20 hq hs => ?_)
        replace hB := hB.tr1 hs lo12
        replace hb4 := hb4.tr1 hs (by omega)
        replace hb5 := hb5.tr1 hs (by omega)
        replace hb6 := hb6.tr1 hs (by omega)
        replace hb10 := hb10.tr1 hs (by omega)
        replace hFX := hFX.of hs (fun g hg => by rw [List.mem_singleton.1 hg]; omega)
        replace hb13 := hb13.tr1 hs (by omega)
        replace hFY := hFY.of hs (fun g hg => by rw [List.mem_singleton.1 hg]; omega)
        replace hb15 := hb15.tr1 hs (by omega)
        clear hs
        replace hb12 := hq
        refine x_nil ?_
        refine e_S ?_
        refine c_seq ?_
        refine c_seq ?_
        refine c_cut1 [62, 63, 64, 65, 66, 67, 68] 68 (.bool (decide (¬ (atF l fs gb p).1 = 0 ∨ ¬ AtOk l fs gb p))) (by simp [undef]) ?_ (fun gq => ?_)
        · refine c_region ?_
          refine wl (r_fa Tryd.underlying35 sz3 (by decide) rfl rfl rfl) ?_
          refine wl (r_ld1 (v := .int _ _) Tryd.underlying3 rfl rfl (hb12.cell rfl)) ?_
          refine wl (r_neq rfl rfl) ?_
          refine wl (r_mv (v := .bool _) rfl) ?_
          refine wl_casesd 65 rfl (fun g65 => ?_) (fun g65 => ?_)
          · skip
            refine wlgn 65 rfl rfl rfl ?_
            refine wlgn 65 rfl rfl rfl ?_
            refine wl (r_pt (v := .bool _) rfl rfl) ?_
            refine x_nil (e_R ⟨rfl, (by repeat (first | exact ag_refl | exact ag_ovr' | refine ag_upd rfl ?_ | refine ag_sub rfl ?_ | refine ag_kn (by assumption) ?_)), ?_⟩)
            show Value.bool _ = Value.bool _
            first | exact congrArg Value.bool (decide_eq_true (Or.inl (by first | assumption | exact g65))).symm | (simp only [Value.bool.injEq]; simp [g65]; done) | (simp [g65]; done)
          · skip
            refine wl_gd 65 rfl rfl ?_
            refine wl (r_mv (v := .bool _) rfl) ?_
            refine wl_gd 65 rfl rfl ?_
            refine wl (r_not rfl) ?_
            refine wl (r_pf (v := .bool _) rfl rfl) ?_
            refine x_nil (e_R ⟨rfl, (by repeat (first | exact ag_refl | exact ag_ovr' | refine ag_upd rfl ?_ | refine ag_sub rfl ?_ | refine ag_kn (by assumption) ?_)), ?_⟩)
            show Value.bool _ = Value.bool _
            first | exact congrArg Value.bool (decide_eq_true (Or.inl (by first | assumption | exact g65))).symm | (simp only [Value.bool.injEq]; simp [g65]; done) | (simp [g65]; done)
        refine e_S ?_
        refine c_ifd rfl (fun c68 => ?_) (fun c68 => ?_)
        · exact absurd hokb (fun h => c68.elim (fun k => k h.1) (fun k => k h))
        · obtain ⟨b, ob, hbl, hbw2, hdb, hYe⟩ := hAtY hokb
          have hbe : b = φ a := by
            have : ((b : Nat) : Int) = (φ a : Nat) := hbw2.symm.trans hbw
            omega
          have ta := hva.gx.toGY.trr hal hda
          have tb := hvb.gx.toGY.trr hbl hdb
          have hX0 : (graphF l fs (atG l fs ga p)).1 = 0 := by rw [hXe]; exact ta.valid hva
          have hY0 : (graphF l fs (atG l fs gb p)).1 = 0 := by rw [hYe]; exact tb.valid hvb
          have hxyB : subB l fs (atG l fs ga p) (atG l fs gb p) = true := by
            subst hbe
            refine (subB_iff hX0 hY0).2 ?_
            rw [hXe, hYe]
            exact hφ.part hvb.gx ta tb
          have hxy0 := two_mk hX0 hY0
          refine c_skip ?_
          refine e_S ?_
          refine c_seq ?_
          refine c_region ?_
          refine wl (r_ldS Tryd.underlying25 rfl rfl hb4.range0 sz25) ?_
          refine wl (r_ldS Tryd.underlying28 rfl rfl hb13.range0 sz28) ?_
          refine wl (r_ldS Tryd.underlying28 rfl rfl hb15.range0 sz28) ?_
          refine wl_cl fn18 (subs_any A B AX AY c d _ _ l fs (atG l fs ga p) (atG l fs gb p) _ (hTab.mono hB) (hT.mono hB) (hF.mono hB) (hNX _ hFX) (hNY _ hFY)) rfl (fun e' w21 hr => ?_)
          obtain ⟨rfl, hs⟩ := hr
          replace hs := Same.of_bel hs
          replace hB := hB.tr0 hs
          replace hb4 := hb4.tr0 hs
          replace hb5 := hb5.tr0 hs
          replace hb6 := hb6.tr0 hs
          replace hb10 := hb10.tr0 hs
          replace hb12 := hb12.tr0 hs
          replace hFX := hFX.of hs (by simp)
          replace hb13 := hb13.tr0 hs
          replace hFY := hFY.of hs (by simp)
          replace hb15 := hb15.tr0 hs
          clear hs
          refine ⟨_, rfl, ?_⟩
          refine wl (r_mv (v := .tuple _) rfl) ?_
          refine wl (r_ex (v := _) rfl rfl) ?_
          refine wl (r_ex (v := _) rfl rfl) ?_
          refine wl (r_as (v := .bool _) rfl) ?_
          refine wl_stW hb12 rfl rfl sz35 rfl (by repeat (first | rfl | refine one_cons (by first | rfl | assumption) ?_)) (fun w22 hq hs => ?_)
          replace hB := hB.tr1 hs lo12
          replace hb4 := hb4.tr1 hs (by omega)
          replace hb5 := hb5.tr1 hs (by omega)
          replace hb6 := hb6.tr1 hs (by omega)
          replace hb10 := hb10.tr1 hs (by omega)
          replace hFX := hFX.of hs (fun g hg => by rw [List.mem_singleton.1 hg]; omega)
          replace hb13 := hb13.tr1 hs (by omega)
          replace hFY := hFY.of hs (fun g hg => by rw [List.mem_singleton.1 hg]; omega)
          replace hb15 := hb15.tr1 hs (by omega)
          clear hs
          replace hb12 := hq
          refine x_nil ?_
          refine e_S ?_
          refine c_seq ?_
          refine c_region ?_
          refine wl (r_fa Tryd.underlying35 sz3 (by decide) rfl rfl rfl) ?_
          refine wl (r_ld1 (v := .int _ _) Tryd.underlying3 rfl rfl (hb12.cell rfl)) ?_
          refine wl (r_eql rfl rfl) ?_
          refine wl (r_mv (v := .bool true) (congrArg Value.bool (decide_eq_true hxy0))) ?_
          refine wl_gd 79 rfl rfl ?_
          refine wl (r_mv (v := .bool true) (congrArg Value.bool hxyB)) ?_
          refine wl (r_pt (v := .bool _) rfl rfl) ?_
          refine wl (r_as (v := .bool _) rfl) ?_
          refine x_nil ?_
          refine e_S ?_
          refine c_ret ?_
          refine fin1 (.inl rfl) rfl rfl ?_
          exact ⟨rfl, hB⟩
end Go.Proofs.YtlaihbaneoeffaaDoor
