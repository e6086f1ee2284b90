/- What these functions of the program compute, at every world: glosswright/glosswrightref4.Mod, slices.Equal[[]int,int], glosswright/hierarchy.two, glosswright/hierarchy.Meet, glosswright/hierarchy.Sub, (glosswright/hierarchy.Table).Least, glosswright/hierarchy.Join. -/
import Derived.Test.YthhkbhapfcfdjaaDoorHLaw
import Derived.Test.YthhkbhapfcfdjaaDoorLaw3
namespace Go.Proofs.YthhkbhapfcfdjaaDoor
open Go.RowKit

theorem Own.weak {w : World} {base base' : Nat} {e : TypeId} {sz : Nat} {A : Option Addr} {k cap : Nat} {xs : List Value} (h : Own w base e sz A k cap xs) (hb : base' ≤ base) : Own w base' e sz A k cap xs := by
  refine ⟨h.1, ?_⟩
  rcases h.2 with hn | ⟨g, c, cur, hv, hbb, r⟩
  · exact .inl hn
  · exact .inr ⟨g, c, cur, hv, Nat.le_trans hb hbb, r⟩

theorem fn38 : callable Tryd.prog 38 = true := by kernel_rfl
theorem fn39 : callable Tryd.prog 39 = true := by kernel_rfl
theorem fn40 : callable Tryd.prog 40 = true := by kernel_rfl
theorem in3 : (Tryd.prog.info? 3).map (fun i => (i.zero, i.size, i.bytes)) = some (some (.int .i64 0), 1, 8) := by kernel_rfl
theorem mod_any (a : Int) (n : Nat) (w : World) (ha : -9223372036854775808 ≤ a ∧ a ≤ 9223372036854775807) (hn : 0 < n) (hn6 : n ≤ 60) : Calls Tryd.prog 12 #[.int .i64 a, .int .i64 n] w fun e w' => e = .returned (.int .i64 (modI a n)) ∧ Bel w w' := by
  have h1 := Int.tmod_lt_of_pos a (b := (n : Int)) (by omega)
  have h2 := Int.lt_tmod_of_pos a (b := (n : Int)) (by omega)
  refine enter Tryd.func12 Tryd.ntmps12 rfl (Nat.le_of_ble_eq_true rfl) ?_
  have hB : Bel w w := Below.refl _ _
  refine c_seq ?_
  refine c_region ?_
  refine wl (r_as (v := .int _ _) rfl) ?_
  refine x_nil ?_
  refine e_S ?_
  refine c_seq ?_
  refine c_seq ?_
  refine c_region ?_
  refine wl (r_mv (v := .int _ _) rfl) ?_
  refine wl (r_mv (v := .int _ _) rfl) ?_
  refine wl (r_rem rfl rfl (by omega) rfl) ?_
  refine wl (r_as (v := .int _ _) rfl) ?_
  refine x_nil ?_
  refine e_S ?_
  refine c_seq ?_
  refine c_region ?_
  refine wl (r_mv (v := .int _ _) rfl) ?_
  refine wl (r_lss rfl rfl) ?_
  refine x_nil ?_
  refine e_S ?_
  refine c_ifd rfl (fun c9 => ?_) (fun c9 => ?_)
  · skip
    refine c_region ?_
    refine wl (r_mv (v := .int _ _) rfl) ?_
    refine wl (r_mv (v := .int _ _) rfl) ?_
    refine wl (r_add rfl rfl rfl (by omega)) ?_
    refine wl (r_as (v := .int _ _) rfl) ?_
    refine x_nil ?_
    refine e_S ?_
    refine c_seq ?_
    refine c_region ?_
    refine wl (r_mv (v := .int _ _) rfl) ?_
    refine wl (r_as (v := .int _ _) rfl) ?_
    refine x_nil ?_
    refine e_S ?_
    refine c_ret ?_
    refine fin1 (.inl rfl) rfl rfl ?_
    exact ⟨ret_int (by unfold modI; first | rw [if_pos c9] | rw [if_neg c9]), hB⟩
  · skip
    refine c_skip ?_
    refine e_S ?_
    refine c_seq ?_
    refine c_region ?_
    refine wl (r_mv (v := .int _ _) rfl) ?_
    refine wl (r_as (v := .int _ _) rfl) ?_
    refine x_nil ?_
    refine e_S ?_
    refine c_ret ?_
    refine fin1 (.inl rfl) rfl rfl ?_
    exact ⟨ret_int (by unfold modI; first | rw [if_pos c9] | rw [if_neg c9]), hB⟩

theorem equal_any (A B : Option Addr) (c d : Nat) (xs ys : List Int) (w : World) (hX : IntsIn w A xs) (hY : IntsIn w B ys) : Calls Tryd.prog 15 #[.slice A xs.length c, .slice B ys.length d] w fun e w' => e = .returned (.bool (decide (xs = ys))) ∧ Bel w w' := by
  have hmx := hX.1
  unfold maxI at hmx
  refine enter Tryd.func15 Tryd.ntmps15 rfl (Nat.le_of_ble_eq_true rfl) ?_
  have hB : Bel w w := Below.refl _ _
  refine c_seq ?_
  refine c_region ?_
  refine wl (r_as (v := .bool _) rfl) ?_
  refine x_nil ?_
  refine e_S ?_
  refine c_seq ?_
  refine c_seq ?_
  refine c_region ?_
  refine wl (r_mv (v := .slice _ _ _) rfl) ?_
  refine wl (r_len Tryd.underlying45 rfl) ?_
  refine wl (r_mv (v := .slice _ _ _) rfl) ?_
  refine wl (r_len Tryd.underlying45 rfl) ?_
  refine wl (r_neq rfl rfl) ?_
  refine x_nil ?_
  refine e_S ?_
  refine c_ifd rfl (fun c10 => ?_) (fun c10 => ?_)
  · skip
    refine c_seq ?_
    refine c_region ?_
    refine wl (r_as (v := .bool _) rfl) ?_
    refine x_nil ?_
    refine e_S ?_
    refine c_ret ?_
    refine e_Sr ?_
    refine fin1 (.inl rfl) rfl rfl ?_
    exact ⟨ret_bool (decide_eq_false (fun h => c10 (by rw [h]))), hB⟩
  · skip
    refine c_skip ?_
    refine e_S ?_
    refine c_seq ?_
    refine c_seq ?_
    refine c_region ?_
    refine wl (r_mv (v := .slice _ _ _) rfl) ?_
    refine wl (r_len Tryd.underlying45 rfl) ?_
    refine wl (r_mv (v := .int _ _) rfl) ?_
    refine x_nil ?_
    refine e_S ?_
    refine c_block ?_
    refine c_loopS [4, 5, 13, 14, 15, 16, 17, 18, 19, 20, 21, 22, 23, 24, 25] (fun m g w' => ∃ k : Nat, k ≤ xs.length ∧ m = xs.length - k ∧ g 13 = .int .i64 k ∧ Bel w w' ∧ xs.take k = ys.take k) (xs.length) ?_ (fun m g4 w1 hI => ?_)
    · exact ⟨0, Nat.zero_le _, rfl, rfl, hB, rfl⟩
    obtain ⟨k, hk, hm, h13, hB, hE⟩ := hI
    refine c_know 13 (.int .i64 k) h13 (by simp [undef]) ?_
    refine c_seq ?_
    refine c_region ?_
    refine wl (r_lss rfl rfl) ?_
    refine x_nil ?_
    refine e_S ?_
    refine c_seq ?_
    refine c_ifd rfl (fun c14 => ?_) (fun c14 => ?_)
    · have hlt : k < xs.length := by omega
      have hly : k < ys.length := by omega
      obtain ⟨pb, po, rfl, hpb, hpc⟩ := hX.at_ hlt
      obtain ⟨qb, qo, rfl, hqb, hqc⟩ := hY.at_ hly
      refine c_skip ?_
      refine e_S ?_
      refine c_seq ?_
      refine c_block ?_
      refine c_seq ?_
      refine c_region ?_
      refine wl (r_mv (v := .int _ _) rfl) ?_
      refine wl (r_as (v := .int _ _) rfl) ?_
      refine x_nil ?_
      refine e_S ?_
      refine c_seq ?_
      refine c_still (by kernel_rfl) (by kernel_rfl) (fun w2 hs => ?_)
      replace hB := hB.tr0 hs
      clear hs
      refine ws (r_mv (v := .slice _ _ _) rfl) ?_
      refine ws (r_mv (v := .int _ _) rfl) ?_
      refine ws (r_ia (i := k) Tryd.underlying45 sz3 rfl rfl (by omega) rfl) ?_
      refine ws (r_ld1 (v := .int _ _) Tryd.underlying3 rfl rfl (hB.cell hpb hpc)) ?_
      refine ws (r_mv (v := .slice _ _ _) rfl) ?_
      refine ws (r_mv (v := .int _ _) rfl) ?_
      refine ws (r_ia (i := k) Tryd.underlying45 sz3 rfl rfl (by omega) rfl) ?_
      refine ws (r_ld1 (v := .int _ _) Tryd.underlying3 rfl rfl (hB.cell hqb hqc)) ?_
      refine ws (r_neq rfl rfl) ?_
      refine s_nil ?_
      refine e_S ?_
      refine c_ifd rfl (fun c24 => ?_) (fun c24 => ?_)
      · skip
        refine c_seq ?_
        refine c_region ?_
        refine wl (r_as (v := .bool _) rfl) ?_
        refine x_nil ?_
        refine e_S ?_
        refine c_ret ?_
        refine e_Br ?_
        refine e_Sr ?_
        refine e_LSr ?_
        refine e_Br ?_
        refine e_Sr ?_
        refine fin1 (.inl rfl) rfl rfl ?_
        exact ⟨ret_bool (decide_eq_false (fun h => c24 (by subst h; rfl))), hB⟩
      · skip
        refine c_skip ?_
        refine e_B ?_
        refine e_S ?_
        refine c_region ?_
        refine wl (r_add rfl rfl rfl (by omega)) ?_
        refine wl (r_mv (v := .int _ _) rfl) ?_
        refine x_nil ?_
        refine e_LS (xs.length - (k + 1)) (by omega) (by repeat (first | exact ag_refl | exact ag_ovr' | refine ag_upd rfl ?_ | refine ag_sub rfl ?_ | refine ag_kn (by assumption) ?_)) ?_
        exact ⟨k + 1, by omega, rfl, rfl, hB, by rw [List.take_succ_eq_append_getElem hlt, List.take_succ_eq_append_getElem hly, hE, Decidable.not_not.1 c24]⟩
    · have hek : k = xs.length := by omega
      have hfin : xs = ys := by
        rw [hek] at hE
        have e2 : ys.take xs.length = ys := List.take_of_length_le (by omega)
        rw [List.take_length, e2] at hE; exact hE
      refine c_exit ?_
      refine e_Sx ?_
      refine e_LSx ?_
      refine e_Bx ?_
      refine e_S ?_
      refine c_seq ?_
      refine c_region ?_
      refine wl (r_as (v := .bool _) rfl) ?_
      refine x_nil ?_
      refine e_S ?_
      refine c_ret ?_
      refine fin1 (.inl rfl) rfl rfl ?_
      exact ⟨ret_bool (decide_eq_true hfin), hB⟩

theorem two_any (A B : Option Addr) (c d : Nat) (l : List Ty) (fs : List Ft) (a b : Int) (w : World) (hTab : TabIn w) (hT : TypesIn w A l) (hF : FeatsIn w B fs) : Calls Tryd.prog 38 #[.agg #[.slice A l.length c, .slice B fs.length d], .int .i64 a, .int .i64 b] w fun e w' => e = .returned (flV (twoF l fs a b)) ∧ Bel w w' := by
  refine enter Tryd.func38 Tryd.ntmps38 rfl (Nat.le_of_ble_eq_true rfl) ?_
  have hB : Bel w w := Below.refl _ _
  refine c_seq ?_
  refine c_region ?_
  refine wl_bx (v := .agg #[_, _]) (cs := #[_, _]) rfl rfl (fun b3 w1 hb3 hs hr => ?_)
  have lo3 := Nat.le_trans (Bel.size hB) hr
  replace hB := hB.tr0 hs
  clear hs
  clear hr
  refine wl_al (cs := #[.int .i64 0, .int .i64 0]) ze27 rfl (fun b6 w2 hb6 hs hr => ?_)
  have or_b3_b6 : b3 < b6 := Nat.lt_of_lt_of_le hb3.lt hr
  have lo6 := Nat.le_trans (Bel.size hB) hr
  replace hB := hB.tr0 hs
  replace hb3 := hb3.tr0 hs
  clear hs
  clear hr
  refine x_nil ?_
  refine e_S ?_
  refine c_seq ?_
  refine c_seq ?_
  refine c_region ?_
  refine wl (r_ldS Tryd.underlying25 rfl rfl hb3.range0 sz25) ?_
  refine wl_cl fn7 (validate_any A B c d l fs _ (hTab.mono hB) (hT.mono hB) (hF.mono hB)) rfl (fun e' w3 hr => ?_)
  obtain ⟨rfl, hs⟩ := hr
  replace hs := Same.of_bel hs
  replace hB := hB.tr0 hs
  replace hb3 := hb3.tr0 hs
  replace hb6 := hb6.tr0 hs
  clear hs
  refine ⟨_, rfl, ?_⟩
  refine wl_al (cs := #[.int .i64 0, .int .i64 0]) ze27 rfl (fun b7 w4 hb7 hs hr => ?_)
  have or_b3_b7 : b3 < b7 := Nat.lt_of_lt_of_le hb3.lt hr
  have or_b6_b7 : b6 < b7 := Nat.lt_of_lt_of_le hb6.lt hr
  have lo7 := Nat.le_trans (Bel.size hB) hr
  replace hB := hB.tr0 hs
  replace hb3 := hb3.tr0 hs
  replace hb6 := hb6.tr0 hs
  clear hs
  clear hr
  refine wl_stW hb7 rfl rfl sz27 rfl (by repeat (first | rfl | refine one_cons (by first | rfl | assumption) ?_)) (fun w5 hq hs => ?_)
  replace hB := hB.tr1 hs lo7
  replace hb3 := hb3.tr1 hs (by omega)
  replace hb6 := hb6.tr1 hs (by omega)
  clear hs
  replace hb7 := hq
  refine x_nil ?_
  refine e_S ?_
  refine c_seq ?_
  refine c_region ?_
  refine wl (r_fa Tryd.underlying27 sz3 (by decide) rfl rfl rfl) ?_
  refine wl (r_ld1 (v := .int _ _) Tryd.underlying3 rfl rfl (hb7.cell rfl)) ?_
  refine wl (r_neq rfl rfl) ?_
  refine x_nil ?_
  refine e_S ?_
  refine c_ifd rfl (fun c14 => ?_) (fun c14 => ?_)
  · skip
    refine c_seq ?_
    refine c_region ?_
    refine wl (r_ldS Tryd.underlying27 rfl rfl hb7.range0 sz27) ?_
    refine wl_stW hb6 rfl rfl sz27 rfl (by repeat (first | rfl | refine one_cons (by first | rfl | assumption) ?_)) (fun w6 hq hs => ?_)
    replace hB := hB.tr1 hs lo6
    replace hb3 := hb3.tr1 hs (by omega)
    replace hb7 := hb7.tr1 hs (by omega)
    clear hs
    replace hb6 := hq
    refine x_nil ?_
    refine e_S ?_
    refine c_ret ?_
    refine e_Sr ?_
    refine fin1 (.inl rfl) rfl (rr_cell Tryd.underlying27 rfl rfl hb6.range0 sz27) ?_
    exact ⟨ret_fl (two_fault c14), hB⟩
  · have hf0 := Decidable.not_not.1 c14
    refine c_skip ?_
    refine e_S ?_
    refine c_seq ?_
    refine c_seq ?_
    refine c_region ?_
    refine wl (r_mv (v := .int _ _) rfl) ?_
    refine wl (r_mv (v := .int _ _) rfl) ?_
    refine wl_bs (cs := #[_, _]) [(0, .int _ _), (1, .int _ _)] rfl Tryd.underlying45 sz3 ze3 (by decide) (by decide) (by kernel_rfl) rfl (fun b18 w7 hb18 hs hr => ?_)
    have or_b3_b18 : b3 < b18 := Nat.lt_of_lt_of_le hb3.lt hr
    have or_b6_b18 : b6 < b18 := Nat.lt_of_lt_of_le hb6.lt hr
    have or_b7_b18 : b7 < b18 := Nat.lt_of_lt_of_le hb7.lt hr
    have lo18 := Nat.le_trans (Bel.size hB) hr
    replace hB := hB.tr0 hs
    replace hb3 := hb3.tr0 hs
    replace hb6 := hb6.tr0 hs
    replace hb7 := hb7.tr0 hs
    clear hs
    clear hr
    refine wl (r_len Tryd.underlying45 rfl) ?_
    refine wl (r_mv (v := .int _ _) rfl) ?_
    refine x_nil ?_
    refine e_S ?_
    refine c_block ?_
    refine c_loopS [8, 9, 20, 21, 22, 23, 24, 25, 26, 27, 28, 29, 30, 31, 32, 33, 34, 35, 36, 37] (fun m g w' => ∃ k : Nat, k ≤ 2 ∧ m = 2 - k ∧ g 20 = .int .i64 k ∧ Bel w w' ∧ Blk w' b3 25 #[.slice A l.length c, .slice B fs.length d] ∧ Blk w' b6 27 #[.int .i64 0, .int .i64 0] ∧ Blk w' b18 3 #[.int .i64 a, .int .i64 b] ∧ (1 ≤ k → ¬ (a < 0 ∨ (l.length : Int) ≤ a)) ∧ (2 ≤ k → ¬ (b < 0 ∨ (l.length : Int) ≤ b))) (2) ?_ (fun m g5 w8 hI => ?_)
    · exact ⟨0, Nat.zero_le _, rfl, rfl, hB, hb3, hb6, hb18, fun h => by omega, fun h => by omega⟩
    obtain ⟨k, hk, hm, h20, hB, hb3, hb6, hb18, hka, hkb⟩ := hI
    refine c_know 20 (.int .i64 k) h20 (by simp [undef]) ?_
    refine c_seq ?_
    refine c_region ?_
    refine wl (r_lss rfl rfl) ?_
    refine x_nil ?_
    refine e_S ?_
    refine c_seq ?_
    refine c_ifd rfl (fun c21 => ?_) (fun c21 => ?_)
    · have hk2 : k < 2 := by omega
      obtain ⟨z, hz0, hz1, hzc⟩ : ∃ z : Int, (k = 0 → z = a) ∧ (k = 1 → z = b) ∧ (#[Value.int .i64 a, .int .i64 b] : Array Value)[0 + k * 1]? = some (.int .i64 z) := by
        match k, hk2 with
        | 0, _ => exact ⟨a, fun _ => rfl, fun h => by omega, rfl⟩
        | 1, _ => exact ⟨b, fun h => by omega, fun _ => rfl, rfl⟩
      refine c_skip ?_
      refine e_S ?_
      refine c_seq ?_
      refine c_block ?_
      refine c_seq ?_
      refine c_region ?_
      refine wl (r_mv (v := .int _ _) rfl) ?_
      refine wl (r_ia (i := k) Tryd.underlying45 sz3 rfl rfl hk2 rfl) ?_
      refine wl (r_ld1 (v := .int _ _) Tryd.underlying3 rfl rfl (hb18.cell hzc)) ?_
      refine wl (r_as (v := .int _ _) rfl) ?_
      refine wl (r_as (v := .int _ _) rfl) ?_
      refine x_nil ?_
      refine e_S ?_
      refine c_seq ?_
      refine c_cut1 [25, 26, 27, 28, 29, 30, 31, 32, 33] 33 (.bool (decide (z < 0 ∨ (l.length : Int) ≤ z))) (by simp [undef]) ?_ (fun gq => ?_)
      · refine c_region ?_
        refine wl (r_mv (v := .int _ _) rfl) ?_
        refine wl (r_lss rfl rfl) ?_
        refine wl (r_mv (v := .bool _) rfl) ?_
        refine wl_casesd 27 rfl (fun g27 => ?_) (fun g27 => ?_)
        · skip
          refine wlgn 27 rfl rfl rfl ?_
          refine wlgn 27 rfl rfl rfl ?_
          refine wlgn 27 rfl rfl rfl ?_
          refine wlgn 27 rfl rfl rfl ?_
          refine wlgn 27 rfl rfl rfl ?_
          refine wl (r_pt (v := .bool _) rfl rfl) ?_
          refine x_nil (e_R ⟨rfl, (by repeat (first | exact ag_refl | exact ag_ovr' | refine ag_upd rfl ?_ | refine ag_sub rfl ?_ | refine ag_kn (by assumption) ?_)), ?_⟩)
          show Value.bool _ = Value.bool _
          first | exact congrArg Value.bool (decide_eq_true (by omega)).symm | exact congrArg Value.bool (decide_eq_false (by omega)).symm | exact congrArg Value.bool (decide_eq_decide.2 (by omega)) | exact congrArg Value.bool ((decide_not).symm.trans (decide_eq_decide.2 (by omega)))
        · skip
          refine wl_gd 27 rfl rfl ?_
          refine wl (r_mv (v := .int _ _) rfl) ?_
          refine wl_gd 27 rfl rfl ?_
          refine wl (r_fa Tryd.underlying25 sz22 (by decide) rfl rfl rfl) ?_
          refine wl_gd 27 rfl rfl ?_
          refine wl (r_ld1 (v := .slice _ _ _) Tryd.underlying22 rfl rfl (hb3.cell rfl)) ?_
          refine wl_gd 27 rfl rfl ?_
          refine wl (r_len Tryd.underlying22 rfl) ?_
          refine wl_gd 27 rfl rfl ?_
          refine wl (r_geq rfl rfl) ?_
          refine wl (r_pf (v := .bool _) rfl rfl) ?_
          refine x_nil (e_R ⟨rfl, (by repeat (first | exact ag_refl | exact ag_ovr' | refine ag_upd rfl ?_ | refine ag_sub rfl ?_ | refine ag_kn (by assumption) ?_)), ?_⟩)
          show Value.bool _ = Value.bool _
          first | exact congrArg Value.bool (decide_eq_true (by omega)).symm | exact congrArg Value.bool (decide_eq_false (by omega)).symm | exact congrArg Value.bool (decide_eq_decide.2 (by omega)) | exact congrArg Value.bool ((decide_not).symm.trans (decide_eq_decide.2 (by omega)))
      refine e_S ?_
      refine c_ifd rfl (fun c33 => ?_) (fun c33 => ?_)
      · skip
        refine c_seq ?_
        refine c_region ?_
        refine wl (r_mv (v := .int _ _) rfl) ?_
        refine wl (r_sub rfl rfl rfl (by omega)) ?_
        refine wl_cl fn19 (fault_any _ _ _) rfl (fun e' w9 hr => ?_)
        obtain ⟨rfl, hs⟩ := hr
        replace hs := Same.of_bel hs
        replace hB := hB.tr0 hs
        replace hb3 := hb3.tr0 hs
        replace hb6 := hb6.tr0 hs
        replace hb18 := hb18.tr0 hs
        clear hs
        refine ⟨_, rfl, ?_⟩
        refine wl_stW hb6 rfl rfl sz27 rfl (by repeat (first | rfl | refine one_cons (by first | rfl | assumption) ?_)) (fun w10 hq hs => ?_)
        replace hB := hB.tr1 hs lo6
        replace hb3 := hb3.tr1 hs (by omega)
        replace hb18 := hb18.tr1 hs (by omega)
        clear hs
        replace hb6 := hq
        refine x_nil ?_
        refine e_S ?_
        refine c_ret ?_
        refine e_Br ?_
        refine e_Sr ?_
        refine e_LSr ?_
        refine e_Br ?_
        refine e_Sr ?_
        refine fin1 (.inl rfl) rfl (rr_cell Tryd.underlying27 rfl rfl hb6.range0 sz27) ?_
        refine ⟨ret_fl ?_, hB⟩
        match k, hk2 with
        | 0, _ => rw [hz0 rfl] at c33; exact two_a hf0 c33
        | 1, _ => rw [hz1 rfl] at c33; exact two_b hf0 (hka (by omega)) c33
      · skip
        refine c_skip ?_
        refine e_B ?_
        refine e_S ?_
        refine c_region ?_
        refine wl (r_add rfl rfl rfl (by omega)) ?_
        refine wl (r_mv (v := .int _ _) rfl) ?_
        refine x_nil ?_
        refine e_LS (2 - (k + 1)) (by omega) (by repeat (first | exact ag_refl | exact ag_ovr' | refine ag_upd rfl ?_ | refine ag_sub rfl ?_ | refine ag_kn (by assumption) ?_)) ?_
        exact ⟨k + 1, by omega, rfl, rfl, hB, hb3, hb6, hb18, fun h => by omega, fun h => by omega⟩
    · have hk2 : k = 2 := by omega
      refine c_exit ?_
      refine e_Sx ?_
      refine e_LSx ?_
      refine e_Bx ?_
      refine e_S ?_
      refine c_seq ?_
      refine c_region ?_
      refine wl (r_bd (vs := #[]) (cs := #[.int .i64 0, .int .i64 0]) (by simp) (by kernel_rfl)) ?_
      refine wl_stW hb6 rfl rfl sz27 rfl (by repeat (first | rfl | refine one_cons (by first | rfl | assumption) ?_)) (fun w11 hq hs => ?_)
      replace hB := hB.tr1 hs lo6
      replace hb3 := hb3.tr1 hs (by omega)
      replace hb18 := hb18.tr1 hs (by omega)
      clear hs
      replace hb6 := hq
      refine x_nil ?_
      refine e_S ?_
      refine c_ret ?_
      refine fin1 (.inl rfl) rfl (rr_cell Tryd.underlying27 rfl rfl hb6.range0 sz27) ?_
      exact ⟨ret_fl (two_zero hf0 (hka (by omega)) (hkb (by omega))), hB⟩

theorem hmeet_any (A B : Option Addr) (c d : Nat) (l : List Ty) (fs : List Ft) (a b : Int) (w : World) (hTab : TabIn w) (hT : TypesIn w A l) (hF : FeatsIn w B fs) : Calls Tryd.prog 11 #[.agg #[.slice A l.length c, .slice B fs.length d], .int .i64 a, .int .i64 b] w fun e w' => e = .returned (.tuple #[.int .i64 (hmeet l fs a b).1, .bool (hmeet l fs a b).2, flV (twoF l fs a b)]) ∧ Bel w w' := by
  refine enter Tryd.func11 Tryd.ntmps11 rfl (Nat.le_of_ble_eq_true rfl) ?_
  have hB : Bel w w := Below.refl _ _
  refine c_seq ?_
  refine c_region ?_
  refine wl_bx (v := .agg #[_, _]) (cs := #[_, _]) rfl rfl (fun b3 w1 hb3 hs hr => ?_)
  have lo3 := Nat.le_trans (Bel.size hB) hr
  replace hB := hB.tr0 hs
  clear hs
  clear hr
  refine wl (r_as (v := .int _ _) rfl) ?_
  refine wl (r_as (v := .bool _) rfl) ?_
  refine wl_al (cs := #[.int .i64 0, .int .i64 0]) ze27 rfl (fun b8 w2 hb8 hs hr => ?_)
  have or_b3_b8 : b3 < b8 := Nat.lt_of_lt_of_le hb3.lt hr
  have lo8 := Nat.le_trans (Bel.size hB) hr
  replace hB := hB.tr0 hs
  replace hb3 := hb3.tr0 hs
  clear hs
  clear hr
  refine x_nil ?_
  refine e_S ?_
  refine c_seq ?_
  refine c_seq ?_
  refine c_region ?_
  refine wl (r_ldS Tryd.underlying25 rfl rfl hb3.range0 sz25) ?_
  refine wl (r_mv (v := .int _ _) rfl) ?_
  refine wl (r_mv (v := .int _ _) rfl) ?_
  refine wl_cl fn38 (two_any A B c d l fs a b _ (hTab.mono hB) (hT.mono hB) (hF.mono hB)) rfl (fun e' w3 hr => ?_)
  obtain ⟨rfl, hs⟩ := hr
  replace hs := Same.of_bel hs
  replace hB := hB.tr0 hs
  replace hb3 := hb3.tr0 hs
  replace hb8 := hb8.tr0 hs
  clear hs
  refine ⟨_, rfl, ?_⟩
  refine wl_al (cs := #[.int .i64 0, .int .i64 0]) ze27 rfl (fun b9 w4 hb9 hs hr => ?_)
  have or_b3_b9 : b3 < b9 := Nat.lt_of_lt_of_le hb3.lt hr
  have or_b8_b9 : b8 < b9 := Nat.lt_of_lt_of_le hb8.lt hr
  have lo9 := Nat.le_trans (Bel.size hB) hr
  replace hB := hB.tr0 hs
  replace hb3 := hb3.tr0 hs
  replace hb8 := hb8.tr0 hs
  clear hs
  clear hr
  refine wl_stW hb9 rfl rfl sz27 rfl (by repeat (first | rfl | refine one_cons (by first | rfl | assumption) ?_)) (fun w5 hq hs => ?_)
  replace hB := hB.tr1 hs lo9
  replace hb3 := hb3.tr1 hs (by omega)
  replace hb8 := hb8.tr1 hs (by omega)
  clear hs
  replace hb9 := hq
  refine x_nil ?_
  refine e_S ?_
  refine c_seq ?_
  refine c_region ?_
  refine wl (r_fa Tryd.underlying27 sz3 (by decide) rfl rfl rfl) ?_
  refine wl (r_ld1 (v := .int _ _) Tryd.underlying3 rfl rfl (hb9.cell rfl)) ?_
  refine wl (r_neq rfl rfl) ?_
  refine x_nil ?_
  refine e_S ?_
  refine c_ifd rfl (fun c19 => ?_) (fun c19 => ?_)
  · skip
    refine c_seq ?_
    refine c_tail 3 (by kernel_rfl) (by kernel_rfl) (fun w6 hs => ?_)
    replace hB := hB.tr0 hs
    replace hb3 := hb3.tr0 hs
    replace hb8 := hb8.tr0 hs
    replace hb9 := hb9.tr0 hs
    clear hs
    refine ws (r_ldS Tryd.underlying27 rfl rfl hb9.range0 sz27) ?_
    refine ws (r_as (v := .int _ _) rfl) ?_
    refine ws (r_as (v := .bool _) rfl) ?_
    refine s_tail ?_
    refine wl_stW hb8 rfl rfl sz27 rfl (by repeat (first | rfl | refine one_cons (by first | rfl | assumption) ?_)) (fun w7 hq hs => ?_)
    replace hB := hB.tr1 hs lo8
    replace hb3 := hb3.tr1 hs (by omega)
    replace hb9 := hb9.tr1 hs (by omega)
    clear hs
    replace hb8 := hq
    refine x_nil ?_
    refine e_S ?_
    refine c_ret ?_
    refine e_Sr ?_
    refine fin3 (.inl rfl) rfl rfl rfl (rr_cell Tryd.underlying27 rfl rfl hb8.range0 sz27) ?_
    refine ⟨?_, hB⟩
    unfold hmeet
    rw [if_pos c19]
    rfl
  · have hk := two_ok (Decidable.not_not.1 c19)
    have hS := hk.s
    have hal := hk.al
    have hbl := hk.bl
    have hz := hk.z
    obtain ⟨an, rfl⟩ := Int.eq_ofNat_of_zero_le hk.a0
    obtain ⟨bn, rfl⟩ := Int.eq_ofNat_of_zero_le hk.b0
    refine c_skip ?_
    refine e_S ?_
    refine c_seq ?_
    refine c_region ?_
    refine wl (r_fa Tryd.underlying25 sz22 (by decide) rfl rfl rfl) ?_
    refine wl (r_ld1 (v := .slice _ _ _) Tryd.underlying22 rfl rfl (hb3.cell rfl)) ?_
    refine wl_cl fn21 (tables_any _ _ _ _ (hT.mono hB) hS.vt hS.le) rfl (fun e' w8 hr => ?_)
    obtain ⟨bu, bd, rfl, hTI, hs⟩ := hr
    replace hs := Same.of_bel hs
    replace hB := hB.tr0 hs
    replace hb3 := hb3.tr0 hs
    replace hb8 := hb8.tr0 hs
    replace hb9 := hb9.tr0 hs
    clear hs
    refine ⟨_, rfl, ?_⟩
    refine wl (r_mv (v := .int _ _) rfl) ?_
    refine wl (r_mv (v := .int _ _) rfl) ?_
    refine wl_cl fn22 (meet_any l bu bd an bn _ (hTab.mono hB) hTI hS.vt hS.le (by omega) (by omega)) rfl (fun e' w9 hr => ?_)
    obtain ⟨rfl, hs⟩ := hr
    replace hs := Same.of_bel hs
    replace hB := hB.tr0 hs
    replace hb3 := hb3.tr0 hs
    replace hb8 := hb8.tr0 hs
    replace hb9 := hb9.tr0 hs
    clear hs
    refine ⟨_, rfl, ?_⟩
    refine wl (r_mv (v := .tuple _) rfl) ?_
    refine wl (r_ex (v := .int _ _) rfl rfl) ?_
    refine wl (r_ex (v := .bool _) rfl rfl) ?_
    refine wl (r_ex (v := .bool _) rfl rfl) ?_
    refine wl (r_as (v := .int _ _) rfl) ?_
    refine wl (r_as (v := .bool _) rfl) ?_
    refine wl (r_as (v := .bool _) rfl) ?_
    refine x_nil ?_
    refine e_S ?_
    refine c_seq ?_
    refine c_region ?_
    refine wl (r_mv (v := .int _ _) rfl) ?_
    refine wl (r_mv (v := .bool _) rfl) ?_
    refine wl (r_bd (vs := #[]) (cs := #[.int .i64 0, .int .i64 0]) (by simp) (by kernel_rfl)) ?_
    refine wl (r_as (v := .int _ _) rfl) ?_
    refine wl (r_as (v := .bool _) rfl) ?_
    refine wl_stW hb8 rfl rfl sz27 rfl (by repeat (first | rfl | refine one_cons (by first | rfl | assumption) ?_)) (fun w10 hq hs => ?_)
    replace hB := hB.tr1 hs lo8
    replace hb3 := hb3.tr1 hs (by omega)
    replace hb9 := hb9.tr1 hs (by omega)
    clear hs
    replace hb8 := hq
    refine x_nil ?_
    refine e_S ?_
    refine c_ret ?_
    refine fin3 (.inl rfl) rfl rfl rfl (rr_cell Tryd.underlying27 rfl rfl hb8.range0 sz27) ?_
    refine ⟨?_, hB⟩
    unfold hmeet
    rw [if_neg c19, hz]
    rfl

theorem hsub_any (A B : Option Addr) (c d : Nat) (l : List Ty) (fs : List Ft) (a b : Int) (w : World) (hTab : TabIn w) (hT : TypesIn w A l) (hF : FeatsIn w B fs) : Calls Tryd.prog 13 #[.agg #[.slice A l.length c, .slice B fs.length d], .int .i64 a, .int .i64 b] w fun e w' => e = .returned (.tuple #[.bool (hsub l fs a b), flV (twoF l fs a b)]) ∧ Bel w w' := by
  refine enter Tryd.func13 Tryd.ntmps13 rfl (Nat.le_of_ble_eq_true rfl) ?_
  have hB : Bel w w := Below.refl _ _
  refine c_seq ?_
  refine c_region ?_
  refine wl_bx (v := .agg #[_, _]) (cs := #[_, _]) rfl rfl (fun b3 w1 hb3 hs hr => ?_)
  have lo3 := Nat.le_trans (Bel.size hB) hr
  replace hB := hB.tr0 hs
  clear hs
  clear hr
  refine wl (r_as (v := .bool _) rfl) ?_
  refine wl_al (cs := #[.int .i64 0, .int .i64 0]) ze27 rfl (fun b7 w2 hb7 hs hr => ?_)
  have or_b3_b7 : b3 < b7 := Nat.lt_of_lt_of_le hb3.lt hr
  have lo7 := Nat.le_trans (Bel.size hB) hr
  replace hB := hB.tr0 hs
  replace hb3 := hb3.tr0 hs
  clear hs
  clear hr
  refine x_nil ?_
  refine e_S ?_
  refine c_seq ?_
  refine c_seq ?_
  refine c_region ?_
  refine wl (r_ldS Tryd.underlying25 rfl rfl hb3.range0 sz25) ?_
  refine wl (r_mv (v := .int _ _) rfl) ?_
  refine wl (r_mv (v := .int _ _) rfl) ?_
  refine wl_cl fn38 (two_any A B c d l fs a b _ (hTab.mono hB) (hT.mono hB) (hF.mono hB)) rfl (fun e' w3 hr => ?_)
  obtain ⟨rfl, hs⟩ := hr
  replace hs := Same.of_bel hs
  replace hB := hB.tr0 hs
  replace hb3 := hb3.tr0 hs
  replace hb7 := hb7.tr0 hs
  clear hs
  refine ⟨_, rfl, ?_⟩
  refine wl_al (cs := #[.int .i64 0, .int .i64 0]) ze27 rfl (fun b8 w4 hb8 hs hr => ?_)
  have or_b3_b8 : b3 < b8 := Nat.lt_of_lt_of_le hb3.lt hr
  have or_b7_b8 : b7 < b8 := Nat.lt_of_lt_of_le hb7.lt hr
  have lo8 := Nat.le_trans (Bel.size hB) hr
  replace hB := hB.tr0 hs
  replace hb3 := hb3.tr0 hs
  replace hb7 := hb7.tr0 hs
  clear hs
  clear hr
  refine wl_stW hb8 rfl rfl sz27 rfl (by repeat (first | rfl | refine one_cons (by first | rfl | assumption) ?_)) (fun w5 hq hs => ?_)
  replace hB := hB.tr1 hs lo8
  replace hb3 := hb3.tr1 hs (by omega)
  replace hb7 := hb7.tr1 hs (by omega)
  clear hs
  replace hb8 := hq
  refine x_nil ?_
  refine e_S ?_
  refine c_seq ?_
  refine c_region ?_
  refine wl (r_fa Tryd.underlying27 sz3 (by decide) rfl rfl rfl) ?_
  refine wl (r_ld1 (v := .int _ _) Tryd.underlying3 rfl rfl (hb8.cell rfl)) ?_
  refine wl (r_neq rfl rfl) ?_
  refine x_nil ?_
  refine e_S ?_
  refine c_ifd rfl (fun c15 => ?_) (fun c15 => ?_)
  · skip
    refine c_seq ?_
    refine c_tail 2 (by kernel_rfl) (by kernel_rfl) (fun w6 hs => ?_)
    replace hB := hB.tr0 hs
    replace hb3 := hb3.tr0 hs
    replace hb7 := hb7.tr0 hs
    replace hb8 := hb8.tr0 hs
    clear hs
    refine ws (r_ldS Tryd.underlying27 rfl rfl hb8.range0 sz27) ?_
    refine ws (r_as (v := .bool _) rfl) ?_
    refine s_tail ?_
    refine wl_stW hb7 rfl rfl sz27 rfl (by repeat (first | rfl | refine one_cons (by first | rfl | assumption) ?_)) (fun w7 hq hs => ?_)
    replace hB := hB.tr1 hs lo7
    replace hb3 := hb3.tr1 hs (by omega)
    replace hb8 := hb8.tr1 hs (by omega)
    clear hs
    replace hb7 := hq
    refine x_nil ?_
    refine e_S ?_
    refine c_ret ?_
    refine e_Sr ?_
    refine fin2 (.inl rfl) rfl rfl (rr_cell Tryd.underlying27 rfl rfl hb7.range0 sz27) ?_
    refine ⟨?_, hB⟩
    unfold hsub
    rw [if_pos c15]
    rfl
  · have hk := two_ok (Decidable.not_not.1 c15)
    have hS := hk.s
    have hal := hk.al
    have hbl := hk.bl
    have hz := hk.z
    obtain ⟨an, rfl⟩ := Int.eq_ofNat_of_zero_le hk.a0
    obtain ⟨bn, rfl⟩ := Int.eq_ofNat_of_zero_le hk.b0
    refine c_skip ?_
    refine e_S ?_
    refine c_seq ?_
    refine c_region ?_
    refine wl (r_fa Tryd.underlying25 sz22 (by decide) rfl rfl rfl) ?_
    refine wl (r_ld1 (v := .slice _ _ _) Tryd.underlying22 rfl rfl (hb3.cell rfl)) ?_
    refine wl_cl fn21 (tables_any _ _ _ _ (hT.mono hB) hS.vt hS.le) rfl (fun e' w8 hr => ?_)
    obtain ⟨bu, bd, rfl, hTI, hs⟩ := hr
    replace hs := Same.of_bel hs
    replace hB := hB.tr0 hs
    replace hb3 := hb3.tr0 hs
    replace hb7 := hb7.tr0 hs
    replace hb8 := hb8.tr0 hs
    clear hs
    refine ⟨_, rfl, ?_⟩
    refine wl (r_mv (v := .int _ _) rfl) ?_
    refine wl (r_mv (v := .int _ _) rfl) ?_
    refine wl_cl fn39 (tsub_any l bu bd an bn _ hTI hS.le (by omega) (by omega)) rfl (fun e' w9 hr => ?_)
    obtain ⟨rfl, hs⟩ := hr
    replace hs := Same.of_bel hs
    replace hB := hB.tr0 hs
    replace hb3 := hb3.tr0 hs
    replace hb7 := hb7.tr0 hs
    replace hb8 := hb8.tr0 hs
    clear hs
    refine ⟨_, rfl, ?_⟩
    refine wl (r_bd (vs := #[]) (cs := #[.int .i64 0, .int .i64 0]) (by simp) (by kernel_rfl)) ?_
    refine wl (r_as (v := .bool _) rfl) ?_
    refine wl_stW hb7 rfl rfl sz27 rfl (by repeat (first | rfl | refine one_cons (by first | rfl | assumption) ?_)) (fun w10 hq hs => ?_)
    replace hB := hB.tr1 hs lo7
    replace hb3 := hb3.tr1 hs (by omega)
    replace hb8 := hb8.tr1 hs (by omega)
    clear hs
    replace hb7 := hq
    refine x_nil ?_
    refine e_S ?_
    refine c_ret ?_
    refine fin2 (.inl rfl) rfl rfl (rr_cell Tryd.underlying27 rfl rfl hb7.range0 sz27) ?_
    refine ⟨?_, hB⟩
    unfold hsub
    rw [if_neg c15, hz]
    rfl

theorem least_any (l : List Ty) (bu bd a b : Nat) (w : World) (hTab : TabIn w) (hI : TableIn w l bu bd) (hv : VT l) (h60 : l.length ≤ 60) (ha : a < l.length) (hb : b < l.length) : Calls Tryd.prog 40 #[tabV l.length bu bd, .int .i64 a, .int .i64 b] w fun e w' => (∃ A cap, e = .returned (.slice A (joinsK l a b l.length).length cap) ∧ Own w' w.heap.size 3 1 A (joinsK l a b l.length).length cap ((joinsK l a b l.length).map (Value.int .i64))) ∧ Bel w w' := by
  have hca := upN_lt h60 a
  have hcb := upN_lt h60 b
  have hcc := mask_lt64 (capB l a b) h60
  refine enter Tryd.func40 Tryd.ntmps40 rfl (Nat.le_of_ble_eq_true rfl) ?_
  have hB : Bel w w := Below.refl _ _
  refine c_seq ?_
  refine c_region ?_
  refine wl_bx (v := .agg #[_, _]) (cs := #[_, _]) rfl rfl (fun b3 w1 hb3 hs hr => ?_)
  have lo3 := Nat.le_trans (Bel.size hB) hr
  replace hB := hB.tr0 hs
  clear hs
  clear hr
  refine wl (r_as (v := .slice _ _ _) rfl) ?_
  refine x_nil ?_
  refine e_S ?_
  refine c_seq ?_
  refine c_still (by kernel_rfl) (by kernel_rfl) (fun w2 hs => ?_)
  replace hB := hB.tr0 hs
  replace hb3 := hb3.tr0 hs
  clear hs
  refine ws (r_fa Tryd.underlying58 sz56 (by decide) rfl rfl rfl) ?_
  refine ws (r_ld1 (v := .slice _ _ _) Tryd.underlying56 rfl rfl (hb3.cell rfl)) ?_
  refine ws (r_mv (v := .int _ _) rfl) ?_
  refine ws (r_ia (i := a) Tryd.underlying56 sz96 rfl rfl (by omega) rfl) ?_
  refine ws (r_ld1 (v := .int _ _) Tryd.underlying96 rfl rfl ((hI.mono hB).up ha)) ?_
  refine ws (r_fa Tryd.underlying58 sz56 (by decide) rfl rfl rfl) ?_
  refine ws (r_ld1 (v := .slice _ _ _) Tryd.underlying56 rfl rfl (hb3.cell rfl)) ?_
  refine ws (r_mv (v := .int _ _) rfl) ?_
  refine ws (r_ia (i := b) Tryd.underlying56 sz96 rfl rfl (by omega) rfl) ?_
  refine ws (r_ld1 (v := .int _ _) Tryd.underlying96 rfl rfl ((hI.mono hB).up hb)) ?_
  refine ws (r_andU rfl rfl hca hcb) ?_
  refine ws (r_as (v := .int .u64 (mask (capB l a b) l.length : Nat)) (congrArg (fun z : Nat => Value.int .u64 (z : Int)) (cap_and l a b))) ?_
  refine s_nil ?_
  refine e_S ?_
  refine c_seq ?_
  refine c_region ?_
  refine wl (r_as (v := .slice _ _ _) rfl) ?_
  refine x_nil ?_
  refine e_S ?_
  refine c_seq ?_
  refine c_seq ?_
  refine c_region ?_
  refine wl (r_mv (v := .int _ _) rfl) ?_
  refine wl (r_as (v := .int _ _) rfl) ?_
  refine x_nil ?_
  refine e_S ?_
  refine c_block ?_
  refine c_loopS [8, 9, 10, 23, 24, 25, 26, 27, 28, 29, 30, 31, 32, 33, 34, 35, 36, 37, 38, 39, 40, 41, 42, 43, 44] (fun m g w' => ∃ (k : Nat) (A8 : Option Addr) (cap8 : Nat) (xs : List Int), k ≤ l.length ∧ m = l.length - k ∧ g 9 = .int .u64 (restN l a b k : Nat) ∧ g 8 = .slice A8 xs.length cap8 ∧ xs = joinsK l a b k ∧ Bel w w' ∧ Blk w' b3 58 #[.slice (some ⟨bu, 0, none⟩) l.length l.length, .slice (some ⟨bd, 0, none⟩) l.length l.length] ∧ Own w' (b3 + 1) 3 1 A8 (xs).length cap8 ((xs).map (Value.int .i64))) (l.length) ?_ (fun m g4 w3 hI => ?_)
  · exact ⟨0, none, 0, [], Nat.zero_le _, rfl, congrArg (fun z : Nat => Value.int .u64 (z : Int)) (restN_zero l a b).symm, rfl, rfl, hB, hb3, Own.nil _ _ _ _⟩
  obtain ⟨k, A8, cap8, xs, hk, hm, h9, h8, hxs, hB, hb3, ho⟩ := hI
  refine c_know 9 (.int .u64 (restN l a b k : Nat)) h9 (by simp [undef]) ?_
  refine c_know 8 (.slice A8 xs.length cap8) h8 (by simp [undef]) ?_
  refine c_seq ?_
  refine c_seq ?_
  refine c_region ?_
  refine wl (r_mv (v := .int _ _) rfl) ?_
  refine wl (r_neq rfl rfl) ?_
  refine x_nil ?_
  refine e_S ?_
  refine c_ifd rfl (fun c24 => ?_) (fun c24 => ?_)
  · have hne : restN l a b k ≠ 0 := fun h => c24 (by rw [h]; rfl)
    have hr := rest_at h60 hne
    have hrl := restN_lt h60 a b k
    have hxl := joinsK_le l a b k
    rw [← hxs] at hxl
    obtain ⟨i, hi⟩ : ∃ i, i = Lib.ctz 64 (restN l a b k) := ⟨_, rfl⟩
    rw [← hi] at hr
    have hil := hr.lt
    have hki := hr.le
    refine c_skip ?_
    refine e_S ?_
    refine c_seq ?_
    refine c_block ?_
    refine c_seq ?_
    refine c_region ?_
    refine wl (r_mv (v := .int _ _) rfl) ?_
    refine wl_cl fn41 (tz_any _ _ hne hrl (hTab.mono hB)) rfl (fun e' w4 hr => ?_)
    obtain ⟨rfl, rfl⟩ := hr
    refine ⟨_, rfl, ?_⟩
    refine wl (r_as (v := .int .i64 (i : Nat)) (congrArg (fun z : Nat => Value.int .i64 (z : Int)) hi.symm)) ?_
    refine x_nil ?_
    refine e_S ?_
    refine c_seq ?_
    refine c_still (by kernel_rfl) (by kernel_rfl) (fun w5 hs => ?_)
    replace hB := hB.tr0 hs
    replace hb3 := hb3.tr0 hs
    replace ho := ho.tr0 hs
    clear hs
    refine ws (r_fa Tryd.underlying58 sz56 (by decide) rfl rfl rfl) ?_
    refine ws (r_ld1 (v := .slice _ _ _) Tryd.underlying56 rfl rfl (hb3.cell rfl)) ?_
    refine ws (r_mv (v := .int _ _) rfl) ?_
    refine ws (r_ia (i := i) Tryd.underlying56 sz96 rfl rfl hil rfl) ?_
    refine ws (r_ld1 (v := .int _ _) Tryd.underlying96 rfl rfl ((hI.mono hB).down hil)) ?_
    refine ws (r_mv (v := .int _ _) rfl) ?_
    refine ws (r_andU rfl rfl (downN_lt h60 i) hcc) ?_
    refine ws (r_mv (v := .int _ _) rfl) ?_
    refine ws (r_shl1 rfl rfl (by omega) rfl) ?_
    refine ws (r_eql rfl rfl) ?_
    refine s_nil ?_
    refine e_S ?_
    refine c_ifd rfl (fun c40 => ?_) (fun c40 => ?_)
    · have hjk := rest_yes hr ((join_test hv hil hr.cap).1 (Int.ofNat_inj.1 c40))
      refine c_region ?_
      refine wl (r_mv (v := .slice _ _ _) rfl) ?_
      refine wl (r_mv (v := .int _ _) rfl) ?_
      refine wl_bs (cs := #[_]) [(0, .int _ _)] rfl Tryd.underlying45 sz3 ze3 (by decide) (by decide) (by kernel_rfl) rfl (fun b43 w6 hb43 hs hr => ?_)
      have or_b3_b43 : b3 < b43 := Nat.lt_of_lt_of_le hb3.lt hr
      have or_ho_b43 := fun g hg => Nat.lt_of_lt_of_le (ho.lt g hg).2 hr
      have lo43 := Nat.le_trans (Bel.size hB) hr
      replace hB := hB.tr0 hs
      replace hb3 := hb3.tr0 hs
      replace ho := ho.tr0 hs
      clear hs
      clear hr
      refine wl_app Tryd.underlying45 in3 rfl (by decide) ho hb43 rfl rfl rfl (by repeat (first | rfl | refine one_cons (by first | rfl | assumption) ?_)) (by decide) (by omega) (by omega) hb3.lt (fun g44 cap44 w7 ho44 hs hg => ?_)
      have ne_ho44_b3 : g44 ≠ b3 := fun e => by
        have hl := hb3.lt
        rcases hg with hg | hg
        · have h1 := ho.lt g44 (by rw [hg]; exact List.mem_singleton.2 rfl)
          (try have := or_ho_b3 g44 (by rw [hg]; exact List.mem_singleton.2 rfl)); omega
        · omega
      replace hB := hB.tr hs (fun g hg => Nat.le_trans (Nat.le_succ_of_le lo3) (ho.lt g hg).1)
      replace hb3 := hb3.tr hs (fun hx => by have := (ho.lt _ hx).1; (try have := or_ho_b3 _ hx); omega)
      refine wl (r_as (v := .slice _ _ _) rfl) ?_
      refine x_nil ?_
      refine e_B ?_
      refine e_S ?_
      refine c_region ?_
      refine wl (r_mv (v := .int _ _) rfl) ?_
      refine wl (r_mv (v := .int _ _) rfl) ?_
      refine wl (r_subU (b := 1) rfl rfl (by omega) hrl rfl) ?_
      refine wl (r_andU rfl rfl hrl (by omega)) ?_
      refine wl (r_as (v := .int _ _) rfl) ?_
      refine x_nil ?_
      refine e_LS (l.length - (i + 1)) (by omega) (by repeat (first | exact ag_refl | exact ag_ovr' | refine ag_upd rfl ?_ | refine ag_sub rfl ?_ | refine ag_kn (by assumption) ?_)) ?_
      first
        | exact ⟨i + 1, _, _, xs ++ [(i : Int)], by omega, rfl, congrArg (fun z : Nat => Value.int .u64 (z : Int)) hr.next, sl_snoc _ _ _ _, by rw [hxs, hjk], hB, hb3, own_snoc ho44⟩
        | exact ⟨i + 1, _, _, xs, by omega, rfl, congrArg (fun z : Nat => Value.int .u64 (z : Int)) hr.next, rfl, by rw [hxs, hjk], hB, hb3, ho⟩
    · have hjk := rest_no hr (by
        cases hjb : joinB l a b i with
        | false => rfl
        | true => exact absurd (congrArg (fun z : Nat => (z : Int)) ((join_test hv hil hr.cap).2 hjb)) c40)
      refine c_skip ?_
      refine e_B ?_
      refine e_S ?_
      refine c_region ?_
      refine wl (r_mv (v := .int _ _) rfl) ?_
      refine wl (r_mv (v := .int _ _) rfl) ?_
      refine wl (r_subU (b := 1) rfl rfl (by omega) hrl rfl) ?_
      refine wl (r_andU rfl rfl hrl (by omega)) ?_
      refine wl (r_as (v := .int _ _) rfl) ?_
      refine x_nil ?_
      refine e_LS (l.length - (i + 1)) (by omega) (by repeat (first | exact ag_refl | exact ag_ovr' | refine ag_upd rfl ?_ | refine ag_sub rfl ?_ | refine ag_kn (by assumption) ?_)) ?_
      first
        | exact ⟨i + 1, _, _, xs ++ [(i : Int)], by omega, rfl, congrArg (fun z : Nat => Value.int .u64 (z : Int)) hr.next, sl_snoc _ _ _ _, by rw [hxs, hjk], hB, hb3, own_snoc ho44⟩
        | exact ⟨i + 1, _, _, xs, by omega, rfl, congrArg (fun z : Nat => Value.int .u64 (z : Int)) hr.next, rfl, by rw [hxs, hjk], hB, hb3, ho⟩
  · have hz0 : restN l a b k = 0 := by omega
    have hend := rest_end hk hz0
    refine c_exit ?_
    refine e_Sx ?_
    refine e_LSx ?_
    refine e_Bx ?_
    refine e_S ?_
    refine c_seq ?_
    refine c_region ?_
    refine wl (r_mv (v := .slice _ _ _) rfl) ?_
    refine wl (r_as (v := .slice _ _ _) rfl) ?_
    refine x_nil ?_
    refine e_S ?_
    refine c_ret ?_
    refine fin1 (.inl rfl) rfl rfl ?_
    rw [hend, ← hxs]
    exact ⟨⟨_, _, rfl, ho.weak (Nat.le_succ_of_le lo3)⟩, hB⟩

theorem hjoin_any (A B : Option Addr) (c d : Nat) (l : List Ty) (fs : List Ft) (a b : Int) (w : World) (hTab : TabIn w) (hT : TypesIn w A l) (hF : FeatsIn w B fs) : Calls Tryd.prog 14 #[.agg #[.slice A l.length c, .slice B fs.length d], .int .i64 a, .int .i64 b] w fun e w' => (∃ A' cap, e = .returned (.tuple #[.slice A' (hjoin l fs a b).length cap, flV (twoF l fs a b)]) ∧ Own w' w.heap.size 3 1 A' (hjoin l fs a b).length cap ((hjoin l fs a b).map (Value.int .i64))) ∧ Bel w w' := by
  refine enter Tryd.func14 Tryd.ntmps14 rfl (Nat.le_of_ble_eq_true rfl) ?_
  have hB : Bel w w := Below.refl _ _
  refine c_seq ?_
  refine c_region ?_
  refine wl_bx (v := .agg #[_, _]) (cs := #[_, _]) rfl rfl (fun b3 w1 hb3 hs hr => ?_)
  have lo3 := Nat.le_trans (Bel.size hB) hr
  replace hB := hB.tr0 hs
  clear hs
  clear hr
  refine wl (r_as (v := .slice _ _ _) rfl) ?_
  refine wl_al (cs := #[.int .i64 0, .int .i64 0]) ze27 rfl (fun b7 w2 hb7 hs hr => ?_)
  have or_b3_b7 : b3 < b7 := Nat.lt_of_lt_of_le hb3.lt hr
  have lo7 := Nat.le_trans (Bel.size hB) hr
  replace hB := hB.tr0 hs
  replace hb3 := hb3.tr0 hs
  clear hs
  clear hr
  refine x_nil ?_
  refine e_S ?_
  refine c_seq ?_
  refine c_seq ?_
  refine c_region ?_
  refine wl (r_ldS Tryd.underlying25 rfl rfl hb3.range0 sz25) ?_
  refine wl (r_mv (v := .int _ _) rfl) ?_
  refine wl (r_mv (v := .int _ _) rfl) ?_
  refine wl_cl fn38 (two_any A B c d l fs a b _ (hTab.mono hB) (hT.mono hB) (hF.mono hB)) rfl (fun e' w3 hr => ?_)
  obtain ⟨rfl, hs⟩ := hr
  replace hs := Same.of_bel hs
  replace hB := hB.tr0 hs
  replace hb3 := hb3.tr0 hs
  replace hb7 := hb7.tr0 hs
  clear hs
  refine ⟨_, rfl, ?_⟩
  refine wl_al (cs := #[.int .i64 0, .int .i64 0]) ze27 rfl (fun b8 w4 hb8 hs hr => ?_)
  have or_b3_b8 : b3 < b8 := Nat.lt_of_lt_of_le hb3.lt hr
  have or_b7_b8 : b7 < b8 := Nat.lt_of_lt_of_le hb7.lt hr
  have lo8 := Nat.le_trans (Bel.size hB) hr
  replace hB := hB.tr0 hs
  replace hb3 := hb3.tr0 hs
  replace hb7 := hb7.tr0 hs
  clear hs
  clear hr
  refine wl_stW hb8 rfl rfl sz27 rfl (by repeat (first | rfl | refine one_cons (by first | rfl | assumption) ?_)) (fun w5 hq hs => ?_)
  replace hB := hB.tr1 hs lo8
  replace hb3 := hb3.tr1 hs (by omega)
  replace hb7 := hb7.tr1 hs (by omega)
  clear hs
  replace hb8 := hq
  refine x_nil ?_
  refine e_S ?_
  refine c_seq ?_
  refine c_region ?_
  refine wl (r_fa Tryd.underlying27 sz3 (by decide) rfl rfl rfl) ?_
  refine wl (r_ld1 (v := .int _ _) Tryd.underlying3 rfl rfl (hb8.cell rfl)) ?_
  refine wl (r_neq rfl rfl) ?_
  refine x_nil ?_
  refine e_S ?_
  refine c_ifd rfl (fun c15 => ?_) (fun c15 => ?_)
  · skip
    refine c_seq ?_
    refine c_tail 2 (by kernel_rfl) (by kernel_rfl) (fun w6 hs => ?_)
    replace hB := hB.tr0 hs
    replace hb3 := hb3.tr0 hs
    replace hb7 := hb7.tr0 hs
    replace hb8 := hb8.tr0 hs
    clear hs
    refine ws (r_ldS Tryd.underlying27 rfl rfl hb8.range0 sz27) ?_
    refine ws (r_as (v := .slice _ _ _) rfl) ?_
    refine s_tail ?_
    refine wl_stW hb7 rfl rfl sz27 rfl (by repeat (first | rfl | refine one_cons (by first | rfl | assumption) ?_)) (fun w7 hq hs => ?_)
    replace hB := hB.tr1 hs lo7
    replace hb3 := hb3.tr1 hs (by omega)
    replace hb8 := hb8.tr1 hs (by omega)
    clear hs
    replace hb7 := hq
    refine x_nil ?_
    refine e_S ?_
    refine c_ret ?_
    refine e_Sr ?_
    refine fin2 (.inl rfl) rfl rfl (rr_cell Tryd.underlying27 rfl rfl hb7.range0 sz27) ?_
    refine ⟨⟨none, 0, ?_, ?_⟩, hB⟩
    · unfold hjoin; rw [if_pos c15]; rfl
    · unfold hjoin; rw [if_pos c15]; exact Own.nil _ _ _ _
  · have hk := two_ok (Decidable.not_not.1 c15)
    have hS := hk.s
    have hal := hk.al
    have hbl := hk.bl
    have hz := hk.z
    obtain ⟨an, rfl⟩ := Int.eq_ofNat_of_zero_le hk.a0
    obtain ⟨bn, rfl⟩ := Int.eq_ofNat_of_zero_le hk.b0
    refine c_skip ?_
    refine e_S ?_
    refine c_seq ?_
    refine c_region ?_
    refine wl (r_fa Tryd.underlying25 sz22 (by decide) rfl rfl rfl) ?_
    refine wl (r_ld1 (v := .slice _ _ _) Tryd.underlying22 rfl rfl (hb3.cell rfl)) ?_
    refine wl_cl fn21 (tables_any _ _ _ _ (hT.mono hB) hS.vt hS.le) rfl (fun e' w8 hr => ?_)
    obtain ⟨bu, bd, rfl, hTI, hs⟩ := hr
    replace hs := Same.of_bel hs
    replace hB := hB.tr0 hs
    replace hb3 := hb3.tr0 hs
    replace hb7 := hb7.tr0 hs
    replace hb8 := hb8.tr0 hs
    clear hs
    refine ⟨_, rfl, ?_⟩
    refine wl (r_mv (v := .int _ _) rfl) ?_
    refine wl (r_mv (v := .int _ _) rfl) ?_
    have z7 := hb7.lt
    have hbs := Bel.size hB
    refine wl_cl fn40 (least_any l bu bd an bn _ (hTab.mono hB) hTI hS.vt hS.le (by omega) (by omega)) rfl (fun e' w9 hr => ?_)
    obtain ⟨⟨AJ, capJ, rfl, hoJ⟩, hs⟩ := hr
    replace hs := Same.of_bel hs
    replace hB := hB.tr0 hs
    replace hb3 := hb3.tr0 hs
    replace hb7 := hb7.tr0 hs
    replace hb8 := hb8.tr0 hs
    clear hs
    refine ⟨_, rfl, ?_⟩
    refine wl (r_bd (vs := #[]) (cs := #[.int .i64 0, .int .i64 0]) (by simp) (by kernel_rfl)) ?_
    refine wl (r_as (v := .slice _ _ _) rfl) ?_
    refine wl_stW hb7 rfl rfl sz27 rfl (by repeat (first | rfl | refine one_cons (by first | rfl | assumption) ?_)) (fun w10 hq hs => ?_)
    replace hB := hB.tr1 hs lo7
    replace hb3 := hb3.tr1 hs (by omega)
    replace hb8 := hb8.tr1 hs (by omega)
    replace hoJ := hoJ.tr1 hs (fun g hg => by have := (hoJ.lt g hg).1; (try have := or_hoJ_b7 g hg); (try simp only [aL, List.mem_singleton] at hg); omega)
    clear hs
    replace hb7 := hq
    refine x_nil ?_
    refine e_S ?_
    refine c_ret ?_
    refine fin2 (.inl rfl) rfl rfl (rr_cell Tryd.underlying27 rfl rfl hb7.range0 sz27) ?_
    refine ⟨⟨AJ, capJ, ?_, ?_⟩, hB⟩
    · unfold hjoin; rw [if_neg c15, hz]; rfl
    · unfold hjoin; rw [if_neg c15]; exact hoJ.weak hbs
end Go.Proofs.YthhkbhapfcfdjaaDoor
