/- What these functions of the program compute, at every world: glosswright/glosswrightref4.Completed. -/
import Derived.Test.YtahdbbgkgokkhaaDoorCRb
namespace Go.Proofs.YtahdbbgkgokkhaaDoor
open Go.RowKit

theorem fn26_CRc : callable Tryd.prog 26 = true := by kernel_rfl
theorem fn31 : callable Tryd.prog 31 = true := by kernel_rfl
theorem fn32 : callable Tryd.prog 32 = true := by kernel_rfl
theorem fn33 : callable Tryd.prog 33 = true := by kernel_rfl
theorem fn34 : callable Tryd.prog 34 = true := by kernel_rfl
theorem fn35 : callable Tryd.prog 35 = true := by kernel_rfl
theorem fn36 : callable Tryd.prog 36 = true := by kernel_rfl
theorem fn9_CRc : callable Tryd.prog 9 = true := by kernel_rfl
theorem in35_CRc : (Tryd.prog.info? 35).map (fun i => (i.zero, i.size, i.bytes)) = some (some (.agg #[.string ⟨#[]⟩, .slice none 0 0]), 2, 40) := by kernel_rfl
theorem in9 : (Tryd.prog.info? 9).map (fun i => (i.zero, i.size, i.bytes)) = some (some (.string ⟨#[]⟩), 1, 16) := by kernel_rfl
theorem ze33 : (Tryd.prog.info? 33).map (·.zero) = some (some (.slice none 0 0)) := by kernel_rfl
theorem ze9 : (Tryd.prog.info? 9).map (·.zero) = some (some (.string ⟨#[]⟩)) := by kernel_rfl
set_option maxRecDepth 100000 in
set_option maxHeartbeats 8000000 in
theorem completed_any (A : Option Addr) (c : Nat) (l : List Ty) (D : List Nat) (w : World) (hT : TypesIn w A l) (hv : VT l) (h60 : l.length ≤ 60) (hpos : 0 < l.length) (hD : ∀ ds, compS l = some (base l ++ ds) → D.Perm ds ∧ D.Pairwise (fun x y => ¬ cmpU y x < 0)) : Calls Tryd.prog 13 #[.slice A l.length c] w fun e w' => ((compS l = none ∧ e = .returned (.tuple #[.slice none 0 0, .bool false])) ∨ (∃ (ds : List Nat) (B : Option Addr) (cp : Nat), compS l = some (base l ++ ds) ∧ e = .returned (.tuple #[.slice B (outL l D).length cp, .bool true]) ∧ TypesIn w' B (outR (outL l D) (outL l D).length))) ∧ Bel w w' := by
 have hbl := base_len l
 have hbb : ∀ x ∈ base l, x < 18446744073709551616 := fun x hx => by
   obtain ⟨k, _, rfl⟩ := List.mem_map.1 hx
   exact downN_lt h60 k
 refine enter Tryd.func13 Tryd.ntmps13 rfl (Nat.le_of_ble_eq_true rfl) ?_
 have hB : Bel w w := Below.refl _ _
 refine c_seq ?_
 refine c_region ?_
 refine wl (r_as (v := .slice _ _ _) rfl) ?_
 refine wl (r_as (v := .bool _) rfl) ?_
 refine x_nil ?_
 refine e_S ?_
 refine c_seq ?_
 refine c_region ?_
 refine wl (r_as (v := .slice _ _ _) rfl) ?_
 refine x_nil ?_
 refine e_S ?_
 refine c_seq ?_
 refine c_seq ?_
 refine c_region ?_
 refine wl (r_mv (v := .slice _ _ _) rfl) ?_
 refine wl (r_len Tryd.underlying22 rfl) ?_
 refine wl (r_mv (v := .int _ _) rfl) ?_
 refine x_nil ?_
 refine e_S ?_
 refine c_block ?_
 refine c_loopS [4, 5, 6, 7, 33, 34, 35, 36, 37, 38, 39, 40, 41, 42, 43, 44, 45, 46, 47, 48, 49, 50, 51, 52, 53, 54] (fun m g w' => ∃ (j hi : Nat) (A4 : Option Addr) (c4 : Nat) (vs : List Value), j ≤ l.length ∧ m = l.length - j ∧ g 33 = .int .i64 j ∧ g 4 = .slice A4 j c4 ∧ hi ≤ w'.heap.size ∧ RwM w.heap.size hi w' (msL ((base l).take j)) vs ∧ Bel w w' ∧ Own w' w.heap.size 33 1 A4 j c4 vs) (l.length) ?_ (fun m g3 w1 hI => ?_)
 ·
  exact ⟨0, w.heap.size, none, 0, [], Nat.zero_le _, rfl, rfl, rfl, Bel.size hB, RwM.nil _ _ _, hB, Own.nil _ _ _ _⟩
 obtain ⟨j, hi, A4, c4, vs, hj, hm, h33, h4, hhi, hR, hB, ho4⟩ := hI
 refine c_know 33 (.int .i64 j) h33 (by simp [undef]) ?_
 refine c_know 4 (.slice A4 j c4) h4 (by simp [undef]) ?_
 refine c_seq ?_
 refine c_region ?_
 refine wl (r_lss rfl rfl) ?_
 refine x_nil ?_
 refine e_S ?_
 refine c_seq ?_
 refine c_ifd rfl (fun c34 => ?_) (fun c34 => ?_)
 ·
  have hlt : j < l.length := by omega
  refine c_skip ?_
  refine e_S ?_
  refine c_seq ?_
  refine c_block ?_
  refine c_seq ?_
  refine c_region ?_
  refine wl (r_mv (v := .int _ _) rfl) ?_
  refine wl (r_as (v := .int _ _) rfl) ?_
  refine x_nil ?_
  refine e_S ?_
  refine c_seq ?_
  refine c_region ?_
  refine wl (r_as (v := .slice _ _ _) rfl) ?_
  refine x_nil ?_
  refine e_S ?_
  refine c_seq ?_
  refine c_seq ?_
  obtain ⟨wI, hwI⟩ : ∃ z, z = w1 := ⟨_, rfl⟩
  have hiI : hi ≤ wI.heap.size := by rw [hwI]; exact hhi
  have sI : w.heap.size ≤ wI.heap.size := by rw [hwI]; exact Bel.size hB
  have hsI : wI.heap.size ≤ w1.heap.size := by rw [hwI]; exact Nat.le_refl _
  clear hwI hhi
  refine c_region ?_
  refine wl (r_mv (v := .slice _ _ _) rfl) ?_
  refine wl (r_len Tryd.underlying22 rfl) ?_
  refine wl (r_mv (v := .int _ _) rfl) ?_
  refine x_nil ?_
  refine e_S ?_
  refine c_block ?_
  refine c_loopS [6, 7, 38, 39, 40, 41, 42, 43, 44, 45, 46, 47, 48, 49] (fun m g w' => ∃ (i : Nat) (A6 : Option Addr) (c6 : Nat), i ≤ l.length ∧ m = l.length - i ∧ g 38 = .int .i64 i ∧ g 6 = .slice A6 (lsP l j i).length c6 ∧ wI.heap.size ≤ w'.heap.size ∧ RwM w.heap.size hi w' (msL ((base l).take j)) vs ∧ Bel w w' ∧ Own w' w.heap.size 33 1 A4 j c4 vs ∧ Own w' wI.heap.size 3 1 A6 (lsP l j i).length c6 ((lsP l j i).map (Value.int .i64))) (l.length) ?_ (fun m g7 w2 hI => ?_)
  ·
   exact ⟨0, none, 0, Nat.zero_le _, rfl, rfl, rfl, hsI, hR, hB, ho4, Own.nil _ _ _ _⟩
  obtain ⟨i, A6, c6, hi2, hmi, h38, h6, hsI, hR, hB, ho4, ho6⟩ := hI
  refine c_know 38 (.int .i64 i) h38 (by simp [undef]) ?_
  refine c_know 6 (.slice A6 (lsP l j i).length c6) h6 (by simp [undef]) ?_
  refine c_seq ?_
  refine c_region ?_
  refine wl (r_lss rfl rfl) ?_
  refine x_nil ?_
  refine e_S ?_
  refine c_seq ?_
  refine c_ifd rfl (fun c39 => ?_) (fun c39 => ?_)
  ·
   have hli : i < l.length := by omega
   have hle6 := lsP_le l j i
   refine c_skip ?_
   refine e_S ?_
   refine c_seq ?_
   refine c_block ?_
   refine c_seq ?_
   refine c_region ?_
   refine wl (r_mv (v := .int _ _) rfl) ?_
   refine wl (r_as (v := .int _ _) rfl) ?_
   refine x_nil ?_
   refine e_S ?_
   refine c_seq ?_
   refine c_region ?_
   refine wl (r_mv (v := .slice _ _ _) rfl) ?_
   refine wl (r_mv (v := .int _ _) rfl) ?_
   refine wl (r_mv (v := .int _ _) rfl) ?_
   refine wl_cl fn9_CRc (sub_any _ _ _ _ _ _ (hT.mono hB) hv h60 hli hlt) rfl (fun e' w3 hr => ?_)
   obtain ⟨rfl, hs⟩ := hr
   replace hs := Same.of_bel hs
   replace hB := hB.tr0 hs
   replace hR := hR.tr0 hs
   replace hsI := Nat.le_trans hsI hs.size
   replace ho4 := ho4.tr0 hs
   replace ho6 := ho6.tr0 hs
   clear hs
   refine ⟨_, rfl, ?_⟩
   refine x_nil ?_
   refine e_S ?_
   refine c_if rfl (fun c44 => ?_) (fun c44 => ?_)
   ·
    refine c_region ?_
    refine wl (r_mv (v := .slice _ _ _) rfl) ?_
    refine wl (r_mv (v := .int _ _) rfl) ?_
    refine wl_bs (cs := #[_]) [(0, .int _ _)] rfl Tryd.underlying33 sz3 ze3 (by decide) (by decide) (by kernel_rfl) rfl (fun b47 w4 hb47 hs hr => ?_)
    have or_ho4_b47 := fun g hg => Nat.lt_of_lt_of_le (ho4.lt g hg).2 hr
    have or_ho6_b47 := fun g hg => Nat.lt_of_lt_of_le (ho6.lt g hg).2 hr
    have lo47 := Nat.le_trans (Bel.size hB) hr
    replace hB := hB.tr0 hs
    replace hR := hR.tr0 hs
    replace hsI := Nat.le_trans hsI hs.size
    replace ho4 := ho4.tr0 hs
    replace ho6 := ho6.tr0 hs
    clear hs
    clear hr
    refine wl_app Tryd.underlying33 in3_CRa rfl (by decide) ho6 hb47 rfl rfl rfl (by repeat (first | rfl | refine one_cons (by first | rfl | assumption) ?_)) (by decide) (by omega) (by omega) hsI (fun g48 cap48 w5 ho48 hs hg => ?_)
    replace hB := hB.tr hs (fun g hg => Nat.le_trans sI (ho6.lt g hg).1)
    replace hR := hR.trT hs (fun g hg => .inl (Nat.le_trans hiI (ho6.lt g hg).1))
    replace hsI := Nat.le_trans hsI hs.size
    replace ho4 := ho4.tr hs (fun g hg hx => (own_apart ho4 ho6 (by decide)) g hg hx)
    refine wl (r_as (v := .slice _ _ _) rfl) ?_
    refine x_nil ?_
    refine e_B ?_
    refine e_S ?_
    refine c_region ?_
    refine wl (r_add rfl rfl rfl (by omega)) ?_
    refine wl (r_mv (v := .int _ _) rfl) ?_
    refine x_nil ?_
    refine e_LS (l.length - (i + 1)) (by omega) (by repeat (first | exact ag_refl | exact ag_ovr' | refine ag_upd rfl ?_ | refine ag_sub rfl ?_ | refine ag_kn (by assumption) ?_)) ?_
    first
      | exact ⟨i + 1, _, _, by omega, rfl, rfl, (by rw [lsP_yes c44]; exact sl_snoc _ _ _ _), hsI, hR, hB, ho4, (by rw [lsP_yes c44]; exact own_snoc ho48)⟩
      | exact ⟨i + 1, A6, c6, by omega, rfl, rfl, (by rw [lsP_no c44]; rfl), hsI, hR, hB, ho4, (by rw [lsP_no c44]; exact ho6)⟩
   ·
    refine c_skip ?_
    refine e_B ?_
    refine e_S ?_
    refine c_region ?_
    refine wl (r_add rfl rfl rfl (by omega)) ?_
    refine wl (r_mv (v := .int _ _) rfl) ?_
    refine x_nil ?_
    refine e_LS (l.length - (i + 1)) (by omega) (by repeat (first | exact ag_refl | exact ag_ovr' | refine ag_upd rfl ?_ | refine ag_sub rfl ?_ | refine ag_kn (by assumption) ?_)) ?_
    first
      | exact ⟨i + 1, _, _, by omega, rfl, rfl, (by rw [lsP_yes c44]; exact sl_snoc _ _ _ _), hsI, hR, hB, ho4, (by rw [lsP_yes c44]; exact own_snoc ho48)⟩
      | exact ⟨i + 1, A6, c6, by omega, rfl, rfl, (by rw [lsP_no c44]; rfl), hsI, hR, hB, ho4, (by rw [lsP_no c44]; exact ho6)⟩
  ·
   have hie : i = l.length := by omega
   rw [hie, lsP_end h60] at ho6
   refine c_exit ?_
   refine e_Sx ?_
   refine e_LSx ?_
   refine e_Bx ?_
   refine e_S ?_
   obtain ⟨hx, hxe⟩ : ∃ z, z = w2.heap.size := ⟨_, rfl⟩
   have hhx : hx ≤ w2.heap.size := Nat.le_of_eq hxe
   have hP6 : PrI w.heap.size hx w2 A6 (lsI (downN l j)) := by rw [hxe]; exact (own_prI ho6).low sI
   replace hR : RwM w.heap.size hx w2 (msL ((base l).take j)) vs := by rw [hxe]; exact hR.up (Nat.le_trans hiI hsI)
   have hlj : (lsP l j i).length = (lsI (downN l j)).length := by rw [hie, lsP_end h60]
   clear hxe
   refine c_region ?_
   refine wl (r_mv (v := .slice _ _ _) rfl) ?_
   refine wl (r_mv (v := .slice _ _ _) rfl) ?_
   refine wl_bs (cs := #[_]) [(0, .slice _ _ _)] rfl Tryd.underlying67 sz33_CRi ze33 (by decide) (by decide) (by kernel_rfl) rfl (fun b52 w6 hb52 hs hr => ?_)
   have or_ho4_b52 := fun g hg => Nat.lt_of_lt_of_le (ho4.lt g hg).2 hr
   have lo52 := Nat.le_trans (Bel.size hB) hr
   replace hB := hB.tr0 hs
   replace hR := hR.tr0 hs
   replace ho4 := ho4.tr0 hs
   replace hhx := Nat.le_trans hhx hs.size
   replace hP6 := hP6.tr0 hs
   clear hs
   clear hr
   refine wl_app Tryd.underlying67 in33 rfl (by decide) ho4 hb52 rfl rfl rfl (by repeat (first | rfl | refine one_cons (by first | rfl | assumption) ?_)) (by decide) (by omega) (by omega) (Bel.size hB) (fun g53 cap53 w7 ho53 hs hg => ?_)
   replace hB := hB.tr hs (fun g hg => Nat.le_trans (Nat.le_refl _) (ho4.lt g hg).1)
   replace hR := hR.trT hs (fun g hg => .inr (let ⟨cs, hb⟩ := own_typC ho4 g hg; ⟨cs, _, hb, by decide⟩))
   replace hhx := Nat.le_trans hhx hs.size
   replace hP6 := hP6.trT hs (fun g hg => .inr (let ⟨cs, hb⟩ := own_typC ho4 g hg; ⟨cs, _, hb, by decide⟩))
   refine wl (r_as (v := .slice _ _ _) rfl) ?_
   refine x_nil ?_
   refine e_B ?_
   refine e_S ?_
   refine c_region ?_
   refine wl (r_add rfl rfl rfl (by omega)) ?_
   refine wl (r_mv (v := .int _ _) rfl) ?_
   refine x_nil ?_
   refine e_LS (l.length - (j + 1)) (by omega) (by repeat (first | exact ag_refl | exact ag_ovr' | refine ag_upd rfl ?_ | refine ag_sub rfl ?_ | refine ag_kn (by assumption) ?_)) ?_
   exact ⟨j + 1, hx, _, _, _, by omega, rfl, rfl, rfl, hhx, by rw [base_take hlt, msL_snoc]; exact hR.snoc hP6 hlj, hB, ho53⟩
 ·
  have hje : j = l.length := by omega
  subst hje
  refine c_exit ?_
  refine e_Sx ?_
  refine e_LSx ?_
  refine e_Bx ?_
  refine e_S ?_
  refine c_seq ?_
  refine c_seq ?_
  have hbt : (base l).take l.length = base l := List.take_of_length_le (by omega)
  rw [hbt] at hR
  refine c_region ?_
  refine wl (r_as (v := .bool _) rfl) ?_
  refine x_nil ?_
  refine e_S ?_
  refine c_block ?_
  refine c_loopS [2, 3, 4, 8, 9, 10, 11, 55, 56, 57, 58, 59, 60, 61, 62, 63, 64, 65, 66, 67, 68, 69, 70, 71, 72, 73, 74, 75, 76, 77, 78, 79, 80, 81, 82, 83, 84, 85, 86, 87, 88, 89, 90, 91] (fun m g w' => ∃ (S1 : List Nat) (gr : Bool) (hi : Nat) (A4 : Option Addr) (c4 : Nat) (vs : List Value), ((m = 2 ∧ gr = true) ∨ (m = 1 ∧ gr = true ∧ compS l = some S1) ∨ (m = 0 ∧ gr = false ∧ compS l = some S1)) ∧ g 8 = .bool gr ∧ g 4 = .slice A4 S1.length c4 ∧ compS l = clO 61 S1 0 ∧ S1.length ≤ 60 ∧ (∀ x ∈ S1, x < 18446744073709551616) ∧ hi ≤ w'.heap.size ∧ RwM w.heap.size hi w' (msL S1) vs ∧ Bel w w' ∧ Own w' w.heap.size 33 1 A4 (S1).length c4 vs) (2) ?_ (fun m g15 w8 hI => ?_)
  ·
   exact ⟨base l, true, hi, A4, c4, vs, .inl ⟨rfl, rfl⟩, rfl, (show Value.slice A4 l.length c4 = _ by rw [hbl]), rfl, by omega, hbb, hhi, hR, hB, by rw [hbl]; exact ho4⟩
  obtain ⟨S1, gr0, hi, A4, c4, vs, hst, h8, h4, hC1, hle1, hb1, hhi, hR, hB, ho4⟩ := hI
  obtain ⟨mo, hmo⟩ : ∃ z, z = m := ⟨_, rfl⟩
  rw [← hmo] at hst
  refine c_know 8 (.bool gr0) h8 (by simp [undef]) ?_
  refine c_know 4 (.slice A4 S1.length c4) h4 (by simp [undef]) ?_
  refine c_seq ?_
  refine c_seq ?_
  refine c_region ?_
  refine wl (r_mv (v := .bool _) rfl) ?_
  refine x_nil ?_
  refine e_S ?_
  refine c_if rfl (fun c55 => ?_) (fun c55 => ?_)
  ·
   refine c_skip ?_
   refine e_S ?_
   refine c_block ?_
   refine c_seq ?_
   refine c_region ?_
   refine wl (r_as (v := .bool _) rfl) ?_
   refine x_nil ?_
   refine e_S ?_
   refine c_seq ?_
   refine c_region ?_
   refine wl (r_as (v := .int _ _) rfl) ?_
   refine x_nil ?_
   refine e_S ?_
   refine c_block ?_
   refine c_loopS [2, 3, 4, 8, 9, 10, 11, 56, 57, 58, 59, 60, 61, 62, 63, 64, 65, 66, 67, 68, 69, 70, 71, 72, 73, 74, 75, 76, 77, 78, 79, 80, 81, 82, 83, 84, 85, 86, 87, 88, 89, 90, 91] (fun m g w' => ∃ (i f : Nat) (S2 : List Nat) (gr : Bool) (hi : Nat) (A4 : Option Addr) (c4 : Nat) (vs : List Value), i + f = 61 ∧ m = f ∧ g 9 = .int .i64 i ∧ g 8 = .bool gr ∧ g 4 = .slice A4 S2.length c4 ∧ i ≤ S2.length ∧ compS l = clO f S2 i ∧ S2.length ≤ 60 ∧ (∀ x ∈ S2, x < 18446744073709551616) ∧ (compS l = some S1 → S2 = S1 ∧ gr = false) ∧ hi ≤ w'.heap.size ∧ RwM w.heap.size hi w' (msL S2) vs ∧ Bel w w' ∧ Own w' w.heap.size 33 1 A4 (S2).length c4 vs) (61) ?_ (fun m g18 w9 hI => ?_)
   ·
    exact ⟨0, 61, S1, false, hi, A4, c4, vs, rfl, rfl, rfl, rfl, rfl, Nat.zero_le _, hC1, hle1, hb1, fun _ => ⟨rfl, rfl⟩, hhi, hR, hB, ho4⟩
   obtain ⟨i, f, S2, gr, hi, A4, c4, vs, hif, hm2, h9, h8, h4, hi2, hC2, hle2, hb2, hsm, hhi, hR, hB, ho4⟩ := hI
   refine c_know 9 (.int .i64 i) h9 (by simp [undef]) ?_
   refine c_know 8 (.bool gr) h8 (by simp [undef]) ?_
   refine c_know 4 (.slice A4 S2.length c4) h4 (by simp [undef]) ?_
   refine c_seq ?_
   refine c_seq ?_
   refine c_region ?_
   refine wl (r_mv (v := .int _ _) rfl) ?_
   refine wl (r_mv (v := .slice _ _ _) rfl) ?_
   refine wl (r_len Tryd.underlying67 rfl) ?_
   refine wl (r_lss rfl rfl) ?_
   refine x_nil ?_
   refine e_S ?_
   refine c_ifd rfl (fun c59 => ?_) (fun c59 => ?_)
   ·
    have hlt : i < S2.length := by omega
    obtain ⟨f', rfl⟩ : ∃ f', f = f' + 1 := ⟨f - 1, by omega⟩
    rw [clO_row hlt] at hC2
    refine c_skip ?_
    refine e_S ?_
    refine c_seq ?_
    refine c_block ?_
    refine c_seq ?_
    refine c_region ?_
    refine wl (r_as (v := .int _ _) rfl) ?_
    refine x_nil ?_
    refine e_S ?_
    refine c_block ?_
    refine c_loopS [2, 3, 4, 8, 10, 11, 62, 63, 64, 65, 66, 67, 68, 69, 70, 71, 72, 73, 74, 75, 76, 77, 78, 79, 80, 81, 82, 83, 84, 85, 86, 87, 88, 89, 90, 91] (fun m g w' => ∃ (j : Nat) (S3 : List Nat) (gr : Bool) (hi : Nat) (A4 : Option Addr) (c4 : Nat) (vs : List Value), j ≤ i ∧ m = i - j ∧ g 10 = .int .i64 j ∧ g 8 = .bool gr ∧ g 4 = .slice A4 S3.length c4 ∧ i < S3.length ∧ compS l = clK f' S3 i j ∧ S3.length ≤ 60 ∧ (∀ x ∈ S3, x < 18446744073709551616) ∧ (compS l = some S1 → S3 = S1 ∧ gr = false) ∧ hi ≤ w'.heap.size ∧ RwM w.heap.size hi w' (msL S3) vs ∧ Bel w w' ∧ Own w' w.heap.size 33 1 A4 (S3).length c4 vs) (i) ?_ (fun m g21 w10 hI => ?_)
    ·
     exact ⟨0, S2, gr, hi, A4, c4, vs, Nat.zero_le _, rfl, rfl, rfl, rfl, hlt, hC2, hle2, hb2, hsm, hhi, hR, hB, ho4⟩
    obtain ⟨j, S3, gr, hi, A4, c4, vs, hj, hmj, h10, h8, h4, hlt, hC3, hle3, hb3, hsm, hhi, hR, hB, ho4⟩ := hI
    refine c_know 10 (.int .i64 j) h10 (by simp [undef]) ?_
    refine c_know 8 (.bool gr) h8 (by simp [undef]) ?_
    refine c_know 4 (.slice A4 S3.length c4) h4 (by simp [undef]) ?_
    refine c_seq ?_
    refine c_seq ?_
    refine c_region ?_
    refine wl (r_mv (v := .int _ _) rfl) ?_
    refine wl (r_mv (v := .int _ _) rfl) ?_
    refine wl (r_lss rfl rfl) ?_
    refine x_nil ?_
    refine e_S ?_
    refine c_ifd rfl (fun c64 => ?_) (fun c64 => ?_)
    ·
     have hji : j < i := by omega
     have hxi := getD_lt hb3 hlt
     have hxj := getD_lt hb3 (i := j) (by omega)
     have hxb : mt S3 i j < 18446744073709551616 := Nat.lt_of_le_of_lt Nat.and_le_left hxi
     have hM := mat_own ho4 hR
     have hsm2 : compS l = some S1 → mt S3 i j = 0 ∨ mt S3 i j ∈ S3 := fun hc => by
       have h1 := (hsm hc).1
       rw [← h1] at hc
       exact (comp_keep hv h60 hc).clo i j hlt hji
     
     refine c_skip ?_
     refine e_S ?_
     refine c_seq ?_
     refine c_block ?_
     refine c_seq ?_
     obtain ⟨wX, hwX⟩ : ∃ z, z = w10 := ⟨_, rfl⟩
     have hBX : Bel wX w10 := by rw [hwX]; exact Below.refl _ _
     rw [← hwX] at hM
     clear hwX
     obtain ⟨sb, so, Ai, ci, hAe, hsb, hci, hIi⟩ := hM.at2 (show i < (msL S3).length by rw [msL_len]; exact hlt)
     obtain ⟨sb2, so2, Aj, cj, hAe2, _, hcj, hIj⟩ := hM.at2 (show j < (msL S3).length by rw [msL_len]; omega)
     subst hAe
     cases hAe2
     rw [msL_get] at hci hIi hcj hIj
     refine c_held [] [0, 1, 2, 3, 4, 5, 6, 7, 8, 9] rfl (fun w11 hs => ?_)
     replace hB := hB.tr0 hs
     replace hR := hR.tr0 hs
     replace hhi := Nat.le_trans hhi hs.size
     replace ho4 := ho4.tr0 hs
     replace hBX := hBX.tr0 hs
     clear hs
     refine hl rfl (fun _ => r_mv (v := .slice _ _ _) rfl) ?_
     refine hl rfl (fun _ => r_mv (v := .int _ _) rfl) ?_
     refine hl rfl (fun _ => r_ia (i := i) Tryd.underlying67 sz33_CRi rfl rfl (by omega) rfl) ?_
     refine hl1 (v := .slice _ _ _) rfl Tryd.underlying33 rfl rfl (hBX.cell hsb hci) ?_
     refine hl rfl (fun _ => r_mv (v := .slice _ _ _) rfl) ?_
     refine hl rfl (fun _ => r_mv (v := .int _ _) rfl) ?_
     refine hl rfl (fun _ => r_ia (i := j) Tryd.underlying67 sz33_CRi rfl rfl (by omega) rfl) ?_
     refine hl1 (v := .slice _ _ _) rfl Tryd.underlying33 rfl rfl (hBX.cell hsb hcj) ?_
     refine hcl (fun v wv => ∃ A11 c11 h11, v = .slice A11 (lsI (mt S3 i j)).length c11 ∧ PrI w11.heap.size h11 wv A11 (lsI (mt S3 i j)) ∧ w.heap.size ≤ w11.heap.size ∧ h11 ≤ wv.heap.size) rfl fn31 (coml_any w11 (hIi.mono hBX) (hIj.mono hBX)) rfl (fun e' w2 hr => ?_) (fun v75 w12 hs d75 => ?_)
     ·
      obtain ⟨⟨A', c', rfl, hown⟩, hs⟩ := hr
      exact ⟨_, rfl, Same.of_bel hs, ⟨_, _, _, rfl, own_prI hown, Bel.size hB, Nat.le_refl _⟩⟩
     ·
      replace hB := hB.tr0 hs
      replace hR := hR.tr0 hs
      replace hhi := Nat.le_trans hhi hs.size
      replace ho4 := ho4.tr0 hs
      replace hBX := hBX.tr0 hs
      clear hs
      obtain ⟨A11, c11, h11, e75, hP11, lo11, hP11s⟩ := d75
      subst e75
      refine hl rfl (fun _ => r_as (v := .slice _ _ _) rfl) ?_
      refine h_end ?_
      refine e_S ?_
      refine c_seq ?_
      refine c_seq ?_
      refine c_region ?_
      refine wl (r_mv (v := .slice _ _ _) rfl) ?_
      refine wl (r_len Tryd.underlying33 rfl) ?_
      refine wl (r_gtr rfl rfl) ?_
      refine wl (r_mv (v := .bool _) rfl) ?_
      refine wl_casesd 79 rfl (fun g79 => ?_) (fun g79 => ?_)
      ·
       refine wl_gd 79 rfl rfl ?_
       refine wl (r_mv (v := .slice _ _ _) rfl) ?_
       refine wl_gd 79 rfl rfl ?_
       refine wl (r_mv (v := .slice _ _ _) rfl) ?_
       refine wl_gd 79 rfl rfl ?_
       refine wl_cl fn32 (fnd_any _ (hM.mono hBX) rfl hP11.ints hb3 hxb) rfl (fun e' w13 hr => ?_)
       obtain ⟨⟨r, rfl, hr⟩, hs⟩ := hr
       replace hs := Same.of_bel hs
       replace hB := hB.tr0 hs
       replace hR := hR.tr0 hs
       replace hhi := Nat.le_trans hhi hs.size
       replace ho4 := ho4.tr0 hs
       replace hBX := hBX.tr0 hs
       replace hP11 := hP11.tr0 hs
       replace hP11s := Nat.le_trans hP11s hs.size
       clear hs
       refine ⟨_, rfl, ?_⟩
       refine wl_gd 79 rfl rfl ?_
       refine wl (r_lss rfl rfl) ?_
       refine wl (r_pt (v := .bool _) rfl rfl) ?_
       refine x_nil ?_
       refine e_S ?_
       refine c_ifd rfl (fun c84 => ?_) (fun c84 => ?_)
       ·
        have hx2 : ¬ (mt S3 i j = 0 ∨ mt S3 i j ∈ S3) := fun h => h.elim (fun h => by have := (lsI_nil hxb).2 h; omega) (fun h => by have := hr.2 h; omega)
        refine c_seq ?_
        obtain ⟨hx, hxe⟩ : ∃ z, z = w13.heap.size := ⟨_, rfl⟩
        have hhx : hx ≤ w13.heap.size := Nat.le_of_eq hxe
        replace hP11 : PrI w.heap.size hx w13 A11 (lsI (mt S3 i j)) := by rw [hxe]; exact (hP11.low lo11).up hP11s
        replace hR : RwM w.heap.size hx w13 (msL S3) vs := by rw [hxe]; exact hR.up hhi
        clear hxe
        refine c_region ?_
        refine wl (r_mv (v := .slice _ _ _) rfl) ?_
        refine wl (r_mv (v := .slice _ _ _) rfl) ?_
        refine wl_bs (cs := #[_]) [(0, .slice _ _ _)] rfl Tryd.underlying67 sz33_CRi ze33 (by decide) (by decide) (by kernel_rfl) rfl (fun b87 w14 hb87 hs hr => ?_)
        have or_ho4_b87 := fun g hg => Nat.lt_of_lt_of_le (ho4.lt g hg).2 hr
        have lo87 := Nat.le_trans (Bel.size hB) hr
        replace hB := hB.tr0 hs
        replace hR := hR.tr0 hs
        replace ho4 := ho4.tr0 hs
        replace hhx := Nat.le_trans hhx hs.size
        replace hP11 := hP11.tr0 hs
        clear hs
        clear hr
        refine wl_app Tryd.underlying67 in33 rfl (by decide) ho4 hb87 rfl rfl rfl (by repeat (first | rfl | refine one_cons (by first | rfl | assumption) ?_)) (by decide) (by omega) (by omega) (Bel.size hB) (fun g88 cap88 w15 ho88 hs hg => ?_)
        replace hB := hB.tr hs (fun g hg => Nat.le_trans (Nat.le_refl _) (ho4.lt g hg).1)
        replace hR := hR.trT hs (fun g hg => .inr (let ⟨cs, hb⟩ := own_typC ho4 g hg; ⟨cs, _, hb, by decide⟩))
        replace hhx := Nat.le_trans hhx hs.size
        replace hP11 := hP11.trT hs (fun g hg => .inr (let ⟨cs, hb⟩ := own_typC ho4 g hg; ⟨cs, _, hb, by decide⟩))
        refine wl (r_as (v := .slice _ _ _) rfl) ?_
        refine x_nil ?_
        refine e_S ?_
        refine c_region ?_
        refine wl (r_as (v := .bool _) rfl) ?_
        refine x_nil ?_
        refine e_S ?_
        refine c_seq ?_
        refine c_region ?_
        refine wl (r_mv (v := .slice _ _ _) rfl) ?_
        refine wl (r_len Tryd.underlying67 rfl) ?_
        refine wl (r_gtr rfl rfl) ?_
        refine x_nil ?_
        refine e_S ?_
        refine c_ifd rfl (fun c91 => ?_) (fun c91 => ?_)
        ·
         have hN : compS l = none := by
           first
             | exact absurd c91 (by omega)
             | exact hC3.trans (clK_full hji hx2 (by omega))
         refine c_seq ?_
         refine c_region ?_
         refine wl (r_as (v := .slice _ _ _) rfl) ?_
         refine wl (r_as (v := .bool _) rfl) ?_
         refine x_nil ?_
         refine e_S ?_
         refine c_ret ?_
         refine e_Br ?_
         refine e_Sr ?_
         refine e_LSr ?_
         refine e_Br ?_
         refine e_Br ?_
         refine e_Sr ?_
         refine e_LSr ?_
         refine e_Br ?_
         refine e_Br ?_
         refine e_LSr ?_
         refine e_Br ?_
         refine e_Sr ?_
         refine fin2 (.inl rfl) rfl rfl rfl ?_
         exact ⟨.inl ⟨hN, rfl⟩, hB⟩
        ·
         refine c_skip ?_
         refine e_B ?_
         refine e_S ?_
         refine c_region ?_
         refine wl (r_mv (v := .int _ _) rfl) ?_
         refine wl (r_add rfl rfl rfl (by omega)) ?_
         refine wl (r_as (v := .int _ _) rfl) ?_
         refine x_nil ?_
         refine e_LS (i - (j + 1)) (by omega) (by repeat (first | exact ag_refl | exact ag_ovr' | refine ag_upd rfl ?_ | refine ag_sub rfl ?_ | refine ag_kn (by assumption) ?_)) ?_
         first
           | exact ⟨j + 1, S3 ++ [mt S3 i j], true, hx, _, _, vs ++ [Value.slice A11 (lsI (mt S3 i j)).length c11], by omega, rfl, rfl, rfl, (by rw [List.length_append]; rfl), by rw [List.length_append]; exact Nat.lt_add_right _ hlt, by rw [hC3, clK_add hji hx2 (by omega)], by rw [List.length_append]; simp only [List.length_cons, List.length_nil]; omega, fun y hy => (List.mem_append.1 hy).elim (hb3 y) (fun h => by rw [List.mem_singleton.1 h]; exact hxb), fun hc => absurd (hsm2 hc) hx2, hhx, by rw [msL_snoc]; exact hR.snoc hP11 rfl, hB, by rw [List.length_append]; exact ho88⟩
           | exact ⟨j + 1, S3, gr, hi, _, c4, vs, by omega, rfl, rfl, rfl, rfl, hlt, by rw [hC3, clK_skip hji (Decidable.not_not.1 (fun h => h (.inr (hr.1 (by omega)))))], hle3, hb3, hsm, hhi, hR, hB, ho4⟩
           | exact ⟨j + 1, S3, gr, hi, _, c4, vs, by omega, rfl, rfl, rfl, rfl, hlt, by rw [hC3, clK_skip hji (.inl ((lsI_nil hxb).1 (by omega)))], hle3, hb3, hsm, hhi, hR, hB, ho4⟩
       ·
        refine c_skip ?_
        refine e_S ?_
        refine c_seq ?_
        refine c_region ?_
        refine wl (r_mv (v := .slice _ _ _) rfl) ?_
        refine wl (r_len Tryd.underlying67 rfl) ?_
        refine wl (r_gtr rfl rfl) ?_
        refine x_nil ?_
        refine e_S ?_
        refine c_ifd rfl (fun c91 => ?_) (fun c91 => ?_)
        ·
         have hN : compS l = none := by
           first
             | exact absurd c91 (by omega)
             | exact hC3.trans (clK_full hji hx2 (by omega))
         refine c_seq ?_
         refine c_region ?_
         refine wl (r_as (v := .slice _ _ _) rfl) ?_
         refine wl (r_as (v := .bool _) rfl) ?_
         refine x_nil ?_
         refine e_S ?_
         refine c_ret ?_
         refine e_Br ?_
         refine e_Sr ?_
         refine e_LSr ?_
         refine e_Br ?_
         refine e_Br ?_
         refine e_Sr ?_
         refine e_LSr ?_
         refine e_Br ?_
         refine e_Br ?_
         refine e_LSr ?_
         refine e_Br ?_
         refine e_Sr ?_
         refine fin2 (.inl rfl) rfl rfl rfl ?_
         exact ⟨.inl ⟨hN, rfl⟩, hB⟩
        ·
         refine c_skip ?_
         refine e_B ?_
         refine e_S ?_
         refine c_region ?_
         refine wl (r_mv (v := .int _ _) rfl) ?_
         refine wl (r_add rfl rfl rfl (by omega)) ?_
         refine wl (r_as (v := .int _ _) rfl) ?_
         refine x_nil ?_
         refine e_LS (i - (j + 1)) (by omega) (by repeat (first | exact ag_refl | exact ag_ovr' | refine ag_upd rfl ?_ | refine ag_sub rfl ?_ | refine ag_kn (by assumption) ?_)) ?_
         first
           | exact ⟨j + 1, S3 ++ [mt S3 i j], true, hx, _, _, vs ++ [Value.slice A11 (lsI (mt S3 i j)).length c11], by omega, rfl, rfl, rfl, (by rw [List.length_append]; rfl), by rw [List.length_append]; exact Nat.lt_add_right _ hlt, by rw [hC3, clK_add hji hx2 (by omega)], by rw [List.length_append]; simp only [List.length_cons, List.length_nil]; omega, fun y hy => (List.mem_append.1 hy).elim (hb3 y) (fun h => by rw [List.mem_singleton.1 h]; exact hxb), fun hc => absurd (hsm2 hc) hx2, hhx, by rw [msL_snoc]; exact hR.snoc hP11 rfl, hB, by rw [List.length_append]; exact ho88⟩
           | exact ⟨j + 1, S3, gr, hi, _, c4, vs, by omega, rfl, rfl, rfl, rfl, hlt, by rw [hC3, clK_skip hji (Decidable.not_not.1 (fun h => h (.inr (hr.1 (by omega)))))], hle3, hb3, hsm, hhi, hR, hB, ho4⟩
           | exact ⟨j + 1, S3, gr, hi, _, c4, vs, by omega, rfl, rfl, rfl, rfl, hlt, by rw [hC3, clK_skip hji (.inl ((lsI_nil hxb).1 (by omega)))], hle3, hb3, hsm, hhi, hR, hB, ho4⟩
      ·
       refine wlgn 79 rfl rfl rfl ?_
       refine wlgn 79 rfl rfl rfl ?_
       refine wlgn 79 rfl rfl rfl ?_
       refine wlgn 79 rfl rfl rfl ?_
       refine wl (r_pf (v := .bool _) rfl rfl) ?_
       refine x_nil ?_
       refine e_S ?_
       refine c_no rfl ?_
       refine c_skip ?_
       refine e_S ?_
       refine c_seq ?_
       refine c_region ?_
       refine wl (r_mv (v := .slice _ _ _) rfl) ?_
       refine wl (r_len Tryd.underlying67 rfl) ?_
       refine wl (r_gtr rfl rfl) ?_
       refine x_nil ?_
       refine e_S ?_
       refine c_ifd rfl (fun c91 => ?_) (fun c91 => ?_)
       ·
        have hN : compS l = none := by
          first
            | exact absurd c91 (by omega)
            | exact hC3.trans (clK_full hji hx2 (by omega))
        refine c_seq ?_
        refine c_region ?_
        refine wl (r_as (v := .slice _ _ _) rfl) ?_
        refine wl (r_as (v := .bool _) rfl) ?_
        refine x_nil ?_
        refine e_S ?_
        refine c_ret ?_
        refine e_Br ?_
        refine e_Sr ?_
        refine e_LSr ?_
        refine e_Br ?_
        refine e_Br ?_
        refine e_Sr ?_
        refine e_LSr ?_
        refine e_Br ?_
        refine e_Br ?_
        refine e_LSr ?_
        refine e_Br ?_
        refine e_Sr ?_
        refine fin2 (.inl rfl) rfl rfl rfl ?_
        exact ⟨.inl ⟨hN, rfl⟩, hB⟩
       ·
        refine c_skip ?_
        refine e_B ?_
        refine e_S ?_
        refine c_region ?_
        refine wl (r_mv (v := .int _ _) rfl) ?_
        refine wl (r_add rfl rfl rfl (by omega)) ?_
        refine wl (r_as (v := .int _ _) rfl) ?_
        refine x_nil ?_
        refine e_LS (i - (j + 1)) (by omega) (by repeat (first | exact ag_refl | exact ag_ovr' | refine ag_upd rfl ?_ | refine ag_sub rfl ?_ | refine ag_kn (by assumption) ?_)) ?_
        first
          | exact ⟨j + 1, S3 ++ [mt S3 i j], true, hx, _, _, vs ++ [Value.slice A11 (lsI (mt S3 i j)).length c11], by omega, rfl, rfl, rfl, (by rw [List.length_append]; rfl), by rw [List.length_append]; exact Nat.lt_add_right _ hlt, by rw [hC3, clK_add hji hx2 (by omega)], by rw [List.length_append]; simp only [List.length_cons, List.length_nil]; omega, fun y hy => (List.mem_append.1 hy).elim (hb3 y) (fun h => by rw [List.mem_singleton.1 h]; exact hxb), fun hc => absurd (hsm2 hc) hx2, hhx, by rw [msL_snoc]; exact hR.snoc hP11 rfl, hB, by rw [List.length_append]; exact ho88⟩
          | exact ⟨j + 1, S3, gr, hi, _, c4, vs, by omega, rfl, rfl, rfl, rfl, hlt, by rw [hC3, clK_skip hji (Decidable.not_not.1 (fun h => h (.inr (hr.1 (by omega)))))], hle3, hb3, hsm, hhi, hR, hB, ho4⟩
          | exact ⟨j + 1, S3, gr, hi, _, c4, vs, by omega, rfl, rfl, rfl, rfl, hlt, by rw [hC3, clK_skip hji (.inl ((lsI_nil hxb).1 (by omega)))], hle3, hb3, hsm, hhi, hR, hB, ho4⟩
    ·
     have hji : j = i := by omega
     refine c_exit ?_
     refine e_Sx ?_
     refine e_LSx ?_
     refine e_Bx ?_
     refine e_B ?_
     refine e_S ?_
     refine c_region ?_
     refine wl (r_mv (v := .int _ _) rfl) ?_
     refine wl (r_add rfl rfl rfl (by omega)) ?_
     refine wl (r_as (v := .int _ _) rfl) ?_
     refine x_nil ?_
     refine e_LS (f') (by omega) (by repeat (first | exact ag_refl | exact ag_ovr' | refine ag_upd rfl ?_ | refine ag_sub rfl ?_ | refine ag_kn (by assumption) ?_)) ?_
     exact ⟨i + 1, f', S3, gr, hi, A4, c4, vs, by omega, rfl, rfl, rfl, rfl, by omega, by rw [hC3, hji, clK_end], hle3, hb3, hsm, hhi, hR, hB, ho4⟩
   ·
    have hCs : compS l = some S2 := by
      obtain ⟨f', rfl⟩ : ∃ f', f = f' + 1 := ⟨f - 1, by omega⟩
      rw [hC2]; exact clO_end (by omega)
    have hcl2 := (comp_keep hv h60 hCs).clo
    have hC3 : compS l = clO 61 S2 0 := hCs.trans (clO_closed hcl2 S2.length 61 0 (by omega) (by omega)).symm
    obtain ⟨hnx, hst2⟩ : (if gr = true then 1 else 0) < mo ∧ (((if gr = true then 1 else 0) = 2 ∧ gr = true) ∨ ((if gr = true then 1 else 0) = 1 ∧ gr = true ∧ compS l = some S2) ∨ ((if gr = true then 1 else 0) = 0 ∧ gr = false ∧ compS l = some S2)) := by
      cases gr with
      | false =>
        refine ⟨?_, .inr (.inr ⟨rfl, rfl, hCs⟩)⟩
        rcases hst with ⟨h, _⟩ | ⟨h, _, _⟩ | ⟨_, h, _⟩
        · rw [h]; decide
        · rw [h]; decide
        · rw [h] at c55; cases c55
      | true =>
        refine ⟨?_, .inr (.inl ⟨rfl, rfl, hCs⟩)⟩
        rcases hst with ⟨h, _⟩ | ⟨_, _, h⟩ | ⟨_, h, _⟩
        · rw [h]; decide
        · cases (hsm h).2
        · rw [h] at c55; cases c55
    refine c_exit ?_
    refine e_Sx ?_
    refine e_LSx ?_
    refine e_Bx ?_
    refine e_B ?_
    refine e_LS ((if gr = true then 1 else 0)) (by rw [← hmo]; exact hnx) (by repeat (first | exact ag_refl | exact ag_ovr' | refine ag_upd rfl ?_ | refine ag_sub rfl ?_ | refine ag_kn (by assumption) ?_)) ?_
    exact ⟨S2, gr, hi, A4, c4, vs, hst2, rfl, rfl, hC3, hle2, hb2, hhi, hR, hB, ho4⟩
  ·
   have hC : compS l = some S1 := by
     rcases hst with ⟨_, h⟩ | ⟨_, h, _⟩ | ⟨_, _, h⟩
     · rw [h] at c55; cases c55
     · rw [h] at c55; cases c55
     · exact h
   refine c_exit ?_
   refine e_Sx ?_
   refine e_LSx ?_
   refine e_Bx ?_
   refine e_S ?_
   refine c_seq ?_
   obtain ⟨ds, hSd, hAds⟩ := (comp_keep hv h60 hC).pre
   subst hSd
   obtain ⟨hperm, hpw⟩ := hD ds hC
   have hdn : ∀ x ∈ D, DnS l x := comp_dn hv h60 hC hperm
   have hdb : ∀ x ∈ D, x < 18446744073709551616 := fun x hx => (hdn x hx).lt64 h60
   have hnd := (comp_keep hv h60 hC).nd
   have hdsn : ds.Nodup := (List.nodup_append.1 hnd).2.1
   have hDs := sorted_Lt hdb (hperm.symm.nodup hdsn) hpw
   have hdl : l.length + ds.length ≤ 60 := by rw [List.length_append, hbl] at hle1; exact hle1
   have hDl : D.length = ds.length := hperm.length_eq
   have hMS0 := mat_own ho4 hR
   have hc4 := Own.cap_le ho4
   rw [List.length_append, hbl] at hc4
   obtain ⟨wS, hwS⟩ : ∃ z, z = w8 := ⟨_, rfl⟩
   have hBS : Bel wS w8 := by rw [hwS]; exact Below.refl _ _
   have hMS : MatIn wS A4 (msL (base l ++ ds)) := by rw [hwS]; exact hMS0
   have hTS : TypesIn wS A l := by rw [hwS]; exact hT.mono hB
   have sS : w.heap.size ≤ wS.heap.size := by rw [hwS]; exact Bel.size hB
   obtain ⟨AS, hAS, hMD⟩ := MatIn.drop (by rw [msL_app] at hMS; exact hMS) (show (msL (base l)).length = l.length by rw [msL_len, hbl]) (show l.length + (msL ds).length ≤ c4 by rw [msL_len]; exact hc4)
   clear hwS ho4 hR hhi hMS0
   refine c_region ?_
   refine wl (r_as (v := .slice _ _ _) rfl) ?_
   refine x_nil ?_
   refine e_S ?_
   refine c_seq ?_
   refine c_region ?_
   refine wl (r_as (v := .slice _ _ _) rfl) ?_
   refine x_nil ?_
   refine e_S ?_
   refine c_seq ?_
   refine c_region ?_
   refine wl (r_as (v := .int _ _) rfl) ?_
   refine x_nil ?_
   refine e_S ?_
   refine c_seq ?_
   refine c_seq ?_
   refine c_region ?_
   refine wl (r_mv (v := .slice _ _ _) rfl) ?_
   refine wl (r_len Tryd.underlying22 rfl) ?_
   refine wl (r_mv (v := .int _ _) rfl) ?_
   refine x_nil ?_
   refine e_S ?_
   refine c_block ?_
   refine c_loopS [12, 13, 14, 15, 16, 18, 19, 21, 94, 95, 96, 97, 98, 99, 100, 101, 102, 103, 104, 105, 106, 107, 108, 109, 110, 111, 112, 113, 114, 115, 116, 117, 118, 119, 120, 121, 122, 123, 124, 125, 126, 127, 128, 129, 130, 131, 132, 133, 134, 135, 136, 137, 138, 139, 140, 141, 142, 143, 144, 145, 146, 147, 148, 149, 150, 151, 152, 153, 154, 155, 156, 157, 158, 159, 160, 161, 162, 163, 164, 165, 166, 167, 168, 169, 170, 171, 172, 173, 174, 175, 176, 177, 178, 179, 180, 181, 182, 183, 184, 185, 186, 187, 188, 189, 190, 191, 192, 193, 194] (fun m g w' => ∃ (i a k cn : Nat) (pr : List (Nat × ByteArray)) (A12 A13 : Option Addr) (c12 c13 : Nat) (vo : List Value), i ≤ l.length ∧ m = l.length - i ∧ g 94 = .int .i64 i ∧ g 14 = .int .i64 a ∧ g 12 = .slice A12 pr.length c12 ∧ g 13 = .slice A13 pr.length c13 ∧ PopI l D (D.filter (fun x => decide (i ≤ tz x))) pr i a k cn ∧ RwB wS (msL (pr.map Prod.fst)) vo ∧ Bel w w' ∧ Bel wS w' ∧ Own w' wS.heap.size 33 1 A12 pr.length c12 vo ∧ Own w' wS.heap.size 9 1 A13 pr.length c13 (pr.map nmV)) (l.length) ?_ (fun m g33 w16 hI => ?_)
   ·
    exact ⟨0, 0, _, 0, [], none, none, 0, 0, [], Nat.zero_le _, rfl, rfl, rfl, rfl, rfl, (by rw [filt_all]; exact PopI.start h60 hdn hpw (by omega)), RwB.nil _, hB, hBS, Own.nil _ _ _ _, Own.nil _ _ _ _⟩
   obtain ⟨i, a, k, cn, pr, A12, A13, c12, c13, vo, hil, hm, h94, h14, h12, h13, hI, hRO, hB, hBS, hoR, hoN⟩ := hI
   refine c_know 94 (.int .i64 i) h94 (by simp [undef]) ?_
   refine c_know 14 (.int .i64 a) h14 (by simp [undef]) ?_
   refine c_know 12 (.slice A12 pr.length c12) h12 (by simp [undef]) ?_
   refine c_know 13 (.slice A13 pr.length c13) h13 (by simp [undef]) ?_
   refine c_seq ?_
   refine c_region ?_
   refine wl (r_lss rfl rfl) ?_
   refine x_nil ?_
   refine e_S ?_
   refine c_seq ?_
   refine c_ifd rfl (fun c95 => ?_) (fun c95 => ?_)
   ·
    have hlt : i < l.length := by omega
    refine c_skip ?_
    refine e_S ?_
    refine c_seq ?_
    refine c_block ?_
    refine c_seq ?_
    refine c_region ?_
    refine wl (r_mv (v := .int _ _) rfl) ?_
    refine wl (r_as (v := .int _ _) rfl) ?_
    refine x_nil ?_
    refine e_S ?_
    refine c_seq ?_
    refine c_region ?_
    refine wl (r_as (v := .slice _ _ _) rfl) ?_
    refine x_nil ?_
    refine e_S ?_
    refine c_seq ?_
    refine c_seq ?_
    refine c_region ?_
    refine wl (r_mv (v := .slice _ _ _) rfl) ?_
    refine wl (r_mv (v := .slice _ _ _) rfl) ?_
    refine wl (r_len Tryd.underlying22 rfl) ?_
    refine wl (r_slE Tryd.underlying67 sz33_CRi hAS rfl rfl (by rw [List.length_append, hbl]; omega) (show (base l ++ ds).length - l.length = ds.length by rw [List.length_append, hbl]; omega)) ?_
    refine wl (r_len Tryd.underlying67 rfl) ?_
    refine wl (r_mv (v := .int _ _) rfl) ?_
    refine x_nil ?_
    refine e_S ?_
    refine c_block ?_
    refine c_loopS [16, 18, 19, 102, 103, 104, 105, 106, 107, 108, 109, 110, 111, 112, 113, 114, 115, 116, 117, 118, 119, 120, 121, 122, 123, 124, 125, 126, 127, 128, 129, 130, 131, 132, 133, 134, 135, 136, 137, 138, 139, 140, 141, 142, 143, 144, 145, 146, 147, 148, 149, 150, 151, 152] (fun m g w' => ∃ (q : Nat) (B : List Nat) (A16 : Option Addr) (c16 : Nat) (vb : List Value), q ≤ ds.length ∧ m = ds.length - q ∧ g 102 = .int .i64 q ∧ g 16 = .slice A16 B.length c16 ∧ InsI ds i q B ∧ RwB wS (msL B) vb ∧ (∀ g ∈ aL A16, g ∈ aL A12 → False) ∧ Bel w w' ∧ Bel wS w' ∧ Own w' wS.heap.size 33 1 A12 pr.length c12 vo ∧ Own w' wS.heap.size 9 1 A13 pr.length c13 (pr.map nmV) ∧ Own w' wS.heap.size 33 1 A16 B.length c16 vb) (ds.length) ?_ (fun m g37 w17 hI => ?_)
    ·
     exact ⟨0, [], none, 0, [], Nat.zero_le _, rfl, rfl, rfl, InsI.start _ _, RwB.nil _, (fun g h => by cases h), hB, hBS, hoR, hoN, Own.nil _ _ _ _⟩
    obtain ⟨q, B, A16, c16, vb, hql, hmq, h102, h16, hIB, hRB, hap, hB, hBS, hoR, hoN, ho16⟩ := hI
    refine c_know 102 (.int .i64 q) h102 (by simp [undef]) ?_
    refine c_know 16 (.slice A16 B.length c16) h16 (by simp [undef]) ?_
    refine c_seq ?_
    refine c_region ?_
    refine wl (r_lss rfl rfl) ?_
    refine x_nil ?_
    refine e_S ?_
    refine c_seq ?_
    refine c_ifd rfl (fun c103 => ?_) (fun c103 => ?_)
    ·
     have hql2 : q < ds.length := by omega
     obtain ⟨qb, qo, Aq, cq, hqe, hqb, hqc, hIq⟩ := hMD.at2 (show q < (msL ds).length by rw [msL_len]; exact hql2)
     rw [msL_get] at hqc hIq
     have hqD : ds.getD q 0 ∈ D := hperm.mem_iff.2 (getD_mem hql2)
     have hqt := hdb _ hqD
     obtain ⟨hq0, hqh⟩ := lsI_head (hdn _ hqD) h60
     obtain ⟨ib, io, hie2, hib, hic⟩ := hIq.at_ hq0
     rw [hqh] at hic
     have hnew := hIB.new hql2 hdsn
     have hbB : ∀ y ∈ B, y < 18446744073709551616 := fun y hy => hdb y (hperm.mem_iff.2 (List.mem_of_mem_take (hIB.mem hy).1))
     have hBl : B.length ≤ 60 := by
       have h1 := hIB.pe.length_eq
       have h2 := List.length_filter_le (fun x => decide (tz x = i)) (ds.take q)
       rw [List.length_take] at h2
       omega
     refine c_skip ?_
     refine e_S ?_
     refine c_seq ?_
     refine c_block ?_
     refine c_seq ?_
     refine c_region ?_
     refine wl (r_ia (i := q) Tryd.underlying67 sz33_CRi (show ev _ _ _ = _ from sl_eq _ _ hqe) rfl (by omega) rfl) ?_
     refine wl (r_ld1 (v := .slice _ _ _) Tryd.underlying33 rfl rfl (hBS.cell hqb hqc)) ?_
     refine wl (r_as (v := .slice _ _ _) rfl) ?_
     refine x_nil ?_
     refine e_S ?_
     refine c_seq ?_
     refine c_region ?_
     refine wl (r_mv (v := .slice _ _ _) rfl) ?_
     refine wl (r_ia (i := 0) Tryd.underlying33 sz3 (show ev _ _ _ = _ from sl_eq _ _ hie2) rfl hq0 rfl) ?_
     refine wl (r_ld1 (v := .int .i64 ((tz (ds.getD q 0) : Nat) : Int)) Tryd.underlying3 rfl rfl (hBS.cell hib hic)) ?_
     refine wl (r_mv (v := .int _ _) rfl) ?_
     refine wl (r_eql rfl rfl) ?_
     refine x_nil ?_
     refine e_S ?_
     refine c_ifd rfl (fun c110 => ?_) (fun c110 => ?_)
     ·
      have htq : tz (ds.getD q 0) = i := by omega
      refine c_seq ?_
      have htB : ∀ y ∈ B, tz y = tz (ds.getD q 0) := fun y hy => by rw [htq]; exact (hIB.mem hy).2
      have hMB := mat_ownB ho16 hRB hBS
      refine c_region ?_
      refine wl (r_as (v := .int _ _) rfl) ?_
      refine x_nil ?_
      refine e_S ?_
      refine c_seq ?_
      refine c_block ?_
      refine c_loopS [19, 111, 112, 113, 114, 115, 116, 117, 118, 119, 120, 121, 122, 123, 124, 125, 126, 127, 128, 129, 130, 131, 132, 133, 134, 135, 136, 137, 138, 139, 140, 141, 142, 143, 144, 145] (fun m g w' => ∃ k2 : Nat, k2 ≤ B.length ∧ m = B.length - k2 ∧ g 19 = .int .i64 k2 ∧ (∀ j (hj : j < B.length), j < k2 → Lt 64 B[j] (ds.getD q 0)) ∧ w17 = w') (B.length) ?_ (fun m g41 w18 hI => ?_)
      ·
       exact ⟨0, Nat.zero_le _, rfl, rfl, (fun j _ h => by omega), rfl⟩
      obtain ⟨k2, hkB, hmk, h19, hlok, rfl⟩ := hI
      refine c_know 19 (.int .i64 k2) h19 (by simp [undef]) ?_
      refine c_seq ?_
      refine c_seq ?_
      refine c_cut1 [111, 112, 113, 114, 115, 116, 117, 118, 119, 120, 121, 122, 123, 124, 125, 126, 127, 128, 129, 130, 131, 132, 133, 134, 135, 136, 137, 138, 139, 140, 141, 142, 143] 143 (.bool (decide (insP B k2 (ds.getD q 0) = true))) (by simp [undef]) ?_ (fun gq => ?_)
      ·
       refine c_region ?_
       refine wl (r_mv (v := .int _ _) rfl) ?_
       refine wl (r_mv (v := .slice _ _ _) rfl) ?_
       refine wl (r_len Tryd.underlying67 rfl) ?_
       refine wl (r_lss rfl rfl) ?_
       refine wl (r_mv (v := .bool _) rfl) ?_
       refine wl_casesd 115 rfl (fun g115 => ?_) (fun g115 => ?_)
       ·
        refine wl_gd 115 rfl rfl ?_
        refine wl (r_mv (v := .slice _ _ _) rfl) ?_
        refine wl_gd 115 rfl rfl ?_
        refine wl (r_mv (v := .int _ _) rfl) ?_
        have hkB2 : k2 < B.length := by omega
        obtain ⟨kb, ko, Ak, ck, hke, _, hkc, hIk⟩ := hMB.at2 (show k2 < (msL B).length by rw [msL_len]; exact hkB2)
        subst hke
        rw [msL_get] at hkc hIk
        refine wl_gd 115 rfl rfl ?_
        refine wl (r_ia (i := k2) Tryd.underlying67 sz33_CRi rfl rfl (by omega) rfl) ?_
        refine wl_gd 115 rfl rfl ?_
        refine wl (r_ld1 (v := .slice _ _ _) Tryd.underlying33 rfl rfl hkc) ?_
        refine wl_gd 115 rfl rfl ?_
        refine wl (r_len Tryd.underlying33 rfl) ?_
        refine wl_gd 115 rfl rfl ?_
        refine wl (r_mv (v := .slice _ _ _) rfl) ?_
        refine wl_gd 115 rfl rfl ?_
        refine wl (r_len Tryd.underlying33 rfl) ?_
        refine wl_gd 115 rfl rfl ?_
        refine wl (r_gtr rfl rfl) ?_
        refine wl_gd 115 rfl rfl ?_
        refine wl (r_mv (v := .bool _) rfl) ?_
        refine wl_casesd 124 rfl (fun g124 => ?_) (fun g124 => ?_)
        ·
         refine wlgn 124 rfl rfl rfl ?_
         refine wlgn 124 rfl rfl rfl ?_
         refine wlgn 124 rfl rfl rfl ?_
         refine wlgn 124 rfl rfl rfl ?_
         refine wlgn 124 rfl rfl rfl ?_
         refine wlgn 124 rfl rfl rfl ?_
         refine wlgn 124 rfl rfl rfl ?_
         refine wlgn 124 rfl rfl rfl ?_
         refine wlgn 124 rfl rfl rfl ?_
         refine wlgu 133 rfl rfl ?_
         refine wlgu 133 rfl rfl ?_
         refine wlgu 133 rfl rfl ?_
         refine wlgu 133 rfl rfl ?_
         refine wlgu 133 rfl rfl ?_
         refine wlgu 133 rfl rfl ?_
         refine wlgu 133 rfl rfl ?_
         refine wlgn 124 rfl rfl rfl ?_
         refine wl_gd 115 rfl rfl ?_
         refine wl (r_pt (v := .bool _) rfl rfl) ?_
         refine wl (r_pt (v := .bool _) rfl rfl) ?_
         refine x_nil (e_R ⟨rfl, (by repeat (first | exact ag_refl | exact ag_ovr' | refine ag_upd rfl ?_ | refine ag_sub rfl ?_ | refine ag_kn (by assumption) ?_)), ?_⟩)
         show Value.bool _ = Value.bool _
         first | exact ip0 g115 | exact ip1 g115 g124 | exact ip2 g124 g133 | exact ip3 g115 g124 g133
        ·
         refine wl_gd 124 rfl rfl ?_
         refine wl (r_mv (v := .slice _ _ _) rfl) ?_
         refine wl_gd 124 rfl rfl ?_
         refine wl (r_mv (v := .int _ _) rfl) ?_
         refine wl_gd 124 rfl rfl ?_
         refine wl (r_ia (i := k2) Tryd.underlying67 sz33_CRi rfl rfl (by omega) rfl) ?_
         refine wl_gd 124 rfl rfl ?_
         refine wl (r_ld1 (v := .slice _ _ _) Tryd.underlying33 rfl rfl hkc) ?_
         refine wl_gd 124 rfl rfl ?_
         refine wl (r_len Tryd.underlying33 rfl) ?_
         refine wl_gd 124 rfl rfl ?_
         refine wl (r_mv (v := .slice _ _ _) rfl) ?_
         refine wl_gd 124 rfl rfl ?_
         refine wl (r_len Tryd.underlying33 rfl) ?_
         refine wl_gd 124 rfl rfl ?_
         refine wl (r_eql rfl rfl) ?_
         refine wl_gd 124 rfl rfl ?_
         refine wl (r_mv (v := .bool _) rfl) ?_
         refine wl_casesd 133 rfl (fun g133 => ?_) (fun g133 => ?_)
         ·
          refine wl_gd 133 rfl rfl ?_
          refine wl (r_mv (v := .slice _ _ _) rfl) ?_
          refine wl_gd 133 rfl rfl ?_
          refine wl (r_mv (v := .int _ _) rfl) ?_
          refine wl_gd 133 rfl rfl ?_
          refine wl (r_ia (i := k2) Tryd.underlying67 sz33_CRi rfl rfl (by omega) rfl) ?_
          refine wl_gd 133 rfl rfl ?_
          refine wl (r_ld1 (v := .slice _ _ _) Tryd.underlying33 rfl rfl hkc) ?_
          refine wl_gd 133 rfl rfl ?_
          refine wl (r_mv (v := .slice _ _ _) rfl) ?_
          refine wl_gd 133 rfl rfl ?_
          refine wl_cl fn33 (scmp_any _ _ _ _ _ _ _ hIk (hIq.mono hBS)) rfl (fun e' w19 hr => ?_)
          obtain ⟨rfl, rfl⟩ := hr
          refine ⟨_, rfl, ?_⟩
          refine wl_gd 133 rfl rfl ?_
          refine wl (r_lss rfl rfl) ?_
          refine wl_gd 124 rfl rfl ?_
          refine wl (r_pt (v := .bool _) rfl rfl) ?_
          refine wl_gd 115 rfl rfl ?_
          refine wl (r_pf (v := .bool _) rfl rfl) ?_
          refine wl (r_pt (v := .bool _) rfl rfl) ?_
          refine x_nil (e_R ⟨rfl, (by repeat (first | exact ag_refl | exact ag_ovr' | refine ag_upd rfl ?_ | refine ag_sub rfl ?_ | refine ag_kn (by assumption) ?_)), ?_⟩)
          show Value.bool _ = Value.bool _
          first | exact ip0 g115 | exact ip1 g115 g124 | exact ip2 g124 g133 | exact ip3 g115 g124 g133
         ·
          refine wlgn 133 rfl rfl rfl ?_
          refine wlgn 133 rfl rfl rfl ?_
          refine wlgn 133 rfl rfl rfl ?_
          refine wlgn 133 rfl rfl rfl ?_
          refine wlgn 133 rfl rfl rfl ?_
          refine wlgn 133 rfl rfl rfl ?_
          refine wlgn 133 rfl rfl rfl ?_
          refine wl_gd 124 rfl rfl ?_
          refine wl (r_pf (v := .bool _) rfl rfl) ?_
          refine wl_gd 115 rfl rfl ?_
          refine wl (r_pf (v := .bool _) rfl rfl) ?_
          refine wl (r_pt (v := .bool _) rfl rfl) ?_
          refine x_nil (e_R ⟨rfl, (by repeat (first | exact ag_refl | exact ag_ovr' | refine ag_upd rfl ?_ | refine ag_sub rfl ?_ | refine ag_kn (by assumption) ?_)), ?_⟩)
          show Value.bool _ = Value.bool _
          first | exact ip0 g115 | exact ip1 g115 g124 | exact ip2 g124 g133 | exact ip3 g115 g124 g133
       ·
        refine wlgn 115 rfl rfl rfl ?_
        refine wlgn 115 rfl rfl rfl ?_
        refine wlgn 115 rfl rfl rfl ?_
        refine wlgn 115 rfl rfl rfl ?_
        refine wlgn 115 rfl rfl rfl ?_
        refine wlgn 115 rfl rfl rfl ?_
        refine wlgn 115 rfl rfl rfl ?_
        refine wlgn 115 rfl rfl rfl ?_
        refine wlgn 115 rfl rfl rfl ?_
        refine wlgu 124 rfl rfl ?_
        refine wlgu 124 rfl rfl ?_
        refine wlgu 124 rfl rfl ?_
        refine wlgu 124 rfl rfl ?_
        refine wlgu 124 rfl rfl ?_
        refine wlgu 124 rfl rfl ?_
        refine wlgu 124 rfl rfl ?_
        refine wlgu 124 rfl rfl ?_
        refine wlgu 124 rfl rfl ?_
        refine wlgu 133 rfl rfl ?_
        refine wlgu 133 rfl rfl ?_
        refine wlgu 133 rfl rfl ?_
        refine wlgu 133 rfl rfl ?_
        refine wlgu 133 rfl rfl ?_
        refine wlgu 133 rfl rfl ?_
        refine wlgu 133 rfl rfl ?_
        refine wlgu 124 rfl rfl ?_
        refine wlgn 115 rfl rfl rfl ?_
        refine wl (r_pf (v := .bool _) rfl rfl) ?_
        refine x_nil (e_R ⟨rfl, (by repeat (first | exact ag_refl | exact ag_ovr' | refine ag_upd rfl ?_ | refine ag_sub rfl ?_ | refine ag_kn (by assumption) ?_)), ?_⟩)
        show Value.bool _ = Value.bool _
        first | exact ip0 g115 | exact ip1 g115 g124 | exact ip2 g124 g133 | exact ip3 g115 g124 g133
      refine e_S ?_
      refine c_ifd rfl (fun c143 => ?_) (fun c143 => ?_)
      ·
       obtain ⟨hk2, hlt2⟩ := insP_lt c143 hbB hqt htB hnew
       have hlok2 : ∀ j (hj : j < B.length), j < k2 + 1 → Lt 64 B[j] (ds.getD q 0) := fun j hj h => by
         by_cases e : j = k2
         · subst e; exact hlt2
         · exact hlok j hj (by omega)
       refine c_skip ?_
       refine e_S ?_
       refine c_block ?_
       refine c_region ?_
       refine wl (r_mv (v := .int _ _) rfl) ?_
       refine wl (r_add rfl rfl rfl (by omega)) ?_
       refine wl (r_as (v := .int _ _) rfl) ?_
       refine x_nil ?_
       refine e_B ?_
       refine e_LS (B.length - (k2 + 1)) (by omega) (by repeat (first | exact ag_refl | exact ag_ovr' | refine ag_upd rfl ?_ | refine ag_sub rfl ?_ | refine ag_kn (by assumption) ?_)) ?_
       exact ⟨k2 + 1, hk2, rfl, rfl, hlok2, rfl⟩
      ·
       have hhik : ∀ hk : k2 < B.length, Lt 64 (ds.getD q 0) B[k2] := fun hk => insP_no c143 hk hbB hqt htB hnew
       refine c_exit ?_
       refine e_Sx ?_
       refine e_LSx ?_
       refine e_Bx ?_
       refine e_S ?_
       obtain ⟨wV, hwV⟩ : ∃ z, z = w17 := ⟨_, rfl⟩
       have hBV : Bel wV w17 := by rw [hwV]; exact Below.refl _ _
       have ltR : ∀ g ∈ aL A12, g < wV.heap.size := fun g hg => by rw [hwV]; exact (hoR.lt g hg).2
       have ltN : ∀ g ∈ aL A13, g < wV.heap.size := fun g hg => by rw [hwV]; exact (hoN.lt g hg).2
       have sV : wS.heap.size ≤ wV.heap.size := by rw [hwV]; exact Bel.size hBS
       have hinl : B.length + 1 = (B.take k2 ++ ([ds.getD q 0] ++ B.drop k2)).length := by simp; omega
       have hvl : vb.length = B.length := by rw [hRB.1, msL_len]
       clear hMB
       refine c_region ?_
       refine wl (r_mv (v := .slice _ _ _) rfl) ?_
       refine wl_cl fn35 (clonev_any _ ho16 hRB.one (by omega)) rfl (fun e' w20 hr => ?_)
       obtain ⟨⟨Ac, cc, rfl, hoC⟩, hs⟩ := hr
       replace hs := Same.of_bel hs
       replace hB := hB.tr0 hs
       replace hBS := hBS.tr0 hs
       replace hoR := hoR.tr0 hs
       replace hoN := hoN.tr0 hs
       replace ho16 := ho16.tr0 hs
       replace hBV := hBV.tr0 hs
       clear hs
       rw [← hwV] at hoC
       clear hwV ho16
       refine ⟨_, rfl, ?_⟩
       refine wl (r_mv (v := .int _ _) rfl) ?_
       refine wl (r_mv (v := .slice _ _ _) rfl) ?_
       refine wl_bs (cs := #[_]) [(0, .slice _ _ _)] rfl Tryd.underlying67 sz33_CRi ze33 (by decide) (by decide) (by kernel_rfl) rfl (fun b150 w21 hb150 hs hr => ?_)
       have or_hoR_b150 := fun g hg => Nat.lt_of_lt_of_le (hoR.lt g hg).2 hr
       have or_hoN_b150 := fun g hg => Nat.lt_of_lt_of_le (hoN.lt g hg).2 hr
       have or_hoC_b150 := fun g hg => Nat.lt_of_lt_of_le (hoC.lt g hg).2 hr
       have lo150 := Nat.le_trans (Bel.size hB) hr
       have lo_hBS_b150 := Nat.le_trans (Bel.size hBS) hr
       have lo_hBV_b150 := Nat.le_trans (Bel.size hBV) hr
       replace hB := hB.tr0 hs
       replace hBS := hBS.tr0 hs
       replace hoR := hoR.tr0 hs
       replace hoN := hoN.tr0 hs
       replace hBV := hBV.tr0 hs
       replace hoC := hoC.tr0 hs
       clear hs
       clear hr
       have sVo := Bel.size hBV
       refine wl_cl fn34 (insn_any hvl _ hoC hb150 (fun g hg => Nat.ne_of_lt (or_hoC_b150 g hg)) hkB (by omega) (Bel.size hBV) hRB.one rfl) rfl (fun e' w22 hr => ?_)
       obtain ⟨Ai, ci, rfl, hoI, hs, hgI⟩ := hr
       replace hB := hB.tr hs (fun g hg => Nat.le_trans (by omega) (hoC.lt g hg).1)
       replace hBS := hBS.tr hs (fun g hg => Nat.le_trans (by omega) (hoC.lt g hg).1)
       replace hoR := hoR.tr hs (fun g hg hx => by have := (hoC.lt _ hx).1; (try have := ltR g hg); omega)
       replace hoN := hoN.tr hs (fun g hg hx => by have := (hoC.lt _ hx).1; (try have := ltN g hg); omega)
       replace hBV := hBV.tr hs (fun g hg => Nat.le_trans (by omega) (hoC.lt g hg).1)
       replace hb150 := hb150.tr hs (fun hx => by have := (hoC.lt _ hx).1; (try have := or_hoC_b150 _ hx); omega)
       have hap2 : ∀ g ∈ aL Ai, g ∈ aL A12 → False := fun g h1 h2 => by
         have h3 := ltR g h2
         rcases hgI g h1 with h4 | h4
         · have := (hoC.lt g h4).1; omega
         · omega
       replace hoI := hoI.low sV
       clear hoC
       refine ⟨_, rfl, ?_⟩
       refine wl (r_as (v := .slice _ _ _) rfl) ?_
       refine x_nil ?_
       refine e_B ?_
       refine e_S ?_
       refine c_region ?_
       refine wl (r_add rfl rfl rfl (by omega)) ?_
       refine wl (r_mv (v := .int _ _) rfl) ?_
       refine x_nil ?_
       refine e_LS (ds.length - (q + 1)) (by omega) (by repeat (first | exact ag_refl | exact ag_ovr' | refine ag_upd rfl ?_ | refine ag_sub rfl ?_ | refine ag_kn (by assumption) ?_)) ?_
       first
         | exact ⟨q + 1, B.take k2 ++ ([ds.getD q 0] ++ B.drop k2), Ai, ci, insV vb k2 (Value.slice Aq (lsI (ds.getD q 0)).length cq), by omega, rfl, rfl, (show Value.slice Ai (B.length + 1) ci = _ by rw [hinl]), hIB.put hql2 htq hlok hhik, by rw [msL_app, msL_app, msL_tk, msL_dr]; exact hRB.ins hIq (by rw [msL_len]; exact hkB), hap2, hB, hBS, hoR, hoN, by rw [← hinl]; exact hoI⟩
         | exact ⟨q + 1, B, A16, c16, vb, by omega, rfl, rfl, rfl, hIB.skip hql2 htq, hRB, hap, hB, hBS, hoR, hoN, ho16⟩
     ·
      have htq : ¬ tz (ds.getD q 0) = i := by omega
      refine c_skip ?_
      refine e_B ?_
      refine e_S ?_
      refine c_region ?_
      refine wl (r_add rfl rfl rfl (by omega)) ?_
      refine wl (r_mv (v := .int _ _) rfl) ?_
      refine x_nil ?_
      refine e_LS (ds.length - (q + 1)) (by omega) (by repeat (first | exact ag_refl | exact ag_ovr' | refine ag_upd rfl ?_ | refine ag_sub rfl ?_ | refine ag_kn (by assumption) ?_)) ?_
      first
        | exact ⟨q + 1, B.take k2 ++ ([ds.getD q 0] ++ B.drop k2), Ai, ci, insV vb k2 (Value.slice Aq (lsI (ds.getD q 0)).length cq), by omega, rfl, rfl, (show Value.slice Ai (B.length + 1) ci = _ by rw [hinl]), hIB.put hql2 htq hlok hhik, by rw [msL_app, msL_app, msL_tk, msL_dr]; exact hRB.ins hIq (by rw [msL_len]; exact hkB), hap2, hB, hBS, hoR, hoN, by rw [← hinl]; exact hoI⟩
        | exact ⟨q + 1, B, A16, c16, vb, by omega, rfl, rfl, rfl, hIB.skip hql2 htq, hRB, hap, hB, hBS, hoR, hoN, ho16⟩
    ·
     have hqe : q = ds.length := by omega
     rw [hqe] at hIB
     have hBD := hIB.done hperm hDs
     have hI1 := hI
     rw [filt_split hDs i, ← hBD] at hI1
     have hBl : B.length ≤ 60 := by
       rw [hBD]
       have h2 := List.length_filter_le (fun x => decide (tz x = i)) D
       omega
     refine c_exit ?_
     refine e_Sx ?_
     refine e_LSx ?_
     refine e_Bx ?_
     refine e_S ?_
     refine c_seq ?_
     refine c_seq ?_
     refine c_region ?_
     refine wl (r_mv (v := .slice _ _ _) rfl) ?_
     refine wl (r_len Tryd.underlying67 rfl) ?_
     refine wl (r_mv (v := .int _ _) rfl) ?_
     refine x_nil ?_
     refine e_S ?_
     refine c_block ?_
     refine c_loopS [12, 13, 14, 21, 155, 156, 157, 158, 159, 160, 161, 162, 163, 164, 165, 166, 167, 168, 169, 170, 171, 172, 173, 174, 175, 176, 177, 178] (fun m g w' => ∃ (r a k cn : Nat) (pr : List (Nat × ByteArray)) (A12 A13 : Option Addr) (c12 c13 : Nat) (vo : List Value), r ≤ B.length ∧ m = B.length - r ∧ g 155 = .int .i64 r ∧ g 14 = .int .i64 a ∧ g 12 = .slice A12 pr.length c12 ∧ g 13 = .slice A13 pr.length c13 ∧ PopI l D (B.drop r ++ (D.filter (fun x => decide (i + 1 ≤ tz x)))) pr i a k cn ∧ RwB wS (msL (pr.map Prod.fst)) vo ∧ Bel w w' ∧ Bel wS w' ∧ Own w' wS.heap.size 33 1 A12 pr.length c12 vo ∧ Own w' wS.heap.size 9 1 A13 pr.length c13 (pr.map nmV) ∧ (∀ g ∈ aL A16, g ∈ aL A12 → False) ∧ Own w' wS.heap.size 33 1 A16 B.length c16 vb) (B.length) ?_ (fun m g46 w23 hI => ?_)
     ·
      exact ⟨0, a, k, cn, pr, A12, A13, c12, c13, vo, Nat.zero_le _, rfl, rfl, rfl, rfl, rfl, hI1, hRO, hB, hBS, hoR, hoN, hap, ho16⟩
     obtain ⟨r, a, k, cn, pr, A12, A13, c12, c13, vo, hrl, hmr, h155, h14, h12, h13, hI, hRO, hB, hBS, hoR, hoN, hap, ho16⟩ := hI
     refine c_know 155 (.int .i64 r) h155 (by simp [undef]) ?_
     refine c_know 14 (.int .i64 a) h14 (by simp [undef]) ?_
     refine c_know 12 (.slice A12 pr.length c12) h12 (by simp [undef]) ?_
     refine c_know 13 (.slice A13 pr.length c13) h13 (by simp [undef]) ?_
     refine c_seq ?_
     refine c_region ?_
     refine wl (r_lss rfl rfl) ?_
     refine x_nil ?_
     refine e_S ?_
     refine c_seq ?_
     refine c_ifd rfl (fun c156 => ?_) (fun c156 => ?_)
     ·
      have hrl2 : r < B.length := by omega
      obtain ⟨rb, ro, Ar, cr, hre, hrb, hrc, hIr⟩ := (mat_ownB ho16 hRB hBS).at2 (show r < (msL B).length by rw [msL_len]; exact hrl2)
      rw [msL_get] at hrc
      obtain ⟨Ar2, cr2, hv2, hIr2⟩ := hRB.2 r (by rw [msL_len]; exact hrl2)
      rw [msL_get] at hv2 hIr2
      have hrv : Value.slice Ar (lsI (B.getD r 0)).length cr = Value.slice Ar2 (lsI (B.getD r 0)).length cr2 := by
        have h1 := own_at (b := rb) (o := ro) ho16 hv2 hre
        exact Option.some.inj (hrc.symm.trans h1)
      cases hrv
      clear hIr
      have hIr := hIr2
      have hBe : B.drop r = B.getD r 0 :: B.drop (r + 1) := by rw [List.drop_eq_getElem_cons hrl2]; simp [List.getD, hrl2]
      rw [hBe] at hI
      have hItz : tz (B.getD r 0) = i := (hIB.mem (getD_mem hrl2)).2
      have hcl := PopI.small hI
      have haL := NB.le hI.nb
      refine c_skip ?_
      refine e_S ?_
      refine c_seq ?_
      refine c_block ?_
      refine c_seq ?_
      refine c_region ?_
      refine wl (r_ia (i := r) Tryd.underlying67 sz33_CRi (show ev _ _ _ = _ from sl_eq _ _ hre) rfl (by omega) rfl) ?_
      refine wl (r_ld1 (v := .slice _ _ _) Tryd.underlying33 rfl rfl hrc) ?_
      refine wl (r_as (v := .slice _ _ _) rfl) ?_
      refine x_nil ?_
      refine e_S ?_
      refine c_seq ?_
      refine c_region ?_
      refine wl (r_mv (v := .int _ _) rfl) ?_
      refine wl (r_add (c := ((a + 1 : Nat) : Int)) rfl rfl (by omega) (by omega)) ?_
      refine wl (r_as (v := .int _ _) rfl) ?_
      refine x_nil ?_
      refine e_S ?_
      refine c_seq ?_
      refine c_block ?_
      refine c_loopS [14, 161, 162, 163, 164, 165, 166, 167] (fun m g w' => ∃ (a2 fu : Nat), m = fu ∧ g 14 = .int .i64 ((a2 + 1 : Nat) : Int) ∧ a2 + fu = a + 60 ∧ nxt (usedB l) a = nxF (usedB l) fu a2 ∧ NB (usedB l) cn a2 ∧ Bel w w' ∧ Bel wS w' ∧ Own w' wS.heap.size 33 1 A12 pr.length c12 vo ∧ Own w' wS.heap.size 9 1 A13 pr.length c13 (pr.map nmV) ∧ Own w' wS.heap.size 33 1 A16 B.length c16 vb) (60) ?_ (fun m g49 w24 hI => ?_)
      ·
       exact ⟨a, 60, rfl, rfl, rfl, rfl, hI.nb, hB, hBS, hoR, hoN, ho16⟩
      obtain ⟨a2, fu, hm2, h14, hau, hnx, hnb, hB, hBS, hoR, hoN, ho16⟩ := hI
      have ha2 := hnb.le
      refine c_know 14 (.int .i64 ((a2 + 1 : Nat) : Int)) h14 (by simp [undef]) ?_
      refine c_seq ?_
      refine c_seq ?_
      refine c_region ?_
      refine wl (r_mv (v := .slice _ _ _) rfl) ?_
      refine wl (r_mv (v := .int _ _) rfl) ?_
      refine wl_cl fn26_CRc (sh_strconv_Itoa_small (a2 + 1) (by omega) _) rfl (fun e' w25 hr => ?_)
      obtain ⟨rfl, rfl⟩ := hr
      refine ⟨_, rfl, ?_⟩
      refine wl (r_addS rfl rfl (glb_ok (by omega))) ?_
      refine wl_cl fn36 (usd_any _ (hTS.mono hBS)) rfl (fun e' w26 hr => ?_)
      obtain ⟨rfl, hs⟩ := hr
      replace hs := Same.of_bel hs
      replace hB := hB.tr0 hs
      replace hBS := hBS.tr0 hs
      replace hoR := hoR.tr0 hs
      replace hoN := hoN.tr0 hs
      replace ho16 := ho16.tr0 hs
      clear hs
      refine ⟨_, rfl, ?_⟩
      refine x_nil ?_
      refine e_S ?_
      refine c_if rfl (fun c165 => ?_) (fun c165 => ?_)
      ·
       have hus : usedB l (a2 + 1) = true := c165
       obtain ⟨fu', rfl⟩ : ∃ fu', fu = fu' + 1 := ⟨fu - 1, by omega⟩
       refine c_skip ?_
       refine e_S ?_
       refine c_block ?_
       refine c_region ?_
       refine wl (r_mv (v := .int _ _) rfl) ?_
       refine wl (r_add (c := ((a2 + 1 + 1 : Nat) : Int)) rfl rfl (by omega) (by omega)) ?_
       refine wl (r_as (v := .int _ _) rfl) ?_
       refine x_nil ?_
       refine e_B ?_
       refine e_LS (fu') (by omega) (by repeat (first | exact ag_refl | exact ag_ovr' | refine ag_upd rfl ?_ | refine ag_sub rfl ?_ | refine ag_kn (by assumption) ?_)) ?_
       exact ⟨a2 + 1, fu', rfl, rfl, by omega, by rw [hnx, nxt_step hus], hnb.used hus, hB, hBS, hoR, hoN, ho16⟩
      ·
       have hus : usedB l (a2 + 1) = false := c165
       have hI2 := PopI.pop hI hItz (hnx.trans (nxt_stop hus)) hnb
       refine c_exit ?_
       refine e_Sx ?_
       refine e_LSx ?_
       refine e_Bx ?_
       refine e_S ?_
       refine c_seq ?_
       refine c_region ?_
       refine wl (r_mv (v := .slice _ _ _) rfl) ?_
       refine wl (r_mv (v := .slice _ _ _) rfl) ?_
       refine wl_bs (cs := #[_]) [(0, .slice _ _ _)] rfl Tryd.underlying67 sz33_CRi ze33 (by decide) (by decide) (by kernel_rfl) rfl (fun b170 w27 hb170 hs hr => ?_)
       have or_hoR_b170 := fun g hg => Nat.lt_of_lt_of_le (hoR.lt g hg).2 hr
       have or_hoN_b170 := fun g hg => Nat.lt_of_lt_of_le (hoN.lt g hg).2 hr
       have or_ho16_b170 := fun g hg => Nat.lt_of_lt_of_le (ho16.lt g hg).2 hr
       have lo170 := Nat.le_trans (Bel.size hB) hr
       have lo_hBS_b170 := Nat.le_trans (Bel.size hBS) hr
       replace hB := hB.tr0 hs
       replace hBS := hBS.tr0 hs
       replace hoR := hoR.tr0 hs
       replace hoN := hoN.tr0 hs
       replace ho16 := ho16.tr0 hs
       clear hs
       clear hr
       have lt16 := fun g (hg : g ∈ aL A16) => (ho16.lt g hg).2
       refine wl_app Tryd.underlying67 in33 rfl (by decide) hoR hb170 rfl rfl rfl (by repeat (first | rfl | refine one_cons (by first | rfl | assumption) ?_)) (by decide) (by omega) (by omega) (Bel.size hBS) (fun g171 cap171 w28 ho171 hs hg => ?_)
       replace hB := hB.tr hs (fun g hg => Nat.le_trans (by omega) (hoR.lt g hg).1)
       replace hBS := hBS.tr hs (fun g hg => Nat.le_trans (by omega) (hoR.lt g hg).1)
       replace hoN := hoN.tr hs (fun g hg hx => (own_apart hoN hoR (by decide)) g hg hx)
       replace ho16 := ho16.tr hs (fun g hg hx => (hap) g hg hx)
       have hap2 : ∀ g ∈ aL A16, g ∈ aL (some ⟨g171, 0, none⟩) → False := fun g h1 h2 => by
         have e := List.mem_singleton.1 h2
         subst e
         rcases hg with hg | hg
         · exact hap g h1 (by rw [hg]; exact List.mem_singleton.2 rfl)
         · have := lt16 g h1
           omega
       refine wl (r_as (v := .slice _ _ _) rfl) ?_
       refine x_nil ?_
       refine e_S ?_
       refine c_region ?_
       refine wl (r_mv (v := .slice _ _ _) rfl) ?_
       refine wl (r_mv (v := .int _ _) rfl) ?_
       refine wl_cl fn26_CRc (sh_strconv_Itoa_small (a2 + 1) (by omega) _) rfl (fun e' w29 hr => ?_)
       obtain ⟨rfl, rfl⟩ := hr
       refine ⟨_, rfl, ?_⟩
       refine wl (r_addS rfl rfl (glb_ok (by omega))) ?_
       refine wl_bs (cs := #[_]) [(0, .string _)] rfl Tryd.underlying70 sz9 ze9 (by decide) (by decide) (by kernel_rfl) rfl (fun b176 w30 hb176 hs hr => ?_)
       have or_hoN_b176 := fun g hg => Nat.lt_of_lt_of_le (hoN.lt g hg).2 hr
       have or_ho16_b176 := fun g hg => Nat.lt_of_lt_of_le (ho16.lt g hg).2 hr
       have or_ho171_b176 := fun g hg => Nat.lt_of_lt_of_le (ho171.lt g hg).2 hr
       have lo176 := Nat.le_trans (Bel.size hB) hr
       have lo_hBS_b176 := Nat.le_trans (Bel.size hBS) hr
       replace hB := hB.tr0 hs
       replace hBS := hBS.tr0 hs
       replace hoN := hoN.tr0 hs
       replace ho16 := ho16.tr0 hs
       replace ho171 := ho171.tr0 hs
       clear hs
       clear hr
       refine wl_app Tryd.underlying70 in9 rfl (by decide) hoN hb176 rfl rfl rfl (by repeat (first | rfl | refine one_cons (by first | rfl | assumption) ?_)) (by decide) (by omega) (by omega) (Bel.size hBS) (fun g177 cap177 w31 ho177 hs hg => ?_)
       replace hB := hB.tr hs (fun g hg => Nat.le_trans (by omega) (hoN.lt g hg).1)
       replace hBS := hBS.tr hs (fun g hg => Nat.le_trans (by omega) (hoN.lt g hg).1)
       replace ho16 := ho16.tr hs (fun g hg hx => (own_apart ho16 hoN (by decide)) g hg hx)
       replace ho171 := ho171.tr hs (fun g hg hx => (own_apart ho171 hoN (by decide)) g hg hx)
       refine wl (r_as (v := .slice _ _ _) rfl) ?_
       refine x_nil ?_
       refine e_B ?_
       refine e_S ?_
       refine c_region ?_
       refine wl (r_add rfl rfl rfl (by omega)) ?_
       refine wl (r_mv (v := .int _ _) rfl) ?_
       refine x_nil ?_
       refine e_LS (B.length - (r + 1)) (by omega) (by repeat (first | exact ag_refl | exact ag_ovr' | refine ag_upd rfl ?_ | refine ag_sub rfl ?_ | refine ag_kn (by assumption) ?_)) ?_
       exact ⟨r + 1, a2 + 1, _, _, pr ++ [(B.getD r 0, glb (a2 + 1))], _, _, _, _, vo ++ [Value.slice Ar (lsI (B.getD r 0)).length cr], by omega, rfl, rfl, rfl, psl_snoc2 _ _ _ _, psl_snoc2 _ _ _ _, hI2, by rw [List.map_append, msL_app]; exact hRO.snoc hIr, hB, hBS, by rw [List.length_append]; exact ho171, by rw [List.length_append, List.map_append]; exact ho177, hap2, ho16⟩
     ·
      have hre : r = B.length := by omega
      rw [hre, List.drop_length, List.nil_append] at hI
      refine c_exit ?_
      refine e_Sx ?_
      refine e_LSx ?_
      refine e_Bx ?_
      refine e_S ?_
      refine c_seq ?_
      obtain ⟨ob, oo, Ab, cb, hoe, hob, hoc, hIb⟩ := hMS.at2 (show i < (msL (base l ++ ds)).length by rw [msL_len, List.length_append, hbl]; omega)
      have hbg : (base l ++ ds).getD i 0 = downN l i := by rw [getD_app (by rw [hbl]; exact hlt)]; simp [base]
      rw [msL_get, hbg] at hoc hIb
      obtain ⟨tb, to, At, ct, hte, htb, htr, _⟩ := hTS.at_ (Below.refl _ _ : Bel wS wS) hlt
      have hno : ∀ x ∈ (D.filter (fun x => decide (i + 1 ≤ tz x))).head?, tz x ≠ i := fun x hx => by
        have := (List.mem_filter.1 (List.mem_of_mem_head? hx)).2
        simp at this
        omega
      have hI2 := hI.old hlt hno
      have hcl2 := hI.small2
      refine c_region ?_
      refine wl (r_mv (v := .slice _ _ _) rfl) ?_
      refine wl (r_mv (v := .slice _ _ _) rfl) ?_
      refine wl (r_mv (v := .int _ _) rfl) ?_
      refine wl (r_ia (i := i) Tryd.underlying67 sz33_CRi (show ev _ _ _ = _ from sl_eq _ _ hoe) rfl (by rw [List.length_append]; omega) rfl) ?_
      refine wl (r_ld1 (v := .slice _ _ _) Tryd.underlying33 rfl rfl (hBS.cell hob hoc)) ?_
      refine wl_bs (cs := #[_]) [(0, .slice _ _ _)] rfl Tryd.underlying67 sz33_CRi ze33 (by decide) (by decide) (by kernel_rfl) rfl (fun b184 w32 hb184 hs hr => ?_)
      have or_hoR_b184 := fun g hg => Nat.lt_of_lt_of_le (hoR.lt g hg).2 hr
      have or_hoN_b184 := fun g hg => Nat.lt_of_lt_of_le (hoN.lt g hg).2 hr
      have lo184 := Nat.le_trans (Bel.size hB) hr
      have lo_hBS_b184 := Nat.le_trans (Bel.size hBS) hr
      replace hB := hB.tr0 hs
      replace hBS := hBS.tr0 hs
      replace hoR := hoR.tr0 hs
      replace hoN := hoN.tr0 hs
      clear hs
      clear hr
      refine wl_app Tryd.underlying67 in33 rfl (by decide) hoR hb184 rfl rfl rfl (by repeat (first | rfl | refine one_cons (by first | rfl | assumption) ?_)) (by decide) (by omega) (by omega) (Bel.size hBS) (fun g185 cap185 w33 ho185 hs hg => ?_)
      replace hB := hB.tr hs (fun g hg => Nat.le_trans (by omega) (hoR.lt g hg).1)
      replace hBS := hBS.tr hs (fun g hg => Nat.le_trans (by omega) (hoR.lt g hg).1)
      replace hoN := hoN.tr hs (fun g hg hx => (own_apart hoN hoR (by decide)) g hg hx)
      refine wl (r_as (v := .slice _ _ _) rfl) ?_
      refine x_nil ?_
      refine e_S ?_
      refine c_region ?_
      refine wl (r_mv (v := .slice _ _ _) rfl) ?_
      refine wl (r_mv (v := .slice _ _ _) rfl) ?_
      refine wl (r_mv (v := .int _ _) rfl) ?_
      refine wl (r_ia (i := i) Tryd.underlying22 sz35 (show ev _ _ _ = _ from sl_eq _ _ hte) rfl hlt rfl) ?_
      refine wl (r_fa Tryd.underlying35 sz9 (by decide) rfl rfl rfl) ?_
      refine wl (r_ld1 (v := .string _) Tryd.underlying9 rfl rfl (hBS.cell htb (htr 0 _ rfl))) ?_
      refine wl_bs (cs := #[_]) [(0, .string _)] rfl Tryd.underlying70 sz9 ze9 (by decide) (by decide) (by kernel_rfl) rfl (fun b192 w34 hb192 hs hr => ?_)
      have or_hoN_b192 := fun g hg => Nat.lt_of_lt_of_le (hoN.lt g hg).2 hr
      have or_ho185_b192 := fun g hg => Nat.lt_of_lt_of_le (ho185.lt g hg).2 hr
      have lo192 := Nat.le_trans (Bel.size hB) hr
      have lo_hBS_b192 := Nat.le_trans (Bel.size hBS) hr
      replace hB := hB.tr0 hs
      replace hBS := hBS.tr0 hs
      replace hoN := hoN.tr0 hs
      replace ho185 := ho185.tr0 hs
      clear hs
      clear hr
      refine wl_app Tryd.underlying70 in9 rfl (by decide) hoN hb192 rfl rfl rfl (by repeat (first | rfl | refine one_cons (by first | rfl | assumption) ?_)) (by decide) (by omega) (by omega) (Bel.size hBS) (fun g193 cap193 w35 ho193 hs hg => ?_)
      replace hB := hB.tr hs (fun g hg => Nat.le_trans (by omega) (hoN.lt g hg).1)
      replace hBS := hBS.tr hs (fun g hg => Nat.le_trans (by omega) (hoN.lt g hg).1)
      replace ho185 := ho185.tr hs (fun g hg hx => (own_apart ho185 hoN (by decide)) g hg hx)
      refine wl (r_as (v := .slice _ _ _) rfl) ?_
      refine x_nil ?_
      refine e_B ?_
      refine e_S ?_
      refine c_region ?_
      refine wl (r_add rfl rfl rfl (by omega)) ?_
      refine wl (r_mv (v := .int _ _) rfl) ?_
      refine x_nil ?_
      refine e_LS (l.length - (i + 1)) (by omega) (by repeat (first | exact ag_refl | exact ag_ovr' | refine ag_upd rfl ?_ | refine ag_sub rfl ?_ | refine ag_kn (by assumption) ?_)) ?_
      exact ⟨i + 1, a, _, cn, pr ++ [(downN l i, (l[i]'hlt).name)], _, _, _, _, vo ++ [Value.slice Ab (lsI (downN l i)).length cb], by omega, rfl, rfl, rfl, psl_snoc2 _ _ _ _, psl_snoc2 _ _ _ _, hI2, by rw [List.map_append, msL_app]; exact hRO.snoc hIb, hB, hBS, by rw [List.length_append]; exact ho185, by rw [List.length_append, List.map_append]; exact ho193⟩
   ·
    have hie : i = l.length := by omega
    subst hie
    have hpr := hI.done
    have hpn : 0 < pr.length := by rw [← hpr, outL, outG_len]; omega
    have hpl := hI.small2
    refine c_exit ?_
    refine e_Sx ?_
    refine e_LSx ?_
    refine e_Bx ?_
    refine e_S ?_
    refine c_seq ?_
    have hMO0 := mat_ownB hoR hRO hBS
    obtain ⟨M, hM⟩ : ∃ M, M = pr.map Prod.fst := ⟨_, rfl⟩
    have hMl : M.length = pr.length := by rw [hM, List.length_map]
    have hMb : ∀ x ∈ M, x < 18446744073709551616 := by rw [hM]; exact outM_lt h60 hdb hpr
    obtain ⟨wO, hwO⟩ : ∃ z, z = w16 := ⟨_, rfl⟩
    have hBO : Bel wO w16 := by rw [hwO]; exact Below.refl _ _
    have hMO : MatIn wO A12 (msL M) := by rw [hwO, hM]; exact hMO0
    have hNO : ∀ j, j < pr.length → ∃ nb, A13 = some ⟨nb, 0, none⟩ ∧ nb < wO.heap.size ∧ wO.cell? ⟨nb, 0 + j * 1, none⟩ = some (.string (pr.getD j (0, ⟨#[]⟩)).2) := fun j hj => by
      rw [hwO]
      obtain ⟨g, e, _, hgl, hc⟩ := hoN.cell (fun e => by rw [List.map_eq_nil_iff] at e; rw [e] at hj; simp at hj)
      exact ⟨g, e, hgl, by rw [Nat.zero_add, Nat.mul_one]; exact hc j _ (by simp [hj, nmV, List.getD])⟩
    have sO : w.heap.size ≤ wO.heap.size := by rw [hwO]; exact Bel.size hB
    clear hwO hMO0 hoR hoN hBS
    refine c_region ?_
    refine wl (r_as (v := .slice _ _ _) rfl) ?_
    refine x_nil ?_
    refine e_S ?_
    refine c_seq ?_
    refine c_seq ?_
    refine c_region ?_
    refine wl (r_mv (v := .slice _ _ _) rfl) ?_
    refine wl (r_len Tryd.underlying67 rfl) ?_
    refine wl (r_mv (v := .int _ _) rfl) ?_
    refine x_nil ?_
    refine e_S ?_
    refine c_block ?_
    refine c_loopS [22, 23, 24, 25, 26, 27, 28, 30, 197, 198, 199, 200, 201, 202, 203, 204, 205, 206, 207, 208, 209, 210, 211, 212, 213, 214, 215, 216, 217, 218, 219, 220, 221, 222, 223, 224, 225, 226, 227, 228, 229, 230, 231, 232, 233, 234, 235, 236, 237, 238, 239, 240, 241, 242, 243, 244, 245, 246, 247, 248, 249, 250, 251, 252, 253, 254, 255, 256, 257, 258, 259, 260, 261, 262, 263, 264, 265, 266, 267, 268, 269, 270, 271, 272, 273, 274, 275, 276, 277, 278] (fun m g w' => ∃ (i hi : Nat) (A22 : Option Addr) (c22 : Nat) (vf : List Value), i ≤ pr.length ∧ m = pr.length - i ∧ g 197 = .int .i64 i ∧ g 22 = .slice A22 i c22 ∧ hi ≤ w'.heap.size ∧ RwT wO.heap.size hi w' (outR pr i) vf ∧ Bel w w' ∧ Bel wO w' ∧ Own w' wO.heap.size 35 2 A22 i c22 vf) (pr.length) ?_ (fun m g59 w36 hI => ?_)
    ·
     exact ⟨0, _, none, 0, [], Nat.zero_le _, rfl, rfl, rfl, Bel.size hBO, RwT.nil _ _ _, hB, hBO, Own.nil _ _ _ _⟩
    obtain ⟨i, hi, A22, c22, vf, hiN, hm, h197, h22, hhi, hR, hB, hBO, ho22⟩ := hI
    refine c_know 197 (.int .i64 i) h197 (by simp [undef]) ?_
    refine c_know 22 (.slice A22 i c22) h22 (by simp [undef]) ?_
    refine c_seq ?_
    refine c_region ?_
    refine wl (r_lss rfl rfl) ?_
    refine x_nil ?_
    refine e_S ?_
    refine c_seq ?_
    refine c_ifd rfl (fun c198 => ?_) (fun c198 => ?_)
    ·
     have hiN2 : i < pr.length := by omega
     obtain ⟨sb, so, As, cs, hse, hsb, hsc, hIs⟩ := hMO.at2 (show i < (msL M).length by rw [msL_len]; omega)
     rw [msL_get] at hsc hIs
     obtain ⟨nb, hne, hnb, hnc⟩ := hNO i hiN2
     refine c_skip ?_
     refine e_S ?_
     refine c_seq ?_
     refine c_block ?_
     refine c_seq ?_
     refine c_region ?_
     refine wl (r_mv (v := .int _ _) rfl) ?_
     refine wl (r_ia (i := i) Tryd.underlying67 sz33_CRi (show ev _ _ _ = _ from sl_eq _ _ hse) rfl (by omega) rfl) ?_
     refine wl (r_ld1 (v := .slice _ _ _) Tryd.underlying33 rfl rfl (hBO.cell hsb hsc)) ?_
     refine wl (r_as (v := .int _ _) rfl) ?_
     refine wl (r_as (v := .slice _ _ _) rfl) ?_
     refine x_nil ?_
     refine e_S ?_
     refine c_seq ?_
     obtain ⟨wI, hwI⟩ : ∃ z, z = w36 := ⟨_, rfl⟩
     have hIB : Bel wI w36 := by rw [hwI]; exact Below.refl _ _
     replace hR : RwT wO.heap.size wI.heap.size w36 (outR pr i) vf := by rw [hwI]; exact hR.up hhi
     have sI : wO.heap.size ≤ wI.heap.size := by rw [hwI]; exact Bel.size hBO
     clear hwI hhi
     refine c_region ?_
     refine wl (r_mv (v := .slice _ _ _) rfl) ?_
     refine wl (r_mv (v := .int _ _) rfl) ?_
     refine wl (r_ia (i := i) Tryd.underlying70 sz9 (show ev _ _ _ = _ from sl_eq _ _ hne) rfl (by omega) rfl) ?_
     refine wl (r_ld1 (v := .string _) Tryd.underlying9 rfl rfl (hBO.cell hnb hnc)) ?_
     refine wl (r_bd1 (v0 := .string _) (fun v0 => #[v0, .slice none 0 0]) rfl (by kernel_rfl)) ?_
     refine wl_al (cs := #[.string ⟨#[]⟩, .slice none 0 0]) ze35 rfl (fun b25 w37 hb25 hs hr => ?_)
     have or_ho22_b25 := fun g hg => Nat.lt_of_lt_of_le (ho22.lt g hg).2 hr
     have lo25 := Nat.le_trans (Bel.size hB) hr
     have lo_hBO_b25 := Nat.le_trans (Bel.size hBO) hr
     have lo_hIB_b25 := Nat.le_trans (Bel.size hIB) hr
     replace hB := hB.tr0 hs
     replace hBO := hBO.tr0 hs
     replace ho22 := ho22.tr0 hs
     replace hIB := hIB.tr0 hs
     replace hR := hR.tr hs (fun g hg => by cases hg)
     clear hs
     clear hr
     refine wl_stW hb25 rfl rfl sz35 rfl (by repeat (first | rfl | refine one_cons (by first | rfl | assumption) ?_)) (fun w38 hq hs => ?_)
     replace hB := hB.tr1 hs lo25
     replace hBO := hBO.tr1 hs lo_hBO_b25
     replace ho22 := ho22.tr1 hs (fun g hg => by have := (ho22.lt g hg).1; (try have := or_ho22_b25 g hg); (try simp only [aL] at hg); (try simp only [List.mem_singleton] at hg); omega)
     replace hIB := hIB.tr1 hs lo_hIB_b25
     replace hR := hR.tr hs (fun g hg => .inl (by rw [List.mem_singleton.1 hg]; omega))
     clear hs
     replace hb25 := hq
     refine x_nil ?_
     refine e_S ?_
     refine c_seq ?_
     refine c_seq ?_
     refine c_region ?_
     refine wl (r_mv (v := .slice _ _ _) rfl) ?_
     refine wl (r_len Tryd.underlying67 rfl) ?_
     refine wl (r_mv (v := .int _ _) rfl) ?_
     refine x_nil ?_
     refine e_S ?_
     refine c_block ?_
     refine c_loopS [26, 27, 28, 30, 209, 210, 211, 212, 213, 214, 215, 216, 217, 218, 219, 220, 221, 222, 223, 224, 225, 226, 227, 228, 229, 230, 231, 232, 233, 234, 235, 236, 237, 238, 239, 240, 241, 242, 243, 244, 245, 246, 247, 248, 249, 250, 251, 252, 253, 254, 255, 256, 257, 258, 259, 260, 261, 262, 263, 264, 265, 266, 267, 268, 269, 270, 271, 272, 273] (fun m g w' => ∃ (j : Nat) (Ap : Option Addr) (cp : Nat), j ≤ pr.length ∧ m = pr.length - j ∧ g 209 = .int .i64 j ∧ RwT wO.heap.size wI.heap.size w' (outR pr i) vf ∧ Bel w w' ∧ Bel wO w' ∧ Bel wI w' ∧ Blk w' b25 35 #[.string (pr.getD i (0, ⟨#[]⟩)).2, .slice Ap (parR M i j).length cp] ∧ Own w' wO.heap.size 35 2 A22 i c22 vf ∧ Own w' (b25 + 1) 3 1 Ap (parR M i j).length cp ((parR M i j).map (Value.int .i64))) (pr.length) ?_ (fun m g63 w39 hI => ?_)
     ·
      exact ⟨0, none, 0, Nat.zero_le _, rfl, rfl, hR, hB, hBO, hIB, hb25, ho22, Own.nil _ _ _ _⟩
     obtain ⟨j, Ap, cp, hjN, hmj, h209, hR, hB, hBO, hIB, hb25, ho22, hoP⟩ := hI
     refine c_know 209 (.int .i64 j) h209 (by simp [undef]) ?_
     refine c_seq ?_
     refine c_region ?_
     refine wl (r_lss rfl rfl) ?_
     refine x_nil ?_
     refine e_S ?_
     refine c_seq ?_
     refine c_ifd rfl (fun c210 => ?_) (fun c210 => ?_)
     ·
      have hjlt : j < pr.length := by omega
      obtain ⟨ub, uo, Au, cu, hue, hub, huc, hIu⟩ := hMO.at2 (show j < (msL M).length by rw [msL_len]; omega)
      rw [msL_get] at huc hIu
      refine c_skip ?_
      refine e_S ?_
      refine c_seq ?_
      refine c_block ?_
      refine c_seq ?_
      refine c_region ?_
      refine wl (r_mv (v := .int _ _) rfl) ?_
      refine wl (r_ia (i := j) Tryd.underlying67 sz33_CRi (show ev _ _ _ = _ from sl_eq _ _ hue) rfl (by omega) rfl) ?_
      refine wl (r_ld1 (v := .slice _ _ _) Tryd.underlying33 rfl rfl (hBO.cell hub huc)) ?_
      refine wl (r_as (v := .int _ _) rfl) ?_
      refine wl (r_as (v := .slice _ _ _) rfl) ?_
      refine x_nil ?_
      refine e_S ?_
      refine c_seq ?_
      refine c_seq ?_
      refine c_region ?_
      refine wl (r_mv (v := .slice _ _ _) rfl) ?_
      refine wl (r_len Tryd.underlying33 rfl) ?_
      refine wl (r_mv (v := .slice _ _ _) rfl) ?_
      refine wl (r_len Tryd.underlying33 rfl) ?_
      refine wl (r_leq rfl rfl) ?_
      refine wl (r_mv (v := .bool _) rfl) ?_
      refine wl_casesd 219 rfl (fun g219 => ?_) (fun g219 => ?_)
      ·
       refine wlgn 219 rfl rfl rfl ?_
       refine wlgn 219 rfl rfl rfl ?_
       refine wlgn 219 rfl rfl rfl ?_
       refine wlgn 219 rfl rfl rfl ?_
       refine wlgn 219 rfl rfl rfl ?_
       refine wlgn 219 rfl rfl rfl ?_
       refine wlgn 219 rfl rfl rfl ?_
       refine wl (r_pt (v := .bool _) rfl rfl) ?_
       refine x_nil ?_
       refine e_S ?_
       refine c_yes rfl ?_
       refine c_exit ?_
       refine e_Sx ?_
       refine e_Bx ?_
       refine e_S ?_
       refine c_region ?_
       refine wl (r_add rfl rfl rfl (by omega)) ?_
       refine wl (r_mv (v := .int _ _) rfl) ?_
       refine x_nil ?_
       refine e_LS (pr.length - (j + 1)) (by omega) (by repeat (first | exact ag_refl | exact ag_ovr' | refine ag_upd rfl ?_ | refine ag_sub rfl ?_ | refine ag_kn (by assumption) ?_)) ?_
       first
         | exact ⟨j + 1, _, _, by omega, rfl, rfl, hR, hB, hBO, hIB, (by rw [parR_yes hdir, List.length_append]; exact hb25), ho22, (by rw [parR_yes hdir]; exact own_snoc ho271)⟩
         | exact ⟨j + 1, Ap, cp, by omega, rfl, rfl, hR, hB, hBO, hIB, (by rw [parR_no hdn2]; exact hb25), ho22, (by rw [parR_no hdn2]; exact hoP)⟩
         | exact ⟨j + 1, Ap, cp, by omega, rfl, rfl, hR, hB, hBO, hIB, (by rw [parR_no (dr1 g219)]; exact hb25), ho22, (by rw [parR_no (dr1 g219)]; exact hoP)⟩
      ·
       refine wl_gd 219 rfl rfl ?_
       refine wl (r_mv (v := .slice _ _ _) rfl) ?_
       refine wl_gd 219 rfl rfl ?_
       refine wl (r_mv (v := .slice _ _ _) rfl) ?_
       refine wl_gd 219 rfl rfl ?_
       refine wl_cl fn31 (coml_any _ (hIs.mono hBO) (hIu.mono hBO)) rfl (fun e' w40 hr => ?_)
       obtain ⟨⟨Az, cz, rfl, _⟩, hs⟩ := hr
       replace hs := Same.of_bel hs
       replace hB := hB.tr0 hs
       replace hBO := hBO.tr0 hs
       replace hIB := hIB.tr0 hs
       replace hR := hR.tr hs (fun g hg => by cases hg)
       replace hb25 := hb25.tr0 hs
       replace ho22 := ho22.tr0 hs
       replace hoP := hoP.tr0 hs
       clear hs
       refine ⟨_, rfl, ?_⟩
       refine wl_gd 219 rfl rfl ?_
       refine wl (r_len Tryd.underlying33 rfl) ?_
       refine wl_gd 219 rfl rfl ?_
       refine wl (r_mv (v := .slice _ _ _) rfl) ?_
       refine wl_gd 219 rfl rfl ?_
       refine wl (r_len Tryd.underlying33 rfl) ?_
       refine wl_gd 219 rfl rfl ?_
       refine wl (r_lss rfl rfl) ?_
       refine wl (r_pf (v := .bool _) rfl rfl) ?_
       refine x_nil ?_
       refine e_S ?_
       refine c_ifd rfl (fun c227 => ?_) (fun c227 => ?_)
       ·
        have hdn2 := dr2 (M := M) (i := i) (j := j) c227
        refine c_exit ?_
        refine e_Sx ?_
        refine e_Bx ?_
        refine e_S ?_
        refine c_region ?_
        refine wl (r_add rfl rfl rfl (by omega)) ?_
        refine wl (r_mv (v := .int _ _) rfl) ?_
        refine x_nil ?_
        refine e_LS (pr.length - (j + 1)) (by omega) (by repeat (first | exact ag_refl | exact ag_ovr' | refine ag_upd rfl ?_ | refine ag_sub rfl ?_ | refine ag_kn (by assumption) ?_)) ?_
        first
          | exact ⟨j + 1, _, _, by omega, rfl, rfl, hR, hB, hBO, hIB, (by rw [parR_yes hdir, List.length_append]; exact hb25), ho22, (by rw [parR_yes hdir]; exact own_snoc ho271)⟩
          | exact ⟨j + 1, Ap, cp, by omega, rfl, rfl, hR, hB, hBO, hIB, (by rw [parR_no hdn2]; exact hb25), ho22, (by rw [parR_no hdn2]; exact hoP)⟩
          | exact ⟨j + 1, Ap, cp, by omega, rfl, rfl, hR, hB, hBO, hIB, (by rw [parR_no (dr1 g219)]; exact hb25), ho22, (by rw [parR_no (dr1 g219)]; exact hoP)⟩
       ·
        refine c_skip ?_
        refine e_S ?_
        refine c_seq ?_
        refine c_region ?_
        refine wl (r_as (v := .bool _) rfl) ?_
        refine x_nil ?_
        refine e_S ?_
        refine c_seq ?_
        refine c_seq ?_
        refine c_region ?_
        refine wl (r_mv (v := .slice _ _ _) rfl) ?_
        refine wl (r_len Tryd.underlying67 rfl) ?_
        refine wl (r_mv (v := .int _ _) rfl) ?_
        refine x_nil ?_
        refine e_S ?_
        refine c_block ?_
        refine c_loopS [28, 30, 230, 231, 232, 233, 234, 235, 236, 237, 238, 239, 240, 241, 242, 243, 244, 245, 246, 247, 248, 249, 250, 251, 252, 253, 254, 255, 256, 257, 258, 259, 260, 261, 262, 263, 264] (fun m g w' => ∃ k : Nat, k ≤ pr.length ∧ m = pr.length - k ∧ g 230 = .int .i64 k ∧ g 28 = .bool ((List.range k).any (bR M i j)) ∧ RwT wO.heap.size wI.heap.size w' (outR pr i) vf ∧ Bel w w' ∧ Bel wO w' ∧ Bel wI w' ∧ Blk w' b25 35 #[.string (pr.getD i (0, ⟨#[]⟩)).2, .slice Ap (parR M i j).length cp] ∧ Own w' wO.heap.size 35 2 A22 i c22 vf ∧ Own w' (b25 + 1) 3 1 Ap (parR M i j).length cp ((parR M i j).map (Value.int .i64))) (pr.length) ?_ (fun m g68 w41 hI => ?_)
        ·
         exact ⟨0, Nat.zero_le _, rfl, rfl, rfl, hR, hB, hBO, hIB, hb25, ho22, hoP⟩
        obtain ⟨k, hkN, hmk, h230, h28, hR, hB, hBO, hIB, hb25, ho22, hoP⟩ := hI
        refine c_know 230 (.int .i64 k) h230 (by simp [undef]) ?_
        refine c_know 28 (.bool ((List.range k).any (bR M i j))) h28 (by simp [undef]) ?_
        refine c_seq ?_
        refine c_region ?_
        refine wl (r_lss rfl rfl) ?_
        refine x_nil ?_
        refine e_S ?_
        refine c_seq ?_
        refine c_ifd rfl (fun c231 => ?_) (fun c231 => ?_)
        ·
         have hklt : k < pr.length := by omega
         obtain ⟨vb2, vo2, Av, cv, hve, hvb, hvc, hIv⟩ := hMO.at2 (show k < (msL M).length by rw [msL_len]; omega)
         rw [msL_get] at hvc hIv
         refine c_skip ?_
         refine e_S ?_
         refine c_seq ?_
         refine c_block ?_
         refine c_seq ?_
         refine c_region ?_
         refine wl (r_ia (i := k) Tryd.underlying67 sz33_CRi (show ev _ _ _ = _ from sl_eq _ _ hve) rfl (by omega) rfl) ?_
         refine wl (r_ld1 (v := .slice _ _ _) Tryd.underlying33 rfl rfl (hBO.cell hvb hvc)) ?_
         refine wl (r_as (v := .slice _ _ _) rfl) ?_
         refine x_nil ?_
         refine e_S ?_
         refine c_seq ?_
         refine c_region ?_
         refine wl (r_mv (v := .slice _ _ _) rfl) ?_
         refine wl (r_len Tryd.underlying33 rfl) ?_
         refine wl (r_mv (v := .slice _ _ _) rfl) ?_
         refine wl (r_len Tryd.underlying33 rfl) ?_
         refine wl (r_gtr rfl rfl) ?_
         refine wl (r_mv (v := .bool _) rfl) ?_
         refine wl_casesd 239 rfl (fun g239 => ?_) (fun g239 => ?_)
         ·
          refine wl_gd 239 rfl rfl ?_
          refine wl (r_mv (v := .slice _ _ _) rfl) ?_
          refine wl_gd 239 rfl rfl ?_
          refine wl (r_len Tryd.underlying33 rfl) ?_
          refine wl_gd 239 rfl rfl ?_
          refine wl (r_mv (v := .slice _ _ _) rfl) ?_
          refine wl_gd 239 rfl rfl ?_
          refine wl (r_len Tryd.underlying33 rfl) ?_
          refine wl_gd 239 rfl rfl ?_
          refine wl (r_lss rfl rfl) ?_
          refine wl (r_pt (v := .bool _) rfl rfl) ?_
          refine wl (r_mv (v := .bool _) rfl) ?_
          refine wl_casesd 246 rfl (fun g246 => ?_) (fun g246 => ?_)
          ·
           refine wl_gd 246 rfl rfl ?_
           refine wl (r_mv (v := .slice _ _ _) rfl) ?_
           refine wl_gd 246 rfl rfl ?_
           refine wl (r_mv (v := .slice _ _ _) rfl) ?_
           refine wl_gd 246 rfl rfl ?_
           refine wl_cl fn31 (coml_any _ (hIs.mono hBO) (hIv.mono hBO)) rfl (fun e' w42 hr => ?_)
           obtain ⟨⟨Az, cz, rfl, _⟩, hs⟩ := hr
           replace hs := Same.of_bel hs
           replace hB := hB.tr0 hs
           replace hBO := hBO.tr0 hs
           replace hIB := hIB.tr0 hs
           replace hR := hR.tr hs (fun g hg => by cases hg)
           replace hb25 := hb25.tr0 hs
           replace ho22 := ho22.tr0 hs
           replace hoP := hoP.tr0 hs
           clear hs
           refine ⟨_, rfl, ?_⟩
           refine wl_gd 246 rfl rfl ?_
           refine wl (r_len Tryd.underlying33 rfl) ?_
           refine wl_gd 246 rfl rfl ?_
           refine wl (r_mv (v := .slice _ _ _) rfl) ?_
           refine wl_gd 246 rfl rfl ?_
           refine wl (r_len Tryd.underlying33 rfl) ?_
           refine wl_gd 246 rfl rfl ?_
           refine wl (r_eql rfl rfl) ?_
           refine wl (r_pt (v := .bool _) rfl rfl) ?_
           refine wl (r_mv (v := .bool _) rfl) ?_
           refine wl_casesd 255 rfl (fun g255 => ?_) (fun g255 => ?_)
           ·
            refine wl_gd 255 rfl rfl ?_
            refine wl (r_mv (v := .slice _ _ _) rfl) ?_
            refine wl_gd 255 rfl rfl ?_
            refine wl (r_mv (v := .slice _ _ _) rfl) ?_
            refine wl_gd 255 rfl rfl ?_
            refine wl_cl fn31 (coml_any _ (hIv.mono hBO) (hIu.mono hBO)) rfl (fun e' w43 hr => ?_)
            obtain ⟨⟨Ay, cy, rfl, _⟩, hs⟩ := hr
            replace hs := Same.of_bel hs
            replace hB := hB.tr0 hs
            replace hBO := hBO.tr0 hs
            replace hIB := hIB.tr0 hs
            replace hR := hR.tr hs (fun g hg => by cases hg)
            replace hb25 := hb25.tr0 hs
            replace ho22 := ho22.tr0 hs
            replace hoP := hoP.tr0 hs
            clear hs
            refine ⟨_, rfl, ?_⟩
            refine wl_gd 255 rfl rfl ?_
            refine wl (r_len Tryd.underlying33 rfl) ?_
            refine wl_gd 255 rfl rfl ?_
            refine wl (r_mv (v := .slice _ _ _) rfl) ?_
            refine wl_gd 255 rfl rfl ?_
            refine wl (r_len Tryd.underlying33 rfl) ?_
            refine wl_gd 255 rfl rfl ?_
            refine wl (r_eql rfl rfl) ?_
            refine wl (r_pt (v := .bool _) rfl rfl) ?_
            refine x_nil ?_
            refine e_S ?_
            refine c_ifd rfl (fun c263 => ?_) (fun c263 => ?_)
            ·
             refine c_region ?_
             refine wl (r_as (v := .bool _) rfl) ?_
             refine x_nil ?_
             refine e_B ?_
             refine e_S ?_
             refine c_region ?_
             refine wl (r_add rfl rfl rfl (by omega)) ?_
             refine wl (r_mv (v := .int _ _) rfl) ?_
             refine x_nil ?_
             refine e_LS (pr.length - (k + 1)) (by omega) (by repeat (first | exact ag_refl | exact ag_ovr' | refine ag_upd rfl ?_ | refine ag_sub rfl ?_ | refine ag_kn (by assumption) ?_)) ?_
             first
               | exact ⟨k + 1, by omega, rfl, rfl, (show Value.bool true = Value.bool ((List.range (k + 1)).any (bR M i j)) by rw [any_snoc, brY g239 g246 g255 c263, Bool.or_true]), hR, hB, hBO, hIB, hb25, ho22, hoP⟩
               | exact ⟨k + 1, by omega, rfl, rfl, (show Value.bool _ = Value.bool ((List.range (k + 1)).any (bR M i j)) by rw [any_snoc, br4 c263, Bool.or_false]), hR, hB, hBO, hIB, hb25, ho22, hoP⟩
               | exact ⟨k + 1, by omega, rfl, rfl, (show Value.bool _ = Value.bool ((List.range (k + 1)).any (bR M i j)) by rw [any_snoc, br3 g255, Bool.or_false]), hR, hB, hBO, hIB, hb25, ho22, hoP⟩
               | exact ⟨k + 1, by omega, rfl, rfl, (show Value.bool _ = Value.bool ((List.range (k + 1)).any (bR M i j)) by rw [any_snoc, br2 g246, Bool.or_false]), hR, hB, hBO, hIB, hb25, ho22, hoP⟩
               | exact ⟨k + 1, by omega, rfl, rfl, (show Value.bool _ = Value.bool ((List.range (k + 1)).any (bR M i j)) by rw [any_snoc, br1 g239, Bool.or_false]), hR, hB, hBO, hIB, hb25, ho22, hoP⟩
            ·
             refine c_skip ?_
             refine e_B ?_
             refine e_S ?_
             refine c_region ?_
             refine wl (r_add rfl rfl rfl (by omega)) ?_
             refine wl (r_mv (v := .int _ _) rfl) ?_
             refine x_nil ?_
             refine e_LS (pr.length - (k + 1)) (by omega) (by repeat (first | exact ag_refl | exact ag_ovr' | refine ag_upd rfl ?_ | refine ag_sub rfl ?_ | refine ag_kn (by assumption) ?_)) ?_
             first
               | exact ⟨k + 1, by omega, rfl, rfl, (show Value.bool true = Value.bool ((List.range (k + 1)).any (bR M i j)) by rw [any_snoc, brY g239 g246 g255 c263, Bool.or_true]), hR, hB, hBO, hIB, hb25, ho22, hoP⟩
               | exact ⟨k + 1, by omega, rfl, rfl, (show Value.bool _ = Value.bool ((List.range (k + 1)).any (bR M i j)) by rw [any_snoc, br4 c263, Bool.or_false]), hR, hB, hBO, hIB, hb25, ho22, hoP⟩
               | exact ⟨k + 1, by omega, rfl, rfl, (show Value.bool _ = Value.bool ((List.range (k + 1)).any (bR M i j)) by rw [any_snoc, br3 g255, Bool.or_false]), hR, hB, hBO, hIB, hb25, ho22, hoP⟩
               | exact ⟨k + 1, by omega, rfl, rfl, (show Value.bool _ = Value.bool ((List.range (k + 1)).any (bR M i j)) by rw [any_snoc, br2 g246, Bool.or_false]), hR, hB, hBO, hIB, hb25, ho22, hoP⟩
               | exact ⟨k + 1, by omega, rfl, rfl, (show Value.bool _ = Value.bool ((List.range (k + 1)).any (bR M i j)) by rw [any_snoc, br1 g239, Bool.or_false]), hR, hB, hBO, hIB, hb25, ho22, hoP⟩
           ·
            refine wlgn 255 rfl rfl rfl ?_
            refine wlgn 255 rfl rfl rfl ?_
            refine wlgn 255 rfl rfl rfl ?_
            refine wlgn 255 rfl rfl rfl ?_
            refine wlgn 255 rfl rfl rfl ?_
            refine wlgn 255 rfl rfl rfl ?_
            refine wlgn 255 rfl rfl rfl ?_
            refine wl (r_pf (v := .bool _) rfl rfl) ?_
            refine x_nil ?_
            refine e_S ?_
            refine c_no rfl ?_
            refine c_skip ?_
            refine e_B ?_
            refine e_S ?_
            refine c_region ?_
            refine wl (r_add rfl rfl rfl (by omega)) ?_
            refine wl (r_mv (v := .int _ _) rfl) ?_
            refine x_nil ?_
            refine e_LS (pr.length - (k + 1)) (by omega) (by repeat (first | exact ag_refl | exact ag_ovr' | refine ag_upd rfl ?_ | refine ag_sub rfl ?_ | refine ag_kn (by assumption) ?_)) ?_
            first
              | exact ⟨k + 1, by omega, rfl, rfl, (show Value.bool true = Value.bool ((List.range (k + 1)).any (bR M i j)) by rw [any_snoc, brY g239 g246 g255 c263, Bool.or_true]), hR, hB, hBO, hIB, hb25, ho22, hoP⟩
              | exact ⟨k + 1, by omega, rfl, rfl, (show Value.bool _ = Value.bool ((List.range (k + 1)).any (bR M i j)) by rw [any_snoc, br4 c263, Bool.or_false]), hR, hB, hBO, hIB, hb25, ho22, hoP⟩
              | exact ⟨k + 1, by omega, rfl, rfl, (show Value.bool _ = Value.bool ((List.range (k + 1)).any (bR M i j)) by rw [any_snoc, br3 g255, Bool.or_false]), hR, hB, hBO, hIB, hb25, ho22, hoP⟩
              | exact ⟨k + 1, by omega, rfl, rfl, (show Value.bool _ = Value.bool ((List.range (k + 1)).any (bR M i j)) by rw [any_snoc, br2 g246, Bool.or_false]), hR, hB, hBO, hIB, hb25, ho22, hoP⟩
              | exact ⟨k + 1, by omega, rfl, rfl, (show Value.bool _ = Value.bool ((List.range (k + 1)).any (bR M i j)) by rw [any_snoc, br1 g239, Bool.or_false]), hR, hB, hBO, hIB, hb25, ho22, hoP⟩
          ·
           refine wlgn 246 rfl rfl rfl ?_
           refine wlgn 246 rfl rfl rfl ?_
           refine wlgn 246 rfl rfl rfl ?_
           refine wlgn 246 rfl rfl rfl ?_
           refine wlgn 246 rfl rfl rfl ?_
           refine wlgn 246 rfl rfl rfl ?_
           refine wlgn 246 rfl rfl rfl ?_
           refine wl (r_pf (v := .bool _) rfl rfl) ?_
           refine wl (r_mv (v := .bool _) rfl) ?_
           refine wlgn 255 rfl rfl rfl ?_
           refine wlgn 255 rfl rfl rfl ?_
           refine wlgn 255 rfl rfl rfl ?_
           refine wlgn 255 rfl rfl rfl ?_
           refine wlgn 255 rfl rfl rfl ?_
           refine wlgn 255 rfl rfl rfl ?_
           refine wlgn 255 rfl rfl rfl ?_
           refine wl (r_pf (v := .bool _) rfl rfl) ?_
           refine x_nil ?_
           refine e_S ?_
           refine c_no rfl ?_
           refine c_skip ?_
           refine e_B ?_
           refine e_S ?_
           refine c_region ?_
           refine wl (r_add rfl rfl rfl (by omega)) ?_
           refine wl (r_mv (v := .int _ _) rfl) ?_
           refine x_nil ?_
           refine e_LS (pr.length - (k + 1)) (by omega) (by repeat (first | exact ag_refl | exact ag_ovr' | refine ag_upd rfl ?_ | refine ag_sub rfl ?_ | refine ag_kn (by assumption) ?_)) ?_
           first
             | exact ⟨k + 1, by omega, rfl, rfl, (show Value.bool true = Value.bool ((List.range (k + 1)).any (bR M i j)) by rw [any_snoc, brY g239 g246 g255 c263, Bool.or_true]), hR, hB, hBO, hIB, hb25, ho22, hoP⟩
             | exact ⟨k + 1, by omega, rfl, rfl, (show Value.bool _ = Value.bool ((List.range (k + 1)).any (bR M i j)) by rw [any_snoc, br4 c263, Bool.or_false]), hR, hB, hBO, hIB, hb25, ho22, hoP⟩
             | exact ⟨k + 1, by omega, rfl, rfl, (show Value.bool _ = Value.bool ((List.range (k + 1)).any (bR M i j)) by rw [any_snoc, br3 g255, Bool.or_false]), hR, hB, hBO, hIB, hb25, ho22, hoP⟩
             | exact ⟨k + 1, by omega, rfl, rfl, (show Value.bool _ = Value.bool ((List.range (k + 1)).any (bR M i j)) by rw [any_snoc, br2 g246, Bool.or_false]), hR, hB, hBO, hIB, hb25, ho22, hoP⟩
             | exact ⟨k + 1, by omega, rfl, rfl, (show Value.bool _ = Value.bool ((List.range (k + 1)).any (bR M i j)) by rw [any_snoc, br1 g239, Bool.or_false]), hR, hB, hBO, hIB, hb25, ho22, hoP⟩
         ·
          refine wlgn 239 rfl rfl rfl ?_
          refine wlgn 239 rfl rfl rfl ?_
          refine wlgn 239 rfl rfl rfl ?_
          refine wlgn 239 rfl rfl rfl ?_
          refine wlgn 239 rfl rfl rfl ?_
          refine wl (r_pf (v := .bool _) rfl rfl) ?_
          refine wl (r_mv (v := .bool _) rfl) ?_
          refine wlgn 246 rfl rfl rfl ?_
          refine wlgn 246 rfl rfl rfl ?_
          refine wlgn 246 rfl rfl rfl ?_
          refine wlgn 246 rfl rfl rfl ?_
          refine wlgn 246 rfl rfl rfl ?_
          refine wlgn 246 rfl rfl rfl ?_
          refine wlgn 246 rfl rfl rfl ?_
          refine wl (r_pf (v := .bool _) rfl rfl) ?_
          refine wl (r_mv (v := .bool _) rfl) ?_
          refine wlgn 255 rfl rfl rfl ?_
          refine wlgn 255 rfl rfl rfl ?_
          refine wlgn 255 rfl rfl rfl ?_
          refine wlgn 255 rfl rfl rfl ?_
          refine wlgn 255 rfl rfl rfl ?_
          refine wlgn 255 rfl rfl rfl ?_
          refine wlgn 255 rfl rfl rfl ?_
          refine wl (r_pf (v := .bool _) rfl rfl) ?_
          refine x_nil ?_
          refine e_S ?_
          refine c_no rfl ?_
          refine c_skip ?_
          refine e_B ?_
          refine e_S ?_
          refine c_region ?_
          refine wl (r_add rfl rfl rfl (by omega)) ?_
          refine wl (r_mv (v := .int _ _) rfl) ?_
          refine x_nil ?_
          refine e_LS (pr.length - (k + 1)) (by omega) (by repeat (first | exact ag_refl | exact ag_ovr' | refine ag_upd rfl ?_ | refine ag_sub rfl ?_ | refine ag_kn (by assumption) ?_)) ?_
          first
            | exact ⟨k + 1, by omega, rfl, rfl, (show Value.bool true = Value.bool ((List.range (k + 1)).any (bR M i j)) by rw [any_snoc, brY g239 g246 g255 c263, Bool.or_true]), hR, hB, hBO, hIB, hb25, ho22, hoP⟩
            | exact ⟨k + 1, by omega, rfl, rfl, (show Value.bool _ = Value.bool ((List.range (k + 1)).any (bR M i j)) by rw [any_snoc, br4 c263, Bool.or_false]), hR, hB, hBO, hIB, hb25, ho22, hoP⟩
            | exact ⟨k + 1, by omega, rfl, rfl, (show Value.bool _ = Value.bool ((List.range (k + 1)).any (bR M i j)) by rw [any_snoc, br3 g255, Bool.or_false]), hR, hB, hBO, hIB, hb25, ho22, hoP⟩
            | exact ⟨k + 1, by omega, rfl, rfl, (show Value.bool _ = Value.bool ((List.range (k + 1)).any (bR M i j)) by rw [any_snoc, br2 g246, Bool.or_false]), hR, hB, hBO, hIB, hb25, ho22, hoP⟩
            | exact ⟨k + 1, by omega, rfl, rfl, (show Value.bool _ = Value.bool ((List.range (k + 1)).any (bR M i j)) by rw [any_snoc, br1 g239, Bool.or_false]), hR, hB, hBO, hIB, hb25, ho22, hoP⟩
        ·
         have hke : k = M.length := by omega
         refine c_exit ?_
         refine e_Sx ?_
         refine e_LSx ?_
         refine e_Bx ?_
         refine e_S ?_
         refine c_seq ?_
         refine c_region ?_
         refine wl (r_mv (v := .bool _) rfl) ?_
         refine wl (r_not rfl) ?_
         refine x_nil ?_
         refine e_S ?_
         refine c_if rfl (fun c266 => ?_) (fun c266 => ?_)
         ·
          rw [hke] at c266
          have hdir := drY (M := M) (i := i) (j := j) g219 c227 (by simpa using c266)
          have hpl2 := parR_le M i j
          refine c_region ?_
          refine wl (r_fa Tryd.underlying35 sz33_CRi (by decide) rfl rfl rfl) ?_
          refine wl (r_ld1 (v := .slice _ _ _) Tryd.underlying33 rfl rfl (hb25.cell rfl)) ?_
          refine wl (r_mv (v := .int _ _) rfl) ?_
          refine wl_bs (cs := #[_]) [(0, .int _ _)] rfl Tryd.underlying33 sz3 ze3 (by decide) (by decide) (by kernel_rfl) rfl (fun b270 w44 hb270 hs hr => ?_)
          have or_b25_b270 : b25 < b270 := Nat.lt_of_lt_of_le hb25.lt hr
          have or_ho22_b270 := fun g hg => Nat.lt_of_lt_of_le (ho22.lt g hg).2 hr
          have or_hoP_b270 := fun g hg => Nat.lt_of_lt_of_le (hoP.lt g hg).2 hr
          have lo270 := Nat.le_trans (Bel.size hB) hr
          have lo_hBO_b270 := Nat.le_trans (Bel.size hBO) hr
          have lo_hIB_b270 := Nat.le_trans (Bel.size hIB) hr
          replace hB := hB.tr0 hs
          replace hBO := hBO.tr0 hs
          replace hIB := hIB.tr0 hs
          replace hR := hR.tr hs (fun g hg => by cases hg)
          replace hb25 := hb25.tr0 hs
          replace ho22 := ho22.tr0 hs
          replace hoP := hoP.tr0 hs
          clear hs
          clear hr
          refine wl_app Tryd.underlying33 in3_CRa rfl (by decide) hoP hb270 rfl rfl rfl (by repeat (first | rfl | refine one_cons (by first | rfl | assumption) ?_)) (by decide) (by omega) (by omega) (by have := hb25.lt; omega) (fun g271 cap271 w45 ho271 hs hg => ?_)
          have ne_ho271_b25 : g271 ≠ b25 := fun e => by
           have hl := hb25.lt
           rcases hg with hg | hg
           · have h1 := hoP.lt g271 (by rw [hg]; exact List.mem_singleton.2 rfl)
             (try have := or_hoP_b25 g271 (by rw [hg]; exact List.mem_singleton.2 rfl)); omega
           · omega
          replace hB := hB.tr hs (fun g hg => Nat.le_trans (by omega) (hoP.lt g hg).1)
          replace hBO := hBO.tr hs (fun g hg => Nat.le_trans (by omega) (hoP.lt g hg).1)
          replace hIB := hIB.tr hs (fun g hg => Nat.le_trans (by omega) (hoP.lt g hg).1)
          replace hR := hR.tr hs (fun g hg => .inl (by have := (hoP.lt g hg).1; omega))
          replace hb25 := hb25.tr hs (fun hx => by have := (hoP.lt _ hx).1; (try have := or_hoP_b25 _ hx); omega)
          replace ho22 := ho22.tr hs (fun g hg hx => (own_apart ho22 hoP (by decide)) g hg hx)
          refine wl (r_fa Tryd.underlying35 sz33_CRi (by decide) rfl rfl rfl) ?_
          refine wl_st1 (v := .slice _ _ _) hb25 rfl rfl sz33_CRi (by first | decide | simp) rfl rfl (fun w46 hq hs => ?_)
          replace hB := hB.tr1 hs lo25
          replace hBO := hBO.tr1 hs lo_hBO_b25
          replace hIB := hIB.tr1 hs lo_hIB_b25
          replace hR := hR.tr hs (fun g hg => .inl (by rw [List.mem_singleton.1 hg]; omega))
          replace ho22 := ho22.tr1 hs (fun g hg => by have := (ho22.lt g hg).1; (try have := or_ho22_b25 g hg); (try simp only [aL] at hg); (try simp only [List.mem_singleton] at hg); omega)
          replace ho271 := ho271.tr1 hs (fun g hg => by have := (ho271.lt g hg).1; (try have := or_ho271_b25 g hg); (try simp only [aL] at hg); (try simp only [List.mem_singleton] at hg); omega)
          clear hs
          replace hb25 := hq
          refine x_nil ?_
          refine e_B ?_
          refine e_S ?_
          refine c_region ?_
          refine wl (r_add rfl rfl rfl (by omega)) ?_
          refine wl (r_mv (v := .int _ _) rfl) ?_
          refine x_nil ?_
          refine e_LS (pr.length - (j + 1)) (by omega) (by repeat (first | exact ag_refl | exact ag_ovr' | refine ag_upd rfl ?_ | refine ag_sub rfl ?_ | refine ag_kn (by assumption) ?_)) ?_
          first
            | exact ⟨j + 1, _, _, by omega, rfl, rfl, hR, hB, hBO, hIB, (by rw [parR_yes hdir, List.length_append]; exact hb25), ho22, (by rw [parR_yes hdir]; exact own_snoc ho271)⟩
            | exact ⟨j + 1, Ap, cp, by omega, rfl, rfl, hR, hB, hBO, hIB, (by rw [parR_no hdn2]; exact hb25), ho22, (by rw [parR_no hdn2]; exact hoP)⟩
            | exact ⟨j + 1, Ap, cp, by omega, rfl, rfl, hR, hB, hBO, hIB, (by rw [parR_no (dr1 g219)]; exact hb25), ho22, (by rw [parR_no (dr1 g219)]; exact hoP)⟩
         ·
          rw [hke] at c266
          have hdn2 := dr3 (M := M) (i := i) (j := j) (by simpa using c266)
          refine c_skip ?_
          refine e_B ?_
          refine e_S ?_
          refine c_region ?_
          refine wl (r_add rfl rfl rfl (by omega)) ?_
          refine wl (r_mv (v := .int _ _) rfl) ?_
          refine x_nil ?_
          refine e_LS (pr.length - (j + 1)) (by omega) (by repeat (first | exact ag_refl | exact ag_ovr' | refine ag_upd rfl ?_ | refine ag_sub rfl ?_ | refine ag_kn (by assumption) ?_)) ?_
          first
            | exact ⟨j + 1, _, _, by omega, rfl, rfl, hR, hB, hBO, hIB, (by rw [parR_yes hdir, List.length_append]; exact hb25), ho22, (by rw [parR_yes hdir]; exact own_snoc ho271)⟩
            | exact ⟨j + 1, Ap, cp, by omega, rfl, rfl, hR, hB, hBO, hIB, (by rw [parR_no hdn2]; exact hb25), ho22, (by rw [parR_no hdn2]; exact hoP)⟩
            | exact ⟨j + 1, Ap, cp, by omega, rfl, rfl, hR, hB, hBO, hIB, (by rw [parR_no (dr1 g219)]; exact hb25), ho22, (by rw [parR_no (dr1 g219)]; exact hoP)⟩
     ·
      have hje : j = pr.length := by omega
      refine c_exit ?_
      refine e_Sx ?_
      refine e_LSx ?_
      refine e_Bx ?_
      refine e_S ?_
      obtain ⟨hx, hxe⟩ : ∃ z, z = w39.heap.size := ⟨_, rfl⟩
      have hhx : hx ≤ w39.heap.size := Nat.le_of_eq hxe
      have hP25 : PrI wO.heap.size hx w39 Ap (parR M i j) := by rw [hxe]; exact (own_prI hoP).low (by omega)
      replace hR : RwT wO.heap.size hx w39 (outR pr i) vf := by rw [hxe]; exact hR.up (Bel.size hIB)
      clear hxe
      refine c_region ?_
      refine wl (r_mv (v := .slice _ _ _) rfl) ?_
      refine wl (r_ldS Tryd.underlying35 rfl rfl hb25.range0 sz35) ?_
      refine wl_bs (cs := #[_, _]) [(0, .agg _)] rfl Tryd.underlying22 sz35 ze35 (by decide) (by decide) (by kernel_rfl) rfl (fun b276 w47 hb276 hs hr => ?_)
      have or_b25_b276 : b25 < b276 := Nat.lt_of_lt_of_le hb25.lt hr
      have or_ho22_b276 := fun g hg => Nat.lt_of_lt_of_le (ho22.lt g hg).2 hr
      have lo276 := Nat.le_trans (Bel.size hB) hr
      have lo_hBO_b276 := Nat.le_trans (Bel.size hBO) hr
      replace hB := hB.tr0 hs
      replace hBO := hBO.tr0 hs
      replace hb25 := hb25.tr0 hs
      replace ho22 := ho22.tr0 hs
      replace hhx := Nat.le_trans hhx hs.size
      replace hP25 := hP25.tr0 hs
      replace hR := hR.tr hs (fun g hg => by cases hg)
      clear hs
      clear hr
      refine wl_app Tryd.underlying22 in35_CRc rfl (by decide) ho22 hb276 rfl rfl rfl (by repeat (first | rfl | refine one_cons (by first | rfl | assumption) ?_)) (by decide) (by omega) (by omega) (Bel.size hBO) (fun g277 cap277 w48 ho277 hs hg => ?_)
      have ne_ho277_b25 : g277 ≠ b25 := fun e => by
       have hl := hb25.lt
       rcases hg with hg | hg
       · have h1 := ho22.lt g277 (by rw [hg]; exact List.mem_singleton.2 rfl)
         (try have := or_ho22_b25 g277 (by rw [hg]; exact List.mem_singleton.2 rfl)); omega
       · omega
      replace hB := hB.tr hs (fun g hg => Nat.le_trans (by omega) (ho22.lt g hg).1)
      replace hBO := hBO.tr hs (fun g hg => Nat.le_trans (by omega) (ho22.lt g hg).1)
      replace hb25 := hb25.tr hs (fun hx => by have := (ho22.lt _ hx).1; (try have := or_ho22_b25 _ hx); omega)
      replace hhx := Nat.le_trans hhx hs.size
      replace hP25 := hP25.trT hs (fun g hg => .inr (let ⟨cs, hb⟩ := own_typC ho22 g hg; ⟨cs, _, hb, by decide⟩))
      replace hR := hR.trT hs (fun g hg => .inr (let ⟨cs, hb⟩ := own_typC ho22 g hg; ⟨cs, _, hb, by decide⟩))
      refine wl (r_as (v := .slice _ _ _) rfl) ?_
      refine x_nil ?_
      refine e_B ?_
      refine e_S ?_
      refine c_region ?_
      refine wl (r_add rfl rfl rfl (by omega)) ?_
      refine wl (r_mv (v := .int _ _) rfl) ?_
      refine x_nil ?_
      refine e_LS (pr.length - (i + 1)) (by omega) (by repeat (first | exact ag_refl | exact ag_ovr' | refine ag_upd rfl ?_ | refine ag_sub rfl ?_ | refine ag_kn (by assumption) ?_)) ?_
      exact ⟨i + 1, hx, _, _, vf ++ [.string (pr.getD i (0, ⟨#[]⟩)).2, .slice Ap (parR M i j).length cp], by omega, rfl, rfl, rfl, hhx, by rw [outR_succ]; exact hR.snoc25 hP25 (by rw [hje]; exact tyR_eq hM hMl), hB, hBO, ho277⟩
    ·
     have hie : i = pr.length := by omega
     rw [hie] at hR ho22
     refine c_exit ?_
     refine e_Sx ?_
     refine e_LSx ?_
     refine e_Bx ?_
     refine e_S ?_
     refine c_seq ?_
     refine c_region ?_
     refine wl (r_mv (v := .slice _ _ _) rfl) ?_
     refine wl (r_as (v := .slice _ _ _) rfl) ?_
     refine wl (r_as (v := .bool _) rfl) ?_
     refine x_nil ?_
     refine e_S ?_
     refine c_ret ?_
     refine fin2 (.inl rfl) rfl rfl rfl ?_
     exact ⟨.inr ⟨ds, A22, c22, hC, by rw [hpr, ← hie]; rfl, by rw [hpr]; exact types_ownR ho22 hR (by rw [outR_len])⟩, hB⟩
end Go.Proofs.YtahdbbgkgokkhaaDoor
