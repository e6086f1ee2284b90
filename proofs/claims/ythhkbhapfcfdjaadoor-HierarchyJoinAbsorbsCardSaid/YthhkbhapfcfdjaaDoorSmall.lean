/- What these functions of the program compute, at every world: glosswright/glosswrightequal.Small. -/
import Derived.Test.YthhkbhapfcfdjaaDoorSmC
namespace Go.Proofs.YthhkbhapfcfdjaaDoor
open Go.RowKit

theorem fn26 : callable Tryd.prog 26 = true := by kernel_rfl
theorem fn27 : callable Tryd.prog 27 = true := by kernel_rfl
theorem sz36 : (Tryd.prog.info? 36).map (·.size) = some 5 := by kernel_rfl
theorem ze36 : (Tryd.prog.info? 36).map (·.zero) = some (some (.agg #[.slice none 0 0, .slice none 0 0, .slice none 0 0, .slice none 0 0, .slice none 0 0])) := by kernel_rfl
theorem ze9 : (Tryd.prog.info? 9).map (·.zero) = some (some (.string ⟨#[]⟩)) := by kernel_rfl
set_option maxHeartbeats 8000000 in
theorem small_any (w : World) : Calls Tryd.prog 9 #[] w fun e w' => (∃ A c B d x y z, e = .returned (.agg #[.slice A 15 c, .slice B 5 d, x, y, z]) ∧ TypesIn w' A smallT ∧ FeatsIn w' B smallF) ∧ Bel w w' := by
  refine enter Tryd.func9 Tryd.ntmps9 rfl (Nat.le_of_ble_eq_true rfl) ?_
  have hB : Bel w w := Below.refl _ _
  refine c_seq ?_
  refine c_region ?_
  refine wl_al (cs := #[.slice none 0 0, .slice none 0 0, .slice none 0 0, .slice none 0 0, .slice none 0 0]) ze36 rfl (fun b0 w1 hb0 hs hr => ?_)
  have lo0 := Nat.le_trans (Bel.size hB) hr
  replace hB := hB.tr0 hs
  clear hs
  clear hr
  refine x_nil ?_
  refine e_S ?_
  refine c_seq ?_
  refine c_region ?_
  refine wl_cl fn24 (base_any _ _) rfl (fun e' w2 hr => ?_)
  obtain ⟨rfl, hs⟩ := hr
  replace hs := Same.of_bel hs
  replace hB := hB.tr0 hs
  replace hb0 := hb0.tr0 hs
  clear hs
  refine ⟨_, rfl, ?_⟩
  refine wl_cl fn24 (base_any _ _) rfl (fun e' w3 hr => ?_)
  obtain ⟨rfl, hs⟩ := hr
  replace hs := Same.of_bel hs
  replace hB := hB.tr0 hs
  replace hb0 := hb0.tr0 hs
  clear hs
  refine ⟨_, rfl, ?_⟩
  refine wl_al (cs := #[.string ⟨#[]⟩, .slice none 0 0]) ze70 rfl (fun b1 w4 hb1 hs hr => ?_)
  have or_b0_b1 : b0 < b1 := Nat.lt_of_lt_of_le hb0.lt hr
  have lo1 := Nat.le_trans (Bel.size hB) hr
  replace hB := hB.tr0 hs
  replace hb0 := hb0.tr0 hs
  clear hs
  clear hr
  refine wl_al (cs := #[.string ⟨#[]⟩, .slice none 0 0]) ze70 rfl (fun b2 w5 hb2 hs hr => ?_)
  have or_b0_b2 : b0 < b2 := Nat.lt_of_lt_of_le hb0.lt hr
  have or_b1_b2 : b1 < b2 := Nat.lt_of_lt_of_le hb1.lt hr
  have lo2 := Nat.le_trans (Bel.size hB) hr
  replace hB := hB.tr0 hs
  replace hb0 := hb0.tr0 hs
  replace hb1 := hb1.tr0 hs
  clear hs
  clear hr
  refine wl_stW hb1 rfl rfl sz70 rfl (by repeat (first | rfl | refine one_cons (by first | rfl | assumption) ?_)) (fun w6 hq hs => ?_)
  replace hB := hB.tr1 hs lo1
  replace hb0 := hb0.tr1 hs (by omega)
  replace hb2 := hb2.tr1 hs (by omega)
  clear hs
  replace hb1 := hq
  refine wl_stW hb2 rfl rfl sz70 rfl (by repeat (first | rfl | refine one_cons (by first | rfl | assumption) ?_)) (fun w7 hq hs => ?_)
  replace hB := hB.tr1 hs lo2
  replace hb0 := hb0.tr1 hs (by omega)
  replace hb1 := hb1.tr1 hs (by omega)
  clear hs
  replace hb2 := hq
  refine x_nil ?_
  refine e_S ?_
  refine c_seq ?_
  refine c_region ?_
  refine wl (r_ldS Tryd.underlying70 rfl rfl hb1.range0 sz70) ?_
  refine wl (r_ldS Tryd.underlying70 rfl rfl hb2.range0 sz70) ?_
  refine wl_cl fn25 (fun_any _ _ _ _ (by first | rfl | assumption) (by first | rfl | assumption) (by first | rfl | assumption) (by first | rfl | assumption) _) rfl (fun e' w8 hr => ?_)
  obtain ⟨⟨p12, q12, rfl, hp12, hq12⟩, hs⟩ := hr
  replace hs := Same.of_bel hs
  replace hB := hB.tr0 hs
  replace hb0 := hb0.tr0 hs
  replace hb1 := hb1.tr0 hs
  replace hb2 := hb2.tr0 hs
  clear hs
  refine ⟨_, rfl, ?_⟩
  refine wl_al (cs := #[.string ⟨#[]⟩, .slice none 0 0]) ze70 rfl (fun b3 w9 hb3 hs hr => ?_)
  have or_b0_b3 : b0 < b3 := Nat.lt_of_lt_of_le hb0.lt hr
  have or_b1_b3 : b1 < b3 := Nat.lt_of_lt_of_le hb1.lt hr
  have or_b2_b3 : b2 < b3 := Nat.lt_of_lt_of_le hb2.lt hr
  have lo3 := Nat.le_trans (Bel.size hB) hr
  replace hB := hB.tr0 hs
  replace hb0 := hb0.tr0 hs
  replace hb1 := hb1.tr0 hs
  replace hb2 := hb2.tr0 hs
  clear hs
  clear hr
  refine wl_stW hb3 rfl rfl sz70 rfl (by repeat (first | rfl | refine one_cons (by first | rfl | assumption) ?_)) (fun w10 hq hs => ?_)
  replace hB := hB.tr1 hs lo3
  replace hb0 := hb0.tr1 hs (by omega)
  replace hb1 := hb1.tr1 hs (by omega)
  replace hb2 := hb2.tr1 hs (by omega)
  clear hs
  replace hb3 := hq
  refine x_nil ?_
  refine e_S ?_
  refine c_seq ?_
  refine c_region ?_
  refine wl (r_ldS Tryd.underlying70 rfl rfl hb1.range0 sz70) ?_
  refine wl (r_ldS Tryd.underlying70 rfl rfl hb3.range0 sz70) ?_
  refine wl_cl fn25 (fun_any _ _ _ _ (by first | rfl | assumption) (by first | rfl | assumption) (by first | rfl | assumption) (by first | rfl | assumption) _) rfl (fun e' w11 hr => ?_)
  obtain ⟨⟨p15, q15, rfl, hp15, hq15⟩, hs⟩ := hr
  replace hs := Same.of_bel hs
  replace hB := hB.tr0 hs
  replace hb0 := hb0.tr0 hs
  replace hb1 := hb1.tr0 hs
  replace hb2 := hb2.tr0 hs
  replace hb3 := hb3.tr0 hs
  clear hs
  refine ⟨_, rfl, ?_⟩
  refine wl_al (cs := #[.string ⟨#[]⟩, .slice none 0 0]) ze70 rfl (fun b4 w12 hb4 hs hr => ?_)
  have or_b0_b4 : b0 < b4 := Nat.lt_of_lt_of_le hb0.lt hr
  have or_b1_b4 : b1 < b4 := Nat.lt_of_lt_of_le hb1.lt hr
  have or_b2_b4 : b2 < b4 := Nat.lt_of_lt_of_le hb2.lt hr
  have or_b3_b4 : b3 < b4 := Nat.lt_of_lt_of_le hb3.lt hr
  have lo4 := Nat.le_trans (Bel.size hB) hr
  replace hB := hB.tr0 hs
  replace hb0 := hb0.tr0 hs
  replace hb1 := hb1.tr0 hs
  replace hb2 := hb2.tr0 hs
  replace hb3 := hb3.tr0 hs
  clear hs
  clear hr
  refine wl_stW hb4 rfl rfl sz70 rfl (by repeat (first | rfl | refine one_cons (by first | rfl | assumption) ?_)) (fun w13 hq hs => ?_)
  replace hB := hB.tr1 hs lo4
  replace hb0 := hb0.tr1 hs (by omega)
  replace hb1 := hb1.tr1 hs (by omega)
  replace hb2 := hb2.tr1 hs (by omega)
  replace hb3 := hb3.tr1 hs (by omega)
  clear hs
  replace hb4 := hq
  refine x_nil ?_
  refine e_S ?_
  refine c_seq ?_
  refine c_region ?_
  refine wl_al (cs := #[.slice none 0 0, .slice none 0 0, .slice none 0 0, .slice none 0 0, .slice none 0 0]) ze36 rfl (fun b5 w14 hb5 hs hr => ?_)
  have or_b0_b5 : b0 < b5 := Nat.lt_of_lt_of_le hb0.lt hr
  have or_b1_b5 : b1 < b5 := Nat.lt_of_lt_of_le hb1.lt hr
  have or_b2_b5 : b2 < b5 := Nat.lt_of_lt_of_le hb2.lt hr
  have or_b3_b5 : b3 < b5 := Nat.lt_of_lt_of_le hb3.lt hr
  have or_b4_b5 : b4 < b5 := Nat.lt_of_lt_of_le hb4.lt hr
  have lo5 := Nat.le_trans (Bel.size hB) hr
  replace hB := hB.tr0 hs
  replace hb0 := hb0.tr0 hs
  replace hb1 := hb1.tr0 hs
  replace hb2 := hb2.tr0 hs
  replace hb3 := hb3.tr0 hs
  replace hb4 := hb4.tr0 hs
  clear hs
  clear hr
  refine x_nil ?_
  refine e_S ?_
  refine c_seq ?_
  refine c_region ?_
  refine wl_bs (cs := #[_, _, _, _, _, _, _, _, _, _, _, _, _, _, _]) [(0, .string _), (1, .string _), (2, .string _), (3, .string _), (4, .string _), (5, .string _), (6, .string _), (7, .string _), (8, .string _), (9, .string _), (10, .string _), (11, .string _), (12, .string _), (13, .string _), (14, .string _)] rfl Tryd.underlying74 sz9 ze9 (by decide) (by decide) (by kernel_rfl) rfl (fun b16 w15 hb16 hs hr => ?_)
  have or_b0_b16 : b0 < b16 := Nat.lt_of_lt_of_le hb0.lt hr
  have or_b1_b16 : b1 < b16 := Nat.lt_of_lt_of_le hb1.lt hr
  have or_b2_b16 : b2 < b16 := Nat.lt_of_lt_of_le hb2.lt hr
  have or_b3_b16 : b3 < b16 := Nat.lt_of_lt_of_le hb3.lt hr
  have or_b4_b16 : b4 < b16 := Nat.lt_of_lt_of_le hb4.lt hr
  have or_b5_b16 : b5 < b16 := Nat.lt_of_lt_of_le hb5.lt hr
  have lo16 := Nat.le_trans (Bel.size hB) hr
  replace hB := hB.tr0 hs
  replace hb0 := hb0.tr0 hs
  replace hb1 := hb1.tr0 hs
  replace hb2 := hb2.tr0 hs
  replace hb3 := hb3.tr0 hs
  replace hb4 := hb4.tr0 hs
  replace hb5 := hb5.tr0 hs
  clear hs
  clear hr
  refine wl_bs (cs := #[_, _, _, _, _, _, _, _, _, _, _, _, _, _, _]) [(0, .int _ _), (1, .int _ _), (2, .int _ _), (3, .int _ _), (4, .int _ _), (5, .int _ _), (6, .int _ _), (7, .int _ _), (8, .int _ _), (9, .int _ _), (10, .int _ _), (11, .int _ _), (12, .int _ _), (13, .int _ _), (14, .int _ _)] rfl Tryd.underlying45 sz3 ze3 (by decide) (by decide) (by kernel_rfl) rfl (fun b17 w16 hb17 hs hr => ?_)
  have or_b0_b17 : b0 < b17 := Nat.lt_of_lt_of_le hb0.lt hr
  have or_b1_b17 : b1 < b17 := Nat.lt_of_lt_of_le hb1.lt hr
  have or_b2_b17 : b2 < b17 := Nat.lt_of_lt_of_le hb2.lt hr
  have or_b3_b17 : b3 < b17 := Nat.lt_of_lt_of_le hb3.lt hr
  have or_b4_b17 : b4 < b17 := Nat.lt_of_lt_of_le hb4.lt hr
  have or_b5_b17 : b5 < b17 := Nat.lt_of_lt_of_le hb5.lt hr
  have or_b16_b17 : b16 < b17 := Nat.lt_of_lt_of_le hb16.lt hr
  have lo17 := Nat.le_trans (Bel.size hB) hr
  replace hB := hB.tr0 hs
  replace hb0 := hb0.tr0 hs
  replace hb1 := hb1.tr0 hs
  replace hb2 := hb2.tr0 hs
  replace hb3 := hb3.tr0 hs
  replace hb4 := hb4.tr0 hs
  replace hb5 := hb5.tr0 hs
  replace hb16 := hb16.tr0 hs
  clear hs
  clear hr
  refine wl (r_bd3 (v0 := .string _) (v1 := .int _ _) (v2 := .int _ _) (fun v0 v1 v2 => #[v0, v1, v2]) rfl rfl rfl (by kernel_rfl)) ?_
  refine wl (r_bd3 (v0 := .string _) (v1 := .int _ _) (v2 := .int _ _) (fun v0 v1 v2 => #[v0, v1, v2]) rfl rfl rfl (by kernel_rfl)) ?_
  refine wl (r_bd3 (v0 := .string _) (v1 := .int _ _) (v2 := .int _ _) (fun v0 v1 v2 => #[v0, v1, v2]) rfl rfl rfl (by kernel_rfl)) ?_
  refine wl (r_bd3 (v0 := .string _) (v1 := .int _ _) (v2 := .int _ _) (fun v0 v1 v2 => #[v0, v1, v2]) rfl rfl rfl (by kernel_rfl)) ?_
  refine wl (r_bd3 (v0 := .string _) (v1 := .int _ _) (v2 := .int _ _) (fun v0 v1 v2 => #[v0, v1, v2]) rfl rfl rfl (by kernel_rfl)) ?_
  refine wl_bs (cs := #[_, _, _, _, _, _, _, _, _, _, _, _, _, _, _]) [(0, .agg _), (1, .agg _), (2, .agg _), (3, .agg _), (4, .agg _)] rfl Tryd.underlying23 sz63 ze63 (by decide) (by decide) (by kernel_rfl) rfl (fun b23 w17 hb23 hs hr => ?_)
  have or_b0_b23 : b0 < b23 := Nat.lt_of_lt_of_le hb0.lt hr
  have or_b1_b23 : b1 < b23 := Nat.lt_of_lt_of_le hb1.lt hr
  have or_b2_b23 : b2 < b23 := Nat.lt_of_lt_of_le hb2.lt hr
  have or_b3_b23 : b3 < b23 := Nat.lt_of_lt_of_le hb3.lt hr
  have or_b4_b23 : b4 < b23 := Nat.lt_of_lt_of_le hb4.lt hr
  have or_b5_b23 : b5 < b23 := Nat.lt_of_lt_of_le hb5.lt hr
  have or_b16_b23 : b16 < b23 := Nat.lt_of_lt_of_le hb16.lt hr
  have or_b17_b23 : b17 < b23 := Nat.lt_of_lt_of_le hb17.lt hr
  have lo23 := Nat.le_trans (Bel.size hB) hr
  replace hB := hB.tr0 hs
  replace hb0 := hb0.tr0 hs
  replace hb1 := hb1.tr0 hs
  replace hb2 := hb2.tr0 hs
  replace hb3 := hb3.tr0 hs
  replace hb4 := hb4.tr0 hs
  replace hb5 := hb5.tr0 hs
  replace hb16 := hb16.tr0 hs
  replace hb17 := hb17.tr0 hs
  clear hs
  clear hr
  have z5 := hb5.lt
  refine wl_cl fn26 (hierarchyOf_any (some ⟨b16, 0, none⟩) (some ⟨b17, 0, none⟩) _ _ _ _ _ smallN smallP _ (strs_of_blk smallN hb16) (ints_of_blk smallP hb17 (by decide)) (by decide) rfl) rfl (fun e' w18 hr => ?_)
  obtain ⟨⟨At, capt, rfl, hTy⟩, hs⟩ := hr
  replace hs := Same.of_bel hs
  replace hB := hB.tr0 hs
  replace hb0 := hb0.tr0 hs
  replace hb1 := hb1.tr0 hs
  replace hb2 := hb2.tr0 hs
  replace hb3 := hb3.tr0 hs
  replace hb4 := hb4.tr0 hs
  replace hb5 := hb5.tr0 hs
  replace hb16 := hb16.tr0 hs
  replace hb17 := hb17.tr0 hs
  replace hb23 := hb23.tr0 hs
  clear hs
  obtain ⟨Z0, hZ0⟩ : ∃ z, z = w17.heap.size := ⟨_, rfl⟩
  rw [← hZ0] at hTy z5
  obtain ⟨wZ, hwZ⟩ : ∃ z, z = w18 := ⟨_, rfl⟩
  rw [← hwZ] at hTy
  have hFr : FrSame Z0 wZ w18 := by rw [hwZ]; exact FrSame.refl _ _
  refine ⟨_, rfl, ?_⟩
  refine wl (r_fa Tryd.underlying36 sz25 (by decide) rfl rfl rfl) ?_
  refine wl_stM hb5 rfl rfl sz25 (by first | decide | simp) (by repeat (first | rfl | refine one_cons (by first | rfl | assumption) ?_)) rfl (fun w19 hq hs => ?_)
  replace hB := hB.tr1 hs lo5
  replace hb0 := hb0.tr1 hs (by omega)
  replace hb1 := hb1.tr1 hs (by omega)
  replace hb2 := hb2.tr1 hs (by omega)
  replace hb3 := hb3.tr1 hs (by omega)
  replace hb4 := hb4.tr1 hs (by omega)
  replace hb16 := hb16.tr1 hs (by omega)
  replace hb17 := hb17.tr1 hs (by omega)
  replace hb23 := hb23.tr1 hs (by omega)
  replace hFr := hFr.of hs (fun g hg => by rw [List.mem_singleton.1 hg]; omega)
  clear hs
  replace hb5 := hq
  refine x_nil ?_
  refine e_S ?_
  refine c_seq ?_
  refine c_region ?_
  refine wl_cl fn27 (meanings_any _) rfl (fun e' w20 hr => ?_)
  obtain ⟨⟨bm, csm, rfl, hbm, hszm, honm⟩, hs⟩ := hr
  replace hs := Same.of_bel hs
  replace hB := hB.tr0 hs
  replace hb0 := hb0.tr0 hs
  replace hb1 := hb1.tr0 hs
  replace hb2 := hb2.tr0 hs
  replace hb3 := hb3.tr0 hs
  replace hb4 := hb4.tr0 hs
  replace hb5 := hb5.tr0 hs
  replace hb16 := hb16.tr0 hs
  replace hb17 := hb17.tr0 hs
  replace hb23 := hb23.tr0 hs
  replace hFr := hFr.of hs (by simp)
  clear hs
  have h5m : b5 ≠ bm := fun h => absurd (blk_type (h ▸ hb5) hbm) (by decide)
  refine ⟨_, rfl, ?_⟩
  refine wl (r_as (v := .slice _ _ _) rfl) ?_
  refine x_nil ?_
  refine e_S ?_
  refine c_seq ?_
  refine c_cutS [27, 28, 29, 30, 31, 32, 33, 34, 35, 36, 37, 38, 39, 40, 41, 42, 43, 44, 45, 46, 47, 48, 49, 50, 51, 52, 53, 54, 55, 56, 57, 58, 59, 60, 61, 62, 63, 64, 65, 66, 67, 68, 69, 70, 71, 72, 73, 74, 75, 76, 77, 78, 79, 80, 81, 82, 83, 84, 85, 86, 87, 88, 89, 90, 91, 92, 93, 94] (fun g w' => Bel w w' ∧ FrSame Z0 wZ w' ∧ Blk w' b0 36 #[.slice none 0 0, .slice none 0 0, .slice none 0 0, .slice none 0 0, .slice none 0 0] ∧ Blk w' b1 70 #[.string ⟨#[101]⟩, .slice none 0 0] ∧ Blk w' b2 70 #[.string ⟨#[116]⟩, .slice none 0 0] ∧ Blk w' b3 70 #[p12, q12] ∧ Blk w' b4 70 #[p15, q15] ∧ Blk w' b23 63 (smallF.flatMap (fun f => [Value.string f.name, .int .i64 f.of, .int .i64 f.val])).toArray ∧ ∃ b93, Blk w' b5 36 #[.slice At 15 capt, .slice (some ⟨b23, 0, none⟩) 5 5, .slice (some ⟨b93, 0, none⟩) 6 6, .slice none 0 0, .slice none 0 0]) ?_ (fun g7 w21 hI => ?_)
  · have hh := fun f Q k0 k1 => small_r7 hB hFr hb0 hb1 hb2 hb3 hb4 hb23 hb5 hbm hszm honm h5m z5 lo5 or_b0_b5 or_b1_b5 or_b2_b5 or_b3_b5 or_b4_b5 or_b5_b23 f Q k0 k1
    exact hh _ _ (by rfl) (by rfl)
  obtain ⟨hB, hFr, hb0, hb1, hb2, hb3, hb4, hb23, b93, hb5⟩ := hI
  refine e_S ?_
  refine c_seq ?_
  refine c_region ?_
  refine wl (r_mf rfl) ?_
  refine wl (r_as (v := .func _ _ _) rfl) ?_
  refine x_nil ?_
  refine e_S ?_
  refine c_seq ?_
  obtain ⟨base, hbase⟩ : ∃ b, b = w21.heap.size := ⟨_, rfl⟩
  have hbs : base ≤ w21.heap.size := Nat.le_of_eq hbase
  have hlo : w.heap.size ≤ base := by rw [hbase]; exact Bel.size hB
  have hFb : wZ.heap.size ≤ base := by rw [hbase]; exact hFr.size
  have hl0 : b0 < base := by rw [hbase]; exact hb0.lt
  have hl1 : b1 < base := by rw [hbase]; exact hb1.lt
  have hl2 : b2 < base := by rw [hbase]; exact hb2.lt
  have hl3 : b3 < base := by rw [hbase]; exact hb3.lt
  have hl4 : b4 < base := by rw [hbase]; exact hb4.lt
  have hl5 : b5 < base := by rw [hbase]; exact hb5.lt
  have hl23 : b23 < base := by rw [hbase]; exact hb23.lt
  have ho := Own.nil w21 base 84 9
  have o0 := or_b0_b5
  have o1 := or_b1_b5
  have o2 := or_b2_b5
  have o3 := or_b3_b5
  have o4 := or_b4_b5
  have o23 := or_b5_b23
  refine c_cutS [96, 97, 98, 99, 100, 101] (fun g w' => Bel w w' ∧ base ≤ w'.heap.size ∧ FrSame Z0 wZ w' ∧ Blk w' b0 36 #[.slice none 0 0, .slice none 0 0, .slice none 0 0, .slice none 0 0, .slice none 0 0] ∧ Blk w' b1 70 #[.string ⟨#[101]⟩, .slice none 0 0] ∧ Blk w' b2 70 #[.string ⟨#[116]⟩, .slice none 0 0] ∧ Blk w' b3 70 #[p12, q12] ∧ Blk w' b4 70 #[p15, q15] ∧ Blk w' b23 63 (smallF.flatMap (fun f => [Value.string f.name, .int .i64 f.of, .int .i64 f.val])).toArray ∧ ∃ A cap xs, Blk w' b5 36 #[.slice At 15 capt, .slice (some ⟨b23, 0, none⟩) 5 5, .slice (some ⟨b93, 0, none⟩) 6 6, .slice A 1 cap, .slice none 0 0] ∧ Own w' base 84 9 A 1 cap xs) ?_ (fun g9 w22 hI => ?_)
  · have hh := fun f Q k0 => small_r9 hB hbs hFr hb0 hb1 hb2 hb3 hb4 hb23 hb5 ho hp12 hq12 hp15 hq15 z5 lo5 o0 o1 o2 o3 o4 o23 hlo hFb hl0 hl1 hl2 hl3 hl4 hl5 hl23 f Q k0
    exact hh _ _ (by rfl)
  obtain ⟨hB, hbs, hFr, hb0, hb1, hb2, hb3, hb4, hb23, A, cap, xs, hb5, ho⟩ := hI
  refine e_S ?_
  refine c_seq ?_
  refine c_cutS [102, 103, 104, 105, 106, 107] (fun g w' => Bel w w' ∧ base ≤ w'.heap.size ∧ FrSame Z0 wZ w' ∧ Blk w' b0 36 #[.slice none 0 0, .slice none 0 0, .slice none 0 0, .slice none 0 0, .slice none 0 0] ∧ Blk w' b1 70 #[.string ⟨#[101]⟩, .slice none 0 0] ∧ Blk w' b2 70 #[.string ⟨#[116]⟩, .slice none 0 0] ∧ Blk w' b3 70 #[p12, q12] ∧ Blk w' b4 70 #[p15, q15] ∧ Blk w' b23 63 (smallF.flatMap (fun f => [Value.string f.name, .int .i64 f.of, .int .i64 f.val])).toArray ∧ ∃ A cap xs, Blk w' b5 36 #[.slice At 15 capt, .slice (some ⟨b23, 0, none⟩) 5 5, .slice (some ⟨b93, 0, none⟩) 6 6, .slice A 2 cap, .slice none 0 0] ∧ Own w' base 84 9 A 2 cap xs) ?_ (fun g10 w23 hI => ?_)
  · have hh := fun f Q k0 => small_r10 hB hbs hFr hb0 hb1 hb2 hb3 hb4 hb23 hb5 ho hp12 hq12 hp15 hq15 z5 lo5 o0 o1 o2 o3 o4 o23 hlo hFb hl0 hl1 hl2 hl3 hl4 hl5 hl23 f Q k0
    exact hh _ _ (by rfl)
  obtain ⟨hB, hbs, hFr, hb0, hb1, hb2, hb3, hb4, hb23, A, cap, xs, hb5, ho⟩ := hI
  refine e_S ?_
  refine c_seq ?_
  refine c_cutS [108, 109, 110, 111, 112] (fun g w' => Bel w w' ∧ base ≤ w'.heap.size ∧ FrSame Z0 wZ w' ∧ Blk w' b0 36 #[.slice none 0 0, .slice none 0 0, .slice none 0 0, .slice none 0 0, .slice none 0 0] ∧ Blk w' b1 70 #[.string ⟨#[101]⟩, .slice none 0 0] ∧ Blk w' b2 70 #[.string ⟨#[116]⟩, .slice none 0 0] ∧ Blk w' b3 70 #[p12, q12] ∧ Blk w' b4 70 #[p15, q15] ∧ Blk w' b23 63 (smallF.flatMap (fun f => [Value.string f.name, .int .i64 f.of, .int .i64 f.val])).toArray ∧ ∃ A cap xs, Blk w' b5 36 #[.slice At 15 capt, .slice (some ⟨b23, 0, none⟩) 5 5, .slice (some ⟨b93, 0, none⟩) 6 6, .slice A 3 cap, .slice none 0 0] ∧ Own w' base 84 9 A 3 cap xs) ?_ (fun g11 w24 hI => ?_)
  · have hh := fun f Q k0 => small_r11 hB hbs hFr hb0 hb1 hb2 hb3 hb4 hb23 hb5 ho hp12 hq12 hp15 hq15 z5 lo5 o0 o1 o2 o3 o4 o23 hlo hFb hl0 hl1 hl2 hl3 hl4 hl5 hl23 f Q k0
    exact hh _ _ (by rfl)
  obtain ⟨hB, hbs, hFr, hb0, hb1, hb2, hb3, hb4, hb23, A, cap, xs, hb5, ho⟩ := hI
  refine e_S ?_
  refine c_seq ?_
  refine c_cutS [113, 114, 115, 116, 117, 118, 119] (fun g w' => Bel w w' ∧ base ≤ w'.heap.size ∧ FrSame Z0 wZ w' ∧ Blk w' b0 36 #[.slice none 0 0, .slice none 0 0, .slice none 0 0, .slice none 0 0, .slice none 0 0] ∧ Blk w' b1 70 #[.string ⟨#[101]⟩, .slice none 0 0] ∧ Blk w' b2 70 #[.string ⟨#[116]⟩, .slice none 0 0] ∧ Blk w' b3 70 #[p12, q12] ∧ Blk w' b4 70 #[p15, q15] ∧ Blk w' b23 63 (smallF.flatMap (fun f => [Value.string f.name, .int .i64 f.of, .int .i64 f.val])).toArray ∧ ∃ A cap xs, Blk w' b5 36 #[.slice At 15 capt, .slice (some ⟨b23, 0, none⟩) 5 5, .slice (some ⟨b93, 0, none⟩) 6 6, .slice A 4 cap, .slice none 0 0] ∧ Own w' base 84 9 A 4 cap xs) ?_ (fun g12 w25 hI => ?_)
  · have hh := fun f Q k0 k1 => small_r12 hB hbs hFr hb0 hb1 hb2 hb3 hb4 hb23 hb5 ho hp12 hq12 hp15 hq15 z5 lo5 o0 o1 o2 o3 o4 o23 hlo hFb hl0 hl1 hl2 hl3 hl4 hl5 hl23 f Q k0 k1
    exact hh _ _ (by rfl) (by rfl)
  obtain ⟨hB, hbs, hFr, hb0, hb1, hb2, hb3, hb4, hb23, A, cap, xs, hb5, ho⟩ := hI
  refine e_S ?_
  refine c_seq ?_
  refine c_cutS [120, 121, 122, 123, 124, 125, 126] (fun g w' => Bel w w' ∧ base ≤ w'.heap.size ∧ FrSame Z0 wZ w' ∧ Blk w' b0 36 #[.slice none 0 0, .slice none 0 0, .slice none 0 0, .slice none 0 0, .slice none 0 0] ∧ Blk w' b1 70 #[.string ⟨#[101]⟩, .slice none 0 0] ∧ Blk w' b2 70 #[.string ⟨#[116]⟩, .slice none 0 0] ∧ Blk w' b3 70 #[p12, q12] ∧ Blk w' b4 70 #[p15, q15] ∧ Blk w' b23 63 (smallF.flatMap (fun f => [Value.string f.name, .int .i64 f.of, .int .i64 f.val])).toArray ∧ ∃ A cap xs, Blk w' b5 36 #[.slice At 15 capt, .slice (some ⟨b23, 0, none⟩) 5 5, .slice (some ⟨b93, 0, none⟩) 6 6, .slice A 5 cap, .slice none 0 0] ∧ Own w' base 84 9 A 5 cap xs) ?_ (fun g13 w26 hI => ?_)
  · have hh := fun f Q k0 k1 => small_r13 hB hbs hFr hb0 hb1 hb2 hb3 hb4 hb23 hb5 ho hp12 hq12 hp15 hq15 z5 lo5 o0 o1 o2 o3 o4 o23 hlo hFb hl0 hl1 hl2 hl3 hl4 hl5 hl23 f Q k0 k1
    exact hh _ _ (by rfl) (by rfl)
  obtain ⟨hB, hbs, hFr, hb0, hb1, hb2, hb3, hb4, hb23, A, cap, xs, hb5, ho⟩ := hI
  refine e_S ?_
  refine c_seq ?_
  refine c_cutS [127, 128, 129, 130, 131, 132, 133] (fun g w' => Bel w w' ∧ base ≤ w'.heap.size ∧ FrSame Z0 wZ w' ∧ Blk w' b0 36 #[.slice none 0 0, .slice none 0 0, .slice none 0 0, .slice none 0 0, .slice none 0 0] ∧ Blk w' b1 70 #[.string ⟨#[101]⟩, .slice none 0 0] ∧ Blk w' b2 70 #[.string ⟨#[116]⟩, .slice none 0 0] ∧ Blk w' b3 70 #[p12, q12] ∧ Blk w' b4 70 #[p15, q15] ∧ Blk w' b23 63 (smallF.flatMap (fun f => [Value.string f.name, .int .i64 f.of, .int .i64 f.val])).toArray ∧ ∃ A cap xs, Blk w' b5 36 #[.slice At 15 capt, .slice (some ⟨b23, 0, none⟩) 5 5, .slice (some ⟨b93, 0, none⟩) 6 6, .slice A 6 cap, .slice none 0 0] ∧ Own w' base 84 9 A 6 cap xs) ?_ (fun g14 w27 hI => ?_)
  · have hh := fun f Q k0 k1 => small_r14 hB hbs hFr hb0 hb1 hb2 hb3 hb4 hb23 hb5 ho hp12 hq12 hp15 hq15 z5 lo5 o0 o1 o2 o3 o4 o23 hlo hFb hl0 hl1 hl2 hl3 hl4 hl5 hl23 f Q k0 k1
    exact hh _ _ (by rfl) (by rfl)
  obtain ⟨hB, hbs, hFr, hb0, hb1, hb2, hb3, hb4, hb23, A, cap, xs, hb5, ho⟩ := hI
  refine e_S ?_
  refine c_seq ?_
  refine c_cutS [134, 135, 136, 137, 138, 139, 140] (fun g w' => Bel w w' ∧ base ≤ w'.heap.size ∧ FrSame Z0 wZ w' ∧ Blk w' b0 36 #[.slice none 0 0, .slice none 0 0, .slice none 0 0, .slice none 0 0, .slice none 0 0] ∧ Blk w' b1 70 #[.string ⟨#[101]⟩, .slice none 0 0] ∧ Blk w' b2 70 #[.string ⟨#[116]⟩, .slice none 0 0] ∧ Blk w' b3 70 #[p12, q12] ∧ Blk w' b4 70 #[p15, q15] ∧ Blk w' b23 63 (smallF.flatMap (fun f => [Value.string f.name, .int .i64 f.of, .int .i64 f.val])).toArray ∧ ∃ A cap xs, Blk w' b5 36 #[.slice At 15 capt, .slice (some ⟨b23, 0, none⟩) 5 5, .slice (some ⟨b93, 0, none⟩) 6 6, .slice A 7 cap, .slice none 0 0] ∧ Own w' base 84 9 A 7 cap xs) ?_ (fun g15 w28 hI => ?_)
  · have hh := fun f Q k0 k1 => small_r15 hB hbs hFr hb0 hb1 hb2 hb3 hb4 hb23 hb5 ho hp12 hq12 hp15 hq15 z5 lo5 o0 o1 o2 o3 o4 o23 hlo hFb hl0 hl1 hl2 hl3 hl4 hl5 hl23 f Q k0 k1
    exact hh _ _ (by rfl) (by rfl)
  obtain ⟨hB, hbs, hFr, hb0, hb1, hb2, hb3, hb4, hb23, A, cap, xs, hb5, ho⟩ := hI
  refine e_S ?_
  refine c_seq ?_
  refine c_cutS [141, 142, 143, 144, 145, 146, 147] (fun g w' => Bel w w' ∧ base ≤ w'.heap.size ∧ FrSame Z0 wZ w' ∧ Blk w' b0 36 #[.slice none 0 0, .slice none 0 0, .slice none 0 0, .slice none 0 0, .slice none 0 0] ∧ Blk w' b1 70 #[.string ⟨#[101]⟩, .slice none 0 0] ∧ Blk w' b2 70 #[.string ⟨#[116]⟩, .slice none 0 0] ∧ Blk w' b3 70 #[p12, q12] ∧ Blk w' b4 70 #[p15, q15] ∧ Blk w' b23 63 (smallF.flatMap (fun f => [Value.string f.name, .int .i64 f.of, .int .i64 f.val])).toArray ∧ ∃ A cap xs, Blk w' b5 36 #[.slice At 15 capt, .slice (some ⟨b23, 0, none⟩) 5 5, .slice (some ⟨b93, 0, none⟩) 6 6, .slice A 8 cap, .slice none 0 0] ∧ Own w' base 84 9 A 8 cap xs) ?_ (fun g16 w29 hI => ?_)
  · have hh := fun f Q k0 k1 => small_r16 hB hbs hFr hb0 hb1 hb2 hb3 hb4 hb23 hb5 ho hp12 hq12 hp15 hq15 z5 lo5 o0 o1 o2 o3 o4 o23 hlo hFb hl0 hl1 hl2 hl3 hl4 hl5 hl23 f Q k0 k1
    exact hh _ _ (by rfl) (by rfl)
  obtain ⟨hB, hbs, hFr, hb0, hb1, hb2, hb3, hb4, hb23, A, cap, xs, hb5, ho⟩ := hI
  refine e_S ?_
  refine c_seq ?_
  refine c_cutS [148, 149, 150, 151, 152, 153, 154] (fun g w' => Bel w w' ∧ base ≤ w'.heap.size ∧ FrSame Z0 wZ w' ∧ Blk w' b0 36 #[.slice none 0 0, .slice none 0 0, .slice none 0 0, .slice none 0 0, .slice none 0 0] ∧ Blk w' b1 70 #[.string ⟨#[101]⟩, .slice none 0 0] ∧ Blk w' b2 70 #[.string ⟨#[116]⟩, .slice none 0 0] ∧ Blk w' b3 70 #[p12, q12] ∧ Blk w' b4 70 #[p15, q15] ∧ Blk w' b23 63 (smallF.flatMap (fun f => [Value.string f.name, .int .i64 f.of, .int .i64 f.val])).toArray ∧ ∃ A cap xs, Blk w' b5 36 #[.slice At 15 capt, .slice (some ⟨b23, 0, none⟩) 5 5, .slice (some ⟨b93, 0, none⟩) 6 6, .slice A 9 cap, .slice none 0 0] ∧ Own w' base 84 9 A 9 cap xs) ?_ (fun g17 w30 hI => ?_)
  · have hh := fun f Q k0 k1 => small_r17 hB hbs hFr hb0 hb1 hb2 hb3 hb4 hb23 hb5 ho hp12 hq12 hp15 hq15 z5 lo5 o0 o1 o2 o3 o4 o23 hlo hFb hl0 hl1 hl2 hl3 hl4 hl5 hl23 f Q k0 k1
    exact hh _ _ (by rfl) (by rfl)
  obtain ⟨hB, hbs, hFr, hb0, hb1, hb2, hb3, hb4, hb23, A, cap, xs, hb5, ho⟩ := hI
  refine e_S ?_
  refine c_seq ?_
  refine c_cutS [155, 156, 157, 158, 159, 160, 161] (fun g w' => Bel w w' ∧ base ≤ w'.heap.size ∧ FrSame Z0 wZ w' ∧ Blk w' b0 36 #[.slice none 0 0, .slice none 0 0, .slice none 0 0, .slice none 0 0, .slice none 0 0] ∧ Blk w' b1 70 #[.string ⟨#[101]⟩, .slice none 0 0] ∧ Blk w' b2 70 #[.string ⟨#[116]⟩, .slice none 0 0] ∧ Blk w' b3 70 #[p12, q12] ∧ Blk w' b4 70 #[p15, q15] ∧ Blk w' b23 63 (smallF.flatMap (fun f => [Value.string f.name, .int .i64 f.of, .int .i64 f.val])).toArray ∧ ∃ A cap xs, Blk w' b5 36 #[.slice At 15 capt, .slice (some ⟨b23, 0, none⟩) 5 5, .slice (some ⟨b93, 0, none⟩) 6 6, .slice A 10 cap, .slice none 0 0] ∧ Own w' base 84 9 A 10 cap xs) ?_ (fun g18 w31 hI => ?_)
  · have hh := fun f Q k0 k1 => small_r18 hB hbs hFr hb0 hb1 hb2 hb3 hb4 hb23 hb5 ho hp12 hq12 hp15 hq15 z5 lo5 o0 o1 o2 o3 o4 o23 hlo hFb hl0 hl1 hl2 hl3 hl4 hl5 hl23 f Q k0 k1
    exact hh _ _ (by rfl) (by rfl)
  obtain ⟨hB, hbs, hFr, hb0, hb1, hb2, hb3, hb4, hb23, A, cap, xs, hb5, ho⟩ := hI
  refine e_S ?_
  refine c_seq ?_
  refine c_cutS [162, 163, 164, 165, 166, 167, 168] (fun g w' => Bel w w' ∧ base ≤ w'.heap.size ∧ FrSame Z0 wZ w' ∧ Blk w' b0 36 #[.slice none 0 0, .slice none 0 0, .slice none 0 0, .slice none 0 0, .slice none 0 0] ∧ Blk w' b1 70 #[.string ⟨#[101]⟩, .slice none 0 0] ∧ Blk w' b2 70 #[.string ⟨#[116]⟩, .slice none 0 0] ∧ Blk w' b3 70 #[p12, q12] ∧ Blk w' b4 70 #[p15, q15] ∧ Blk w' b23 63 (smallF.flatMap (fun f => [Value.string f.name, .int .i64 f.of, .int .i64 f.val])).toArray ∧ ∃ A cap xs, Blk w' b5 36 #[.slice At 15 capt, .slice (some ⟨b23, 0, none⟩) 5 5, .slice (some ⟨b93, 0, none⟩) 6 6, .slice A 11 cap, .slice none 0 0] ∧ Own w' base 84 9 A 11 cap xs) ?_ (fun g19 w32 hI => ?_)
  · have hh := fun f Q k0 k1 => small_r19 hB hbs hFr hb0 hb1 hb2 hb3 hb4 hb23 hb5 ho hp12 hq12 hp15 hq15 z5 lo5 o0 o1 o2 o3 o4 o23 hlo hFb hl0 hl1 hl2 hl3 hl4 hl5 hl23 f Q k0 k1
    exact hh _ _ (by rfl) (by rfl)
  obtain ⟨hB, hbs, hFr, hb0, hb1, hb2, hb3, hb4, hb23, A, cap, xs, hb5, ho⟩ := hI
  refine e_S ?_
  refine c_seq ?_
  refine c_cutS [169, 170, 171, 172, 173, 174, 175] (fun g w' => Bel w w' ∧ base ≤ w'.heap.size ∧ FrSame Z0 wZ w' ∧ Blk w' b0 36 #[.slice none 0 0, .slice none 0 0, .slice none 0 0, .slice none 0 0, .slice none 0 0] ∧ Blk w' b1 70 #[.string ⟨#[101]⟩, .slice none 0 0] ∧ Blk w' b2 70 #[.string ⟨#[116]⟩, .slice none 0 0] ∧ Blk w' b3 70 #[p12, q12] ∧ Blk w' b4 70 #[p15, q15] ∧ Blk w' b23 63 (smallF.flatMap (fun f => [Value.string f.name, .int .i64 f.of, .int .i64 f.val])).toArray ∧ ∃ A cap xs, Blk w' b5 36 #[.slice At 15 capt, .slice (some ⟨b23, 0, none⟩) 5 5, .slice (some ⟨b93, 0, none⟩) 6 6, .slice A 12 cap, .slice none 0 0] ∧ Own w' base 84 9 A 12 cap xs) ?_ (fun g20 w33 hI => ?_)
  · have hh := fun f Q k0 k1 => small_r20 hB hbs hFr hb0 hb1 hb2 hb3 hb4 hb23 hb5 ho hp12 hq12 hp15 hq15 z5 lo5 o0 o1 o2 o3 o4 o23 hlo hFb hl0 hl1 hl2 hl3 hl4 hl5 hl23 f Q k0 k1
    exact hh _ _ (by rfl) (by rfl)
  obtain ⟨hB, hbs, hFr, hb0, hb1, hb2, hb3, hb4, hb23, A, cap, xs, hb5, ho⟩ := hI
  refine e_S ?_
  refine c_seq ?_
  refine c_cutS [176, 177, 178, 179, 180, 181, 182] (fun g w' => Bel w w' ∧ base ≤ w'.heap.size ∧ FrSame Z0 wZ w' ∧ Blk w' b0 36 #[.slice none 0 0, .slice none 0 0, .slice none 0 0, .slice none 0 0, .slice none 0 0] ∧ Blk w' b1 70 #[.string ⟨#[101]⟩, .slice none 0 0] ∧ Blk w' b2 70 #[.string ⟨#[116]⟩, .slice none 0 0] ∧ Blk w' b3 70 #[p12, q12] ∧ Blk w' b4 70 #[p15, q15] ∧ Blk w' b23 63 (smallF.flatMap (fun f => [Value.string f.name, .int .i64 f.of, .int .i64 f.val])).toArray ∧ ∃ A cap xs, Blk w' b5 36 #[.slice At 15 capt, .slice (some ⟨b23, 0, none⟩) 5 5, .slice (some ⟨b93, 0, none⟩) 6 6, .slice A 13 cap, .slice none 0 0] ∧ Own w' base 84 9 A 13 cap xs) ?_ (fun g21 w34 hI => ?_)
  · have hh := fun f Q k0 k1 => small_r21 hB hbs hFr hb0 hb1 hb2 hb3 hb4 hb23 hb5 ho hp12 hq12 hp15 hq15 z5 lo5 o0 o1 o2 o3 o4 o23 hlo hFb hl0 hl1 hl2 hl3 hl4 hl5 hl23 f Q k0 k1
    exact hh _ _ (by rfl) (by rfl)
  obtain ⟨hB, hbs, hFr, hb0, hb1, hb2, hb3, hb4, hb23, A, cap, xs, hb5, ho⟩ := hI
  refine e_S ?_
  refine c_seq ?_
  refine c_cutS [183, 184, 185, 186, 187, 188, 189] (fun g w' => Bel w w' ∧ base ≤ w'.heap.size ∧ FrSame Z0 wZ w' ∧ Blk w' b0 36 #[.slice none 0 0, .slice none 0 0, .slice none 0 0, .slice none 0 0, .slice none 0 0] ∧ Blk w' b1 70 #[.string ⟨#[101]⟩, .slice none 0 0] ∧ Blk w' b2 70 #[.string ⟨#[116]⟩, .slice none 0 0] ∧ Blk w' b3 70 #[p12, q12] ∧ Blk w' b4 70 #[p15, q15] ∧ Blk w' b23 63 (smallF.flatMap (fun f => [Value.string f.name, .int .i64 f.of, .int .i64 f.val])).toArray ∧ ∃ A cap xs, Blk w' b5 36 #[.slice At 15 capt, .slice (some ⟨b23, 0, none⟩) 5 5, .slice (some ⟨b93, 0, none⟩) 6 6, .slice A 14 cap, .slice none 0 0] ∧ Own w' base 84 9 A 14 cap xs) ?_ (fun g22 w35 hI => ?_)
  · have hh := fun f Q k0 k1 => small_r22 hB hbs hFr hb0 hb1 hb2 hb3 hb4 hb23 hb5 ho hp12 hq12 hp15 hq15 z5 lo5 o0 o1 o2 o3 o4 o23 hlo hFb hl0 hl1 hl2 hl3 hl4 hl5 hl23 f Q k0 k1
    exact hh _ _ (by rfl) (by rfl)
  obtain ⟨hB, hbs, hFr, hb0, hb1, hb2, hb3, hb4, hb23, A, cap, xs, hb5, ho⟩ := hI
  refine e_S ?_
  refine c_seq ?_
  refine c_cutS [190, 191, 192, 193, 194, 195, 196] (fun g w' => Bel w w' ∧ base ≤ w'.heap.size ∧ FrSame Z0 wZ w' ∧ Blk w' b0 36 #[.slice none 0 0, .slice none 0 0, .slice none 0 0, .slice none 0 0, .slice none 0 0] ∧ Blk w' b1 70 #[.string ⟨#[101]⟩, .slice none 0 0] ∧ Blk w' b2 70 #[.string ⟨#[116]⟩, .slice none 0 0] ∧ Blk w' b3 70 #[p12, q12] ∧ Blk w' b4 70 #[p15, q15] ∧ Blk w' b23 63 (smallF.flatMap (fun f => [Value.string f.name, .int .i64 f.of, .int .i64 f.val])).toArray ∧ ∃ A cap xs, Blk w' b5 36 #[.slice At 15 capt, .slice (some ⟨b23, 0, none⟩) 5 5, .slice (some ⟨b93, 0, none⟩) 6 6, .slice A 15 cap, .slice none 0 0] ∧ Own w' base 84 9 A 15 cap xs) ?_ (fun g23 w36 hI => ?_)
  · have hh := fun f Q k0 k1 => small_r23 hB hbs hFr hb0 hb1 hb2 hb3 hb4 hb23 hb5 ho hp12 hq12 hp15 hq15 z5 lo5 o0 o1 o2 o3 o4 o23 hlo hFb hl0 hl1 hl2 hl3 hl4 hl5 hl23 f Q k0 k1
    exact hh _ _ (by rfl) (by rfl)
  obtain ⟨hB, hbs, hFr, hb0, hb1, hb2, hb3, hb4, hb23, A, cap, xs, hb5, ho⟩ := hI
  refine e_S ?_
  refine c_seq ?_
  refine c_cutS [197, 198, 199, 200, 201, 202, 203] (fun g w' => Bel w w' ∧ base ≤ w'.heap.size ∧ FrSame Z0 wZ w' ∧ Blk w' b0 36 #[.slice none 0 0, .slice none 0 0, .slice none 0 0, .slice none 0 0, .slice none 0 0] ∧ Blk w' b1 70 #[.string ⟨#[101]⟩, .slice none 0 0] ∧ Blk w' b2 70 #[.string ⟨#[116]⟩, .slice none 0 0] ∧ Blk w' b3 70 #[p12, q12] ∧ Blk w' b4 70 #[p15, q15] ∧ Blk w' b23 63 (smallF.flatMap (fun f => [Value.string f.name, .int .i64 f.of, .int .i64 f.val])).toArray ∧ ∃ A cap xs, Blk w' b5 36 #[.slice At 15 capt, .slice (some ⟨b23, 0, none⟩) 5 5, .slice (some ⟨b93, 0, none⟩) 6 6, .slice A 16 cap, .slice none 0 0] ∧ Own w' base 84 9 A 16 cap xs) ?_ (fun g24 w37 hI => ?_)
  · have hh := fun f Q k0 k1 => small_r24 hB hbs hFr hb0 hb1 hb2 hb3 hb4 hb23 hb5 ho hp12 hq12 hp15 hq15 z5 lo5 o0 o1 o2 o3 o4 o23 hlo hFb hl0 hl1 hl2 hl3 hl4 hl5 hl23 f Q k0 k1
    exact hh _ _ (by rfl) (by rfl)
  obtain ⟨hB, hbs, hFr, hb0, hb1, hb2, hb3, hb4, hb23, A, cap, xs, hb5, ho⟩ := hI
  refine e_S ?_
  refine c_seq ?_
  refine c_cutS [204, 205, 206, 207, 208, 209, 210] (fun g w' => Bel w w' ∧ base ≤ w'.heap.size ∧ FrSame Z0 wZ w' ∧ Blk w' b0 36 #[.slice none 0 0, .slice none 0 0, .slice none 0 0, .slice none 0 0, .slice none 0 0] ∧ Blk w' b1 70 #[.string ⟨#[101]⟩, .slice none 0 0] ∧ Blk w' b2 70 #[.string ⟨#[116]⟩, .slice none 0 0] ∧ Blk w' b3 70 #[p12, q12] ∧ Blk w' b4 70 #[p15, q15] ∧ Blk w' b23 63 (smallF.flatMap (fun f => [Value.string f.name, .int .i64 f.of, .int .i64 f.val])).toArray ∧ ∃ A cap xs, Blk w' b5 36 #[.slice At 15 capt, .slice (some ⟨b23, 0, none⟩) 5 5, .slice (some ⟨b93, 0, none⟩) 6 6, .slice A 17 cap, .slice none 0 0] ∧ Own w' base 84 9 A 17 cap xs) ?_ (fun g25 w38 hI => ?_)
  · have hh := fun f Q k0 k1 => small_r25 hB hbs hFr hb0 hb1 hb2 hb3 hb4 hb23 hb5 ho hp12 hq12 hp15 hq15 z5 lo5 o0 o1 o2 o3 o4 o23 hlo hFb hl0 hl1 hl2 hl3 hl4 hl5 hl23 f Q k0 k1
    exact hh _ _ (by rfl) (by rfl)
  obtain ⟨hB, hbs, hFr, hb0, hb1, hb2, hb3, hb4, hb23, A, cap, xs, hb5, ho⟩ := hI
  refine e_S ?_
  refine c_seq ?_
  refine c_cutS [211, 212, 213, 214, 215, 216, 217, 218] (fun g w' => Bel w w' ∧ base ≤ w'.heap.size ∧ FrSame Z0 wZ w' ∧ Blk w' b0 36 #[.slice none 0 0, .slice none 0 0, .slice none 0 0, .slice none 0 0, .slice none 0 0] ∧ Blk w' b1 70 #[.string ⟨#[101]⟩, .slice none 0 0] ∧ Blk w' b2 70 #[.string ⟨#[116]⟩, .slice none 0 0] ∧ Blk w' b3 70 #[p12, q12] ∧ Blk w' b4 70 #[p15, q15] ∧ Blk w' b23 63 (smallF.flatMap (fun f => [Value.string f.name, .int .i64 f.of, .int .i64 f.val])).toArray ∧ ∃ A cap xs, Blk w' b5 36 #[.slice At 15 capt, .slice (some ⟨b23, 0, none⟩) 5 5, .slice (some ⟨b93, 0, none⟩) 6 6, .slice A 18 cap, .slice none 0 0] ∧ Own w' base 84 9 A 18 cap xs) ?_ (fun g26 w39 hI => ?_)
  · have hh := fun f Q k0 k1 => small_r26 hB hbs hFr hb0 hb1 hb2 hb3 hb4 hb23 hb5 ho hp12 hq12 hp15 hq15 z5 lo5 o0 o1 o2 o3 o4 o23 hlo hFb hl0 hl1 hl2 hl3 hl4 hl5 hl23 f Q k0 k1
    exact hh _ _ (by rfl) (by rfl)
  obtain ⟨hB, hbs, hFr, hb0, hb1, hb2, hb3, hb4, hb23, A, cap, xs, hb5, ho⟩ := hI
  refine e_S ?_
  refine c_seq ?_
  refine c_cutS [219, 220, 221, 222, 223, 224, 225, 226, 227, 228] (fun g w' => Bel w w' ∧ base ≤ w'.heap.size ∧ FrSame Z0 wZ w' ∧ Blk w' b0 36 #[.slice none 0 0, .slice none 0 0, .slice none 0 0, .slice none 0 0, .slice none 0 0] ∧ Blk w' b1 70 #[.string ⟨#[101]⟩, .slice none 0 0] ∧ Blk w' b2 70 #[.string ⟨#[116]⟩, .slice none 0 0] ∧ Blk w' b3 70 #[p12, q12] ∧ Blk w' b4 70 #[p15, q15] ∧ Blk w' b23 63 (smallF.flatMap (fun f => [Value.string f.name, .int .i64 f.of, .int .i64 f.val])).toArray ∧ ∃ A cap xs, Blk w' b5 36 #[.slice At 15 capt, .slice (some ⟨b23, 0, none⟩) 5 5, .slice (some ⟨b93, 0, none⟩) 6 6, .slice A 19 cap, .slice none 0 0] ∧ Own w' base 84 9 A 19 cap xs) ?_ (fun g27 w40 hI => ?_)
  · have hh := fun f Q k0 k1 => small_r27 hB hbs hFr hb0 hb1 hb2 hb3 hb4 hb23 hb5 ho hp12 hq12 hp15 hq15 z5 lo5 o0 o1 o2 o3 o4 o23 hlo hFb hl0 hl1 hl2 hl3 hl4 hl5 hl23 f Q k0 k1
    exact hh _ _ (by rfl) (by rfl)
  obtain ⟨hB, hbs, hFr, hb0, hb1, hb2, hb3, hb4, hb23, A, cap, xs, hb5, ho⟩ := hI
  refine e_S ?_
  refine c_seq ?_
  refine c_cutS [229, 230, 231, 232, 233, 234, 235, 236, 237, 238, 239] (fun g w' => Bel w w' ∧ base ≤ w'.heap.size ∧ FrSame Z0 wZ w' ∧ Blk w' b0 36 #[.slice none 0 0, .slice none 0 0, .slice none 0 0, .slice none 0 0, .slice none 0 0] ∧ Blk w' b1 70 #[.string ⟨#[101]⟩, .slice none 0 0] ∧ Blk w' b2 70 #[.string ⟨#[116]⟩, .slice none 0 0] ∧ Blk w' b3 70 #[p12, q12] ∧ Blk w' b4 70 #[p15, q15] ∧ Blk w' b23 63 (smallF.flatMap (fun f => [Value.string f.name, .int .i64 f.of, .int .i64 f.val])).toArray ∧ ∃ A cap xs, Blk w' b5 36 #[.slice At 15 capt, .slice (some ⟨b23, 0, none⟩) 5 5, .slice (some ⟨b93, 0, none⟩) 6 6, .slice A 20 cap, .slice none 0 0] ∧ Own w' base 84 9 A 20 cap xs) ?_ (fun g28 w41 hI => ?_)
  · have hh := fun f Q k0 k1 k2 => small_r28 hB hbs hFr hb0 hb1 hb2 hb3 hb4 hb23 hb5 ho hp12 hq12 hp15 hq15 z5 lo5 o0 o1 o2 o3 o4 o23 hlo hFb hl0 hl1 hl2 hl3 hl4 hl5 hl23 f Q k0 k1 k2
    exact hh _ _ (by rfl) (by rfl) (by rfl)
  obtain ⟨hB, hbs, hFr, hb0, hb1, hb2, hb3, hb4, hb23, A, cap, xs, hb5, ho⟩ := hI
  refine e_S ?_
  refine c_seq ?_
  refine c_cutS [240, 241, 242, 243, 244, 245, 246, 247, 248, 249, 250] (fun g w' => Bel w w' ∧ base ≤ w'.heap.size ∧ FrSame Z0 wZ w' ∧ Blk w' b0 36 #[.slice none 0 0, .slice none 0 0, .slice none 0 0, .slice none 0 0, .slice none 0 0] ∧ Blk w' b1 70 #[.string ⟨#[101]⟩, .slice none 0 0] ∧ Blk w' b2 70 #[.string ⟨#[116]⟩, .slice none 0 0] ∧ Blk w' b3 70 #[p12, q12] ∧ Blk w' b4 70 #[p15, q15] ∧ Blk w' b23 63 (smallF.flatMap (fun f => [Value.string f.name, .int .i64 f.of, .int .i64 f.val])).toArray ∧ ∃ A cap xs, Blk w' b5 36 #[.slice At 15 capt, .slice (some ⟨b23, 0, none⟩) 5 5, .slice (some ⟨b93, 0, none⟩) 6 6, .slice A 21 cap, .slice none 0 0] ∧ Own w' base 84 9 A 21 cap xs) ?_ (fun g29 w42 hI => ?_)
  · have hh := fun f Q k0 k1 k2 => small_r29 hB hbs hFr hb0 hb1 hb2 hb3 hb4 hb23 hb5 ho hp12 hq12 hp15 hq15 z5 lo5 o0 o1 o2 o3 o4 o23 hlo hFb hl0 hl1 hl2 hl3 hl4 hl5 hl23 f Q k0 k1 k2
    exact hh _ _ (by rfl) (by rfl) (by rfl)
  obtain ⟨hB, hbs, hFr, hb0, hb1, hb2, hb3, hb4, hb23, A, cap, xs, hb5, ho⟩ := hI
  refine e_S ?_
  refine c_seq ?_
  refine c_region ?_
  refine wl_bs (cs := #[_]) [(0, .int _ _)] rfl Tryd.underlying45 sz3 ze3 (by decide) (by decide) (by kernel_rfl) rfl (fun b251 w43 hb251 hs hr => ?_)
  have or_b0_b251 : b0 < b251 := Nat.lt_of_lt_of_le hb0.lt hr
  have or_b1_b251 : b1 < b251 := Nat.lt_of_lt_of_le hb1.lt hr
  have or_b2_b251 : b2 < b251 := Nat.lt_of_lt_of_le hb2.lt hr
  have or_b3_b251 : b3 < b251 := Nat.lt_of_lt_of_le hb3.lt hr
  have or_b4_b251 : b4 < b251 := Nat.lt_of_lt_of_le hb4.lt hr
  have or_b23_b251 : b23 < b251 := Nat.lt_of_lt_of_le hb23.lt hr
  have or_b5_b251 : b5 < b251 := Nat.lt_of_lt_of_le hb5.lt hr
  have or_ho_b251 := fun g hg => Nat.lt_of_lt_of_le (ho.lt g hg).2 hr
  have lo251 := Nat.le_trans (Bel.size hB) hr
  replace hB := hB.tr0 hs
  replace hbs := Nat.le_trans hbs (Same.size hs)
  replace hFr := hFr.of hs (by simp)
  replace hb0 := hb0.tr0 hs
  replace hb1 := hb1.tr0 hs
  replace hb2 := hb2.tr0 hs
  replace hb3 := hb3.tr0 hs
  replace hb4 := hb4.tr0 hs
  replace hb23 := hb23.tr0 hs
  replace hb5 := hb5.tr0 hs
  replace ho := ho.tr0 hs
  clear hs
  clear hr
  refine wl_bs (cs := #[_]) [(0, .slice _ _ _)] rfl Tryd.underlying82 sz45 ze45 (by decide) (by decide) (by kernel_rfl) rfl (fun b252 w44 hb252 hs hr => ?_)
  have or_b0_b252 : b0 < b252 := Nat.lt_of_lt_of_le hb0.lt hr
  have or_b1_b252 : b1 < b252 := Nat.lt_of_lt_of_le hb1.lt hr
  have or_b2_b252 : b2 < b252 := Nat.lt_of_lt_of_le hb2.lt hr
  have or_b3_b252 : b3 < b252 := Nat.lt_of_lt_of_le hb3.lt hr
  have or_b4_b252 : b4 < b252 := Nat.lt_of_lt_of_le hb4.lt hr
  have or_b23_b252 : b23 < b252 := Nat.lt_of_lt_of_le hb23.lt hr
  have or_b5_b252 : b5 < b252 := Nat.lt_of_lt_of_le hb5.lt hr
  have or_ho_b252 := fun g hg => Nat.lt_of_lt_of_le (ho.lt g hg).2 hr
  have or_b251_b252 : b251 < b252 := Nat.lt_of_lt_of_le hb251.lt hr
  have lo252 := Nat.le_trans (Bel.size hB) hr
  replace hB := hB.tr0 hs
  replace hbs := Nat.le_trans hbs (Same.size hs)
  replace hFr := hFr.of hs (by simp)
  replace hb0 := hb0.tr0 hs
  replace hb1 := hb1.tr0 hs
  replace hb2 := hb2.tr0 hs
  replace hb3 := hb3.tr0 hs
  replace hb4 := hb4.tr0 hs
  replace hb23 := hb23.tr0 hs
  replace hb5 := hb5.tr0 hs
  replace ho := ho.tr0 hs
  replace hb251 := hb251.tr0 hs
  clear hs
  clear hr
  refine wl_cl fn28 (graphOf_any _ _ [[6]] _ (rows_of_blk (rs := [[6]]) hb252 (.cons ⟨_, _, rfl, ints_of_blk [6] hb251 (by decide), by decide, by decide⟩ .nil) (by decide))) rfl (fun e' w45 hr => ?_)
  obtain ⟨⟨q253, rfl, hq253⟩, hs⟩ := hr
  replace hs := Same.of_bel hs
  replace hB := hB.tr0 hs
  replace hbs := Nat.le_trans hbs (Same.size hs)
  replace hFr := hFr.of hs (by simp)
  replace hb0 := hb0.tr0 hs
  replace hb1 := hb1.tr0 hs
  replace hb2 := hb2.tr0 hs
  replace hb3 := hb3.tr0 hs
  replace hb4 := hb4.tr0 hs
  replace hb23 := hb23.tr0 hs
  replace hb5 := hb5.tr0 hs
  replace ho := ho.tr0 hs
  replace hb251 := hb251.tr0 hs
  replace hb252 := hb252.tr0 hs
  clear hs
  refine ⟨_, rfl, ?_⟩
  refine wl (r_fa Tryd.underlying36 sz34 (by decide) rfl rfl rfl) ?_
  refine wl_stM hb5 rfl rfl sz34 (by first | decide | simp) (by repeat (first | rfl | refine one_cons (by first | rfl | assumption) ?_)) rfl (fun w46 hq hs => ?_)
  replace hB := hB.tr1 hs lo5
  replace hbs := Nat.le_trans hbs (Same.size hs)
  replace hFr := hFr.of hs (fun g hg => by rw [List.mem_singleton.1 hg]; omega)
  replace hb0 := hb0.tr1 hs (by omega)
  replace hb1 := hb1.tr1 hs (by omega)
  replace hb2 := hb2.tr1 hs (by omega)
  replace hb3 := hb3.tr1 hs (by omega)
  replace hb4 := hb4.tr1 hs (by omega)
  replace hb23 := hb23.tr1 hs (by omega)
  replace ho := ho.tr1 hs (fun g hg => by have := (ho.lt g hg).1; (try have := or_ho_b5 g hg); (try simp only [aL, List.mem_singleton] at hg); omega)
  replace hb251 := hb251.tr1 hs (by omega)
  replace hb252 := hb252.tr1 hs (by omega)
  clear hs
  replace hb5 := hq
  refine x_nil ?_
  refine e_S ?_
  refine c_seq ?_
  refine c_region ?_
  refine wl (r_ldS Tryd.underlying36 rfl rfl hb5.range0 sz36) ?_
  refine wl_stW hb0 rfl rfl sz36 rfl (by repeat (first | rfl | refine one_cons (by first | rfl | assumption) ?_)) (fun w47 hq hs => ?_)
  replace hB := hB.tr1 hs lo0
  replace hbs := Nat.le_trans hbs (Same.size hs)
  replace hFr := hFr.of hs (fun g hg => by rw [List.mem_singleton.1 hg]; omega)
  replace hb1 := hb1.tr1 hs (by omega)
  replace hb2 := hb2.tr1 hs (by omega)
  replace hb3 := hb3.tr1 hs (by omega)
  replace hb4 := hb4.tr1 hs (by omega)
  replace hb23 := hb23.tr1 hs (by omega)
  replace hb5 := hb5.tr1 hs (by omega)
  replace ho := ho.tr1 hs (fun g hg => by have := (ho.lt g hg).1; (try have := or_ho_b0 g hg); (try simp only [aL, List.mem_singleton] at hg); omega)
  replace hb251 := hb251.tr1 hs (by omega)
  replace hb252 := hb252.tr1 hs (by omega)
  clear hs
  replace hb0 := hq
  refine x_nil ?_
  refine e_S ?_
  refine c_ret ?_
  refine fin1 (.inl rfl) rfl (rr_cell Tryd.underlying36 rfl rfl hb0.range0 sz36) ?_
  exact ⟨⟨_, _, _, _, _, _, _, rfl, hTy _ hFr, feats_of_blk smallF hb23 (by decide)⟩, hB⟩
end Go.Proofs.YthhkbhapfcfdjaaDoor
