/- What these functions of the program compute, at every world: glosswright/glosswrightequal.meanings. -/
import Derived.Test.YthhkbhapfcfdjaaDoorQuant
namespace Go.Proofs.YthhkbhapfcfdjaaDoor
open Go.RowKit


set_option maxHeartbeats 4000000 in
theorem meanings_any (w : World) : Calls Tryd.prog 27 #[.bool false] w fun e w' => (∃ b cs, e = .returned (.slice (some ⟨b, 0, none⟩) 6 6) ∧ Blk w' b 78 cs ∧ cs.size = 36 ∧ cs.toList.all (·.oneCell') = true) ∧ Bel w w' := by
  refine enter Tryd.func27 Tryd.ntmps27 rfl (Nat.le_of_ble_eq_true rfl) ?_
  have hB : Bel w w := Below.refl _ _
  refine c_seq ?_
  refine c_region ?_
  refine wl (r_as (v := .slice _ _ _) rfl) ?_
  refine x_nil ?_
  refine e_S ?_
  refine c_seq ?_
  refine c_region ?_
  refine wl_cl fn24 (base_any _ _) rfl (fun e' w1 hr => ?_)
  obtain ⟨rfl, hs⟩ := hr
  replace hs := Same.of_bel hs
  replace hB := hB.tr0 hs
  clear hs
  refine ⟨_, rfl, ?_⟩
  refine wl_cl fn24 (base_any _ _) rfl (fun e' w2 hr => ?_)
  obtain ⟨rfl, hs⟩ := hr
  replace hs := Same.of_bel hs
  replace hB := hB.tr0 hs
  clear hs
  refine ⟨_, rfl, ?_⟩
  refine wl_al (cs := #[.string ⟨#[]⟩, .slice none 0 0]) ze70 rfl (fun b3 w3 hb3 hs hr => ?_)
  have lo3 := Nat.le_trans (Bel.size hB) hr
  replace hB := hB.tr0 hs
  clear hs
  clear hr
  refine wl_al (cs := #[.string ⟨#[]⟩, .slice none 0 0]) ze70 rfl (fun b4 w4 hb4 hs hr => ?_)
  have or_b3_b4 : b3 < b4 := Nat.lt_of_lt_of_le hb3.lt hr
  have lo4 := Nat.le_trans (Bel.size hB) hr
  replace hB := hB.tr0 hs
  replace hb3 := hb3.tr0 hs
  clear hs
  clear hr
  refine wl_stW hb3 rfl rfl sz70 rfl (by repeat (first | rfl | refine one_cons (by first | rfl | assumption) ?_)) (fun w5 hq hs => ?_)
  replace hB := hB.tr1 hs lo3
  replace hb4 := hb4.tr1 hs (by omega)
  clear hs
  replace hb3 := hq
  refine wl_stW hb4 rfl rfl sz70 rfl (by repeat (first | rfl | refine one_cons (by first | rfl | assumption) ?_)) (fun w6 hq hs => ?_)
  replace hB := hB.tr1 hs lo4
  replace hb3 := hb3.tr1 hs (by omega)
  clear hs
  replace hb4 := hq
  refine x_nil ?_
  refine e_S ?_
  refine c_seq ?_
  refine c_region ?_
  refine wl (r_ldS Tryd.underlying70 rfl rfl hb3.range0 sz70) ?_
  refine wl (r_ldS Tryd.underlying70 rfl rfl hb4.range0 sz70) ?_
  refine wl_cl fn25 (fun_any _ _ _ _ (by first | rfl | assumption) (by first | rfl | assumption) (by first | rfl | assumption) (by first | rfl | assumption) _) rfl (fun e' w7 hr => ?_)
  obtain ⟨⟨p14, q14, rfl, hp14, hq14⟩, hs⟩ := hr
  replace hs := Same.of_bel hs
  replace hB := hB.tr0 hs
  replace hb3 := hb3.tr0 hs
  replace hb4 := hb4.tr0 hs
  clear hs
  refine ⟨_, rfl, ?_⟩
  refine wl_al (cs := #[.string ⟨#[]⟩, .slice none 0 0]) ze70 rfl (fun b5 w8 hb5 hs hr => ?_)
  have or_b3_b5 : b3 < b5 := Nat.lt_of_lt_of_le hb3.lt hr
  have or_b4_b5 : b4 < b5 := Nat.lt_of_lt_of_le hb4.lt hr
  have lo5 := Nat.le_trans (Bel.size hB) hr
  replace hB := hB.tr0 hs
  replace hb3 := hb3.tr0 hs
  replace hb4 := hb4.tr0 hs
  clear hs
  clear hr
  refine wl_stW hb5 rfl rfl sz70 rfl (by repeat (first | rfl | refine one_cons (by first | rfl | assumption) ?_)) (fun w9 hq hs => ?_)
  replace hB := hB.tr1 hs lo5
  replace hb3 := hb3.tr1 hs (by omega)
  replace hb4 := hb4.tr1 hs (by omega)
  clear hs
  replace hb5 := hq
  refine x_nil ?_
  refine e_S ?_
  refine c_seq ?_
  refine c_region ?_
  refine wl (r_ldS Tryd.underlying70 rfl rfl hb5.range0 sz70) ?_
  refine wl (r_ldS Tryd.underlying70 rfl rfl hb4.range0 sz70) ?_
  refine wl_cl fn25 (fun_any _ _ _ _ (by first | rfl | assumption) (by first | rfl | assumption) (by first | rfl | assumption) (by first | rfl | assumption) _) rfl (fun e' w10 hr => ?_)
  obtain ⟨⟨p17, q17, rfl, hp17, hq17⟩, hs⟩ := hr
  replace hs := Same.of_bel hs
  replace hB := hB.tr0 hs
  replace hb3 := hb3.tr0 hs
  replace hb4 := hb4.tr0 hs
  replace hb5 := hb5.tr0 hs
  clear hs
  refine ⟨_, rfl, ?_⟩
  refine wl_al (cs := #[.string ⟨#[]⟩, .slice none 0 0]) ze70 rfl (fun b6 w11 hb6 hs hr => ?_)
  have or_b3_b6 : b3 < b6 := Nat.lt_of_lt_of_le hb3.lt hr
  have or_b4_b6 : b4 < b6 := Nat.lt_of_lt_of_le hb4.lt hr
  have or_b5_b6 : b5 < b6 := Nat.lt_of_lt_of_le hb5.lt hr
  have lo6 := Nat.le_trans (Bel.size hB) hr
  replace hB := hB.tr0 hs
  replace hb3 := hb3.tr0 hs
  replace hb4 := hb4.tr0 hs
  replace hb5 := hb5.tr0 hs
  clear hs
  clear hr
  refine wl_stW hb6 rfl rfl sz70 rfl (by repeat (first | rfl | refine one_cons (by first | rfl | assumption) ?_)) (fun w12 hq hs => ?_)
  replace hB := hB.tr1 hs lo6
  replace hb3 := hb3.tr1 hs (by omega)
  replace hb4 := hb4.tr1 hs (by omega)
  replace hb5 := hb5.tr1 hs (by omega)
  clear hs
  replace hb6 := hq
  refine x_nil ?_
  refine e_S ?_
  refine c_seq ?_
  refine c_region ?_
  refine wl (r_ldS Tryd.underlying70 rfl rfl hb3.range0 sz70) ?_
  refine wl (r_ldS Tryd.underlying70 rfl rfl hb5.range0 sz70) ?_
  refine wl_cl fn25 (fun_any _ _ _ _ (by first | rfl | assumption) (by first | rfl | assumption) (by first | rfl | assumption) (by first | rfl | assumption) _) rfl (fun e' w13 hr => ?_)
  obtain ⟨⟨p20, q20, rfl, hp20, hq20⟩, hs⟩ := hr
  replace hs := Same.of_bel hs
  replace hB := hB.tr0 hs
  replace hb3 := hb3.tr0 hs
  replace hb4 := hb4.tr0 hs
  replace hb5 := hb5.tr0 hs
  replace hb6 := hb6.tr0 hs
  clear hs
  refine ⟨_, rfl, ?_⟩
  refine wl_al (cs := #[.string ⟨#[]⟩, .slice none 0 0]) ze70 rfl (fun b7 w14 hb7 hs hr => ?_)
  have or_b3_b7 : b3 < b7 := Nat.lt_of_lt_of_le hb3.lt hr
  have or_b4_b7 : b4 < b7 := Nat.lt_of_lt_of_le hb4.lt hr
  have or_b5_b7 : b5 < b7 := Nat.lt_of_lt_of_le hb5.lt hr
  have or_b6_b7 : b6 < b7 := Nat.lt_of_lt_of_le hb6.lt hr
  have lo7 := Nat.le_trans (Bel.size hB) hr
  replace hB := hB.tr0 hs
  replace hb3 := hb3.tr0 hs
  replace hb4 := hb4.tr0 hs
  replace hb5 := hb5.tr0 hs
  replace hb6 := hb6.tr0 hs
  clear hs
  clear hr
  refine wl_stW hb7 rfl rfl sz70 rfl (by repeat (first | rfl | refine one_cons (by first | rfl | assumption) ?_)) (fun w15 hq hs => ?_)
  replace hB := hB.tr1 hs lo7
  replace hb3 := hb3.tr1 hs (by omega)
  replace hb4 := hb4.tr1 hs (by omega)
  replace hb5 := hb5.tr1 hs (by omega)
  replace hb6 := hb6.tr1 hs (by omega)
  clear hs
  replace hb7 := hq
  refine x_nil ?_
  refine e_S ?_
  refine c_seq ?_
  refine c_region ?_
  refine wl (r_ldS Tryd.underlying70 rfl rfl hb5.range0 sz70) ?_
  refine wl (r_ldS Tryd.underlying70 rfl rfl hb6.range0 sz70) ?_
  refine wl_cl fn25 (fun_any _ _ _ _ (by first | rfl | assumption) (by first | rfl | assumption) (by first | rfl | assumption) (by first | rfl | assumption) _) rfl (fun e' w16 hr => ?_)
  obtain ⟨⟨p23, q23, rfl, hp23, hq23⟩, hs⟩ := hr
  replace hs := Same.of_bel hs
  replace hB := hB.tr0 hs
  replace hb3 := hb3.tr0 hs
  replace hb4 := hb4.tr0 hs
  replace hb5 := hb5.tr0 hs
  replace hb6 := hb6.tr0 hs
  replace hb7 := hb7.tr0 hs
  clear hs
  refine ⟨_, rfl, ?_⟩
  refine wl_al (cs := #[.string ⟨#[]⟩, .slice none 0 0]) ze70 rfl (fun b8 w17 hb8 hs hr => ?_)
  have or_b3_b8 : b3 < b8 := Nat.lt_of_lt_of_le hb3.lt hr
  have or_b4_b8 : b4 < b8 := Nat.lt_of_lt_of_le hb4.lt hr
  have or_b5_b8 : b5 < b8 := Nat.lt_of_lt_of_le hb5.lt hr
  have or_b6_b8 : b6 < b8 := Nat.lt_of_lt_of_le hb6.lt hr
  have or_b7_b8 : b7 < b8 := Nat.lt_of_lt_of_le hb7.lt hr
  have lo8 := Nat.le_trans (Bel.size hB) hr
  replace hB := hB.tr0 hs
  replace hb3 := hb3.tr0 hs
  replace hb4 := hb4.tr0 hs
  replace hb5 := hb5.tr0 hs
  replace hb6 := hb6.tr0 hs
  replace hb7 := hb7.tr0 hs
  clear hs
  clear hr
  refine wl_stW hb8 rfl rfl sz70 rfl (by repeat (first | rfl | refine one_cons (by first | rfl | assumption) ?_)) (fun w18 hq hs => ?_)
  replace hB := hB.tr1 hs lo8
  replace hb3 := hb3.tr1 hs (by omega)
  replace hb4 := hb4.tr1 hs (by omega)
  replace hb5 := hb5.tr1 hs (by omega)
  replace hb6 := hb6.tr1 hs (by omega)
  replace hb7 := hb7.tr1 hs (by omega)
  clear hs
  replace hb8 := hq
  refine x_nil ?_
  refine e_S ?_
  refine c_seq ?_
  refine c_monoTO 68 [24, 25, 26, 27, 28, 29, 30, 31, 32, 33, 34, 35, 36, 37, 38, 39, 40, 41, 42, 43, 44, 45, 46, 47, 48, 49, 50, 51, 52, 53, 54, 55, 56, 57, 58, 59, 60, 61, 62, 63, 64, 65, 66, 67, 68, 69, 70, 71, 72, 73, 74, 75, 76, 77, 78, 79, 80, 81, 82, 83, 84, 85, 86, 87, 88, 89, 90, 9] (fun _ => false) (fun ix v wv => match ix with | 0 => ∃ x0 x1, v = .agg #[x0, x1] ∧ x0.oneCell' = true ∧ x1.oneCell' = true | 1 => ∃ x0 x1, v = .agg #[x0, x1] ∧ x0.oneCell' = true ∧ x1.oneCell' = true | 2 => ∃ x0 x1 x2 x3 x4 x5, v = .agg #[x0, x1, x2, x3, x4, x5] ∧ x0.oneCell' = true ∧ x1.oneCell' = true ∧ x2.oneCell' = true ∧ x3.oneCell' = true ∧ x4.oneCell' = true ∧ x5.oneCell' = true | 3 => ∃ x0 x1 x2 x3 x4 x5, v = .agg #[x0, x1, x2, x3, x4, x5] ∧ x0.oneCell' = true ∧ x1.oneCell' = true ∧ x2.oneCell' = true ∧ x3.oneCell' = true ∧ x4.oneCell' = true ∧ x5.oneCell' = true | 4 => ∃ x0 x1 x2 x3 x4 x5, v = .agg #[x0, x1, x2, x3, x4, x5] ∧ x0.oneCell' = true ∧ x1.oneCell' = true ∧ x2.oneCell' = true ∧ x3.oneCell' = true ∧ x4.oneCell' = true ∧ x5.oneCell' = true | 5 => ∃ x0 x1 x2 x3 x4 x5, v = .agg #[x0, x1, x2, x3, x4, x5] ∧ x0.oneCell' = true ∧ x1.oneCell' = true ∧ x2.oneCell' = true ∧ x3.oneCell' = true ∧ x4.oneCell' = true ∧ x5.oneCell' = true | 6 => ∃ x0 x1 x2 x3 x4 x5, v = .agg #[x0, x1, x2, x3, x4, x5] ∧ x0.oneCell' = true ∧ x1.oneCell' = true ∧ x2.oneCell' = true ∧ x3.oneCell' = true ∧ x4.oneCell' = true ∧ x5.oneCell' = true | 7 => ∃ x0 x1, v = .agg #[x0, x1] ∧ x0.oneCell' = true ∧ x1.oneCell' = true | 8 => ∃ x0 x1, v = .agg #[x0, x1] ∧ x0.oneCell' = true ∧ x1.oneCell' = true | 9 => ∃ x0 x1 x2 x3 x4 x5, v = .agg #[x0, x1, x2, x3, x4, x5] ∧ x0.oneCell' = true ∧ x1.oneCell' = true ∧ x2.oneCell' = true ∧ x3.oneCell' = true ∧ x4.oneCell' = true ∧ x5.oneCell' = true | 10 => ∃ x0 x1 x2 x3 x4 x5, v = .agg #[x0, x1, x2, x3, x4, x5] ∧ x0.oneCell' = true ∧ x1.oneCell' = true ∧ x2.oneCell' = true ∧ x3.oneCell' = true ∧ x4.oneCell' = true ∧ x5.oneCell' = true | 11 => ∃ x0 x1 x2 x3 x4 x5, v = .agg #[x0, x1, x2, x3, x4, x5] ∧ x0.oneCell' = true ∧ x1.oneCell' = true ∧ x2.oneCell' = true ∧ x3.oneCell' = true ∧ x4.oneCell' = true ∧ x5.oneCell' = true | 12 => ∃ x0 x1 x2 x3 x4 x5, v = .agg #[x0, x1, x2, x3, x4, x5] ∧ x0.oneCell' = true ∧ x1.oneCell' = true ∧ x2.oneCell' = true ∧ x3.oneCell' = true ∧ x4.oneCell' = true ∧ x5.oneCell' = true | 13 => ∃ x0 x1 x2 x3 x4 x5, v = .agg #[x0, x1, x2, x3, x4, x5] ∧ x0.oneCell' = true ∧ x1.oneCell' = true ∧ x2.oneCell' = true ∧ x3.oneCell' = true ∧ x4.oneCell' = true ∧ x5.oneCell' = true | 14 => ∃ x0 x1, v = .agg #[x0, x1] ∧ x0.oneCell' = true ∧ x1.oneCell' = true | 15 => ∃ x0 x1 x2 x3 x4 x5, v = .agg #[x0, x1, x2, x3, x4, x5] ∧ x0.oneCell' = true ∧ x1.oneCell' = true ∧ x2.oneCell' = true ∧ x3.oneCell' = true ∧ x4.oneCell' = true ∧ x5.oneCell' = true | 16 => ∃ x0 x1 x2 x3 x4 x5, v = .agg #[x0, x1, x2, x3, x4, x5] ∧ x0.oneCell' = true ∧ x1.oneCell' = true ∧ x2.oneCell' = true ∧ x3.oneCell' = true ∧ x4.oneCell' = true ∧ x5.oneCell' = true | 17 => ∃ x0 x1, v = .agg #[x0, x1] ∧ x0.oneCell' = true ∧ x1.oneCell' = true | 18 => ∃ x0 x1, v = .agg #[x0, x1] ∧ x0.oneCell' = true ∧ x1.oneCell' = true | 19 => ∃ x0 x1, v = .agg #[x0, x1] ∧ x0.oneCell' = true ∧ x1.oneCell' = true | 20 => ∃ x0 x1 x2 x3 x4 x5, v = .agg #[x0, x1, x2, x3, x4, x5] ∧ x0.oneCell' = true ∧ x1.oneCell' = true ∧ x2.oneCell' = true ∧ x3.oneCell' = true ∧ x4.oneCell' = true ∧ x5.oneCell' = true | 21 => ∃ x0 x1, v = .agg #[x0, x1] ∧ x0.oneCell' = true ∧ x1.oneCell' = true | 22 => ∃ x0 x1 x2 x3 x4 x5, v = .agg #[x0, x1, x2, x3, x4, x5] ∧ x0.oneCell' = true ∧ x1.oneCell' = true ∧ x2.oneCell' = true ∧ x3.oneCell' = true ∧ x4.oneCell' = true ∧ x5.oneCell' = true | 23 => ∃ x0 x1 x2 x3 x4 x5, v = .agg #[x0, x1, x2, x3, x4, x5] ∧ x0.oneCell' = true ∧ x1.oneCell' = true ∧ x2.oneCell' = true ∧ x3.oneCell' = true ∧ x4.oneCell' = true ∧ x5.oneCell' = true | 24 => ∃ x0 x1 x2 x3 x4 x5, v = .agg #[x0, x1, x2, x3, x4, x5] ∧ x0.oneCell' = true ∧ x1.oneCell' = true ∧ x2.oneCell' = true ∧ x3.oneCell' = true ∧ x4.oneCell' = true ∧ x5.oneCell' = true | 25 => ∃ x0 x1 x2 x3 x4 x5, v = .agg #[x0, x1, x2, x3, x4, x5] ∧ x0.oneCell' = true ∧ x1.oneCell' = true ∧ x2.oneCell' = true ∧ x3.oneCell' = true ∧ x4.oneCell' = true ∧ x5.oneCell' = true | 26 => ∃ x0 x1 x2 x3 x4 x5, v = .agg #[x0, x1, x2, x3, x4, x5] ∧ x0.oneCell' = true ∧ x1.oneCell' = true ∧ x2.oneCell' = true ∧ x3.oneCell' = true ∧ x4.oneCell' = true ∧ x5.oneCell' = true | 27 => ∃ x0 x1 x2 x3 x4 x5, v = .agg #[x0, x1, x2, x3, x4, x5] ∧ x0.oneCell' = true ∧ x1.oneCell' = true ∧ x2.oneCell' = true ∧ x3.oneCell' = true ∧ x4.oneCell' = true ∧ x5.oneCell' = true | 28 => ∃ x0 x1 x2 x3 x4 x5, v = .agg #[x0, x1, x2, x3, x4, x5] ∧ x0.oneCell' = true ∧ x1.oneCell' = true ∧ x2.oneCell' = true ∧ x3.oneCell' = true ∧ x4.oneCell' = true ∧ x5.oneCell' = true | 29 => ∃ x0 x1 x2 x3 x4 x5, v = .agg #[x0, x1, x2, x3, x4, x5] ∧ x0.oneCell' = true ∧ x1.oneCell' = true ∧ x2.oneCell' = true ∧ x3.oneCell' = true ∧ x4.oneCell' = true ∧ x5.oneCell' = true | 30 => ∃ x0 x1 x2 x3 x4 x5, v = .agg #[x0, x1, x2, x3, x4, x5] ∧ x0.oneCell' = true ∧ x1.oneCell' = true ∧ x2.oneCell' = true ∧ x3.oneCell' = true ∧ x4.oneCell' = true ∧ x5.oneCell' = true | 31 => ∃ x0 x1 x2 x3 x4 x5, v = .agg #[x0, x1, x2, x3, x4, x5] ∧ x0.oneCell' = true ∧ x1.oneCell' = true ∧ x2.oneCell' = true ∧ x3.oneCell' = true ∧ x4.oneCell' = true ∧ x5.oneCell' = true | 32 => ∃ x0 x1, v = .agg #[x0, x1] ∧ x0.oneCell' = true ∧ x1.oneCell' = true | 33 => ∃ x0 x1, v = .agg #[x0, x1] ∧ x0.oneCell' = true ∧ x1.oneCell' = true | 34 => ∃ x0 x1, v = .agg #[x0, x1] ∧ x0.oneCell' = true ∧ x1.oneCell' = true | 35 => ∃ x0 x1, v = .agg #[x0, x1] ∧ x0.oneCell' = true ∧ x1.oneCell' = true | 36 => ∃ x0 x1, v = .agg #[x0, x1] ∧ x0.oneCell' = true ∧ x1.oneCell' = true | 37 => ∃ x0 x1 x2 x3 x4 x5, v = .agg #[x0, x1, x2, x3, x4, x5] ∧ x0.oneCell' = true ∧ x1.oneCell' = true ∧ x2.oneCell' = true ∧ x3.oneCell' = true ∧ x4.oneCell' = true ∧ x5.oneCell' = true | 38 => ∃ x0 x1 x2 x3 x4 x5, v = .agg #[x0, x1, x2, x3, x4, x5] ∧ x0.oneCell' = true ∧ x1.oneCell' = true ∧ x2.oneCell' = true ∧ x3.oneCell' = true ∧ x4.oneCell' = true ∧ x5.oneCell' = true | 39 => ∃ x0 x1 x2 x3 x4 x5, v = .agg #[x0, x1, x2, x3, x4, x5] ∧ x0.oneCell' = true ∧ x1.oneCell' = true ∧ x2.oneCell' = true ∧ x3.oneCell' = true ∧ x4.oneCell' = true ∧ x5.oneCell' = true | 40 => ∃ x0 x1 x2 x3 x4 x5, v = .agg #[x0, x1, x2, x3, x4, x5] ∧ x0.oneCell' = true ∧ x1.oneCell' = true ∧ x2.oneCell' = true ∧ x3.oneCell' = true ∧ x4.oneCell' = true ∧ x5.oneCell' = true | 41 => ∃ x0 x1 x2 x3 x4 x5, v = .agg #[x0, x1, x2, x3, x4, x5] ∧ x0.oneCell' = true ∧ x1.oneCell' = true ∧ x2.oneCell' = true ∧ x3.oneCell' = true ∧ x4.oneCell' = true ∧ x5.oneCell' = true | 42 => ∃ x0 x1 x2 x3 x4 x5, v = .agg #[x0, x1, x2, x3, x4, x5] ∧ x0.oneCell' = true ∧ x1.oneCell' = true ∧ x2.oneCell' = true ∧ x3.oneCell' = true ∧ x4.oneCell' = true ∧ x5.oneCell' = true | 43 => ∃ x0 x1 x2 x3 x4 x5, v = .agg #[x0, x1, x2, x3, x4, x5] ∧ x0.oneCell' = true ∧ x1.oneCell' = true ∧ x2.oneCell' = true ∧ x3.oneCell' = true ∧ x4.oneCell' = true ∧ x5.oneCell' = true | 44 => ∃ x0 x1 x2 x3 x4 x5, v = .agg #[x0, x1, x2, x3, x4, x5] ∧ x0.oneCell' = true ∧ x1.oneCell' = true ∧ x2.oneCell' = true ∧ x3.oneCell' = true ∧ x4.oneCell' = true ∧ x5.oneCell' = true | 45 => ∃ x0 x1, v = .agg #[x0, x1] ∧ x0.oneCell' = true ∧ x1.oneCell' = true | 46 => ∃ x0 x1, v = .agg #[x0, x1] ∧ x0.oneCell' = true ∧ x1.oneCell' = true | 47 => ∃ x0 x1, v = .agg #[x0, x1] ∧ x0.oneCell' = true ∧ x1.oneCell' = true | 48 => ∃ x0 x1, v = .agg #[x0, x1] ∧ x0.oneCell' = true ∧ x1.oneCell' = true | 49 => ∃ x0 x1, v = .agg #[x0, x1] ∧ x0.oneCell' = true ∧ x1.oneCell' = true | 50 => ∃ x0 x1, v = .agg #[x0, x1] ∧ x0.oneCell' = true ∧ x1.oneCell' = true | 51 => ∃ x0 x1, v = .agg #[x0, x1] ∧ x0.oneCell' = true ∧ x1.oneCell' = true | 52 => ∃ x0 x1, v = .agg #[x0, x1] ∧ x0.oneCell' = true ∧ x1.oneCell' = true | 53 => ∃ x0 x1 x2 x3 x4 x5, v = .agg #[x0, x1, x2, x3, x4, x5] ∧ x0.oneCell' = true ∧ x1.oneCell' = true ∧ x2.oneCell' = true ∧ x3.oneCell' = true ∧ x4.oneCell' = true ∧ x5.oneCell' = true | 54 => ∃ x0 x1 x2 x3 x4 x5, v = .agg #[x0, x1, x2, x3, x4, x5] ∧ x0.oneCell' = true ∧ x1.oneCell' = true ∧ x2.oneCell' = true ∧ x3.oneCell' = true ∧ x4.oneCell' = true ∧ x5.oneCell' = true | 55 => ∃ x0 x1 x2 x3 x4 x5, v = .agg #[x0, x1, x2, x3, x4, x5] ∧ x0.oneCell' = true ∧ x1.oneCell' = true ∧ x2.oneCell' = true ∧ x3.oneCell' = true ∧ x4.oneCell' = true ∧ x5.oneCell' = true | 56 => ∃ x0 x1 x2 x3 x4 x5, v = .agg #[x0, x1, x2, x3, x4, x5] ∧ x0.oneCell' = true ∧ x1.oneCell' = true ∧ x2.oneCell' = true ∧ x3.oneCell' = true ∧ x4.oneCell' = true ∧ x5.oneCell' = true | 57 => ∃ x0 x1 x2 x3 x4 x5, v = .agg #[x0, x1, x2, x3, x4, x5] ∧ x0.oneCell' = true ∧ x1.oneCell' = true ∧ x2.oneCell' = true ∧ x3.oneCell' = true ∧ x4.oneCell' = true ∧ x5.oneCell' = true | 58 => ∃ x0 x1 x2 x3 x4 x5, v = .agg #[x0, x1, x2, x3, x4, x5] ∧ x0.oneCell' = true ∧ x1.oneCell' = true ∧ x2.oneCell' = true ∧ x3.oneCell' = true ∧ x4.oneCell' = true ∧ x5.oneCell' = true | 59 => ∃ x0 x1 x2 x3 x4 x5, v = .agg #[x0, x1, x2, x3, x4, x5] ∧ x0.oneCell' = true ∧ x1.oneCell' = true ∧ x2.oneCell' = true ∧ x3.oneCell' = true ∧ x4.oneCell' = true ∧ x5.oneCell' = true | 60 => ∃ x0 x1 x2 x3 x4 x5, v = .agg #[x0, x1, x2, x3, x4, x5] ∧ x0.oneCell' = true ∧ x1.oneCell' = true ∧ x2.oneCell' = true ∧ x3.oneCell' = true ∧ x4.oneCell' = true ∧ x5.oneCell' = true | 61 => ∃ x0 x1 x2 x3 x4 x5, v = .agg #[x0, x1, x2, x3, x4, x5] ∧ x0.oneCell' = true ∧ x1.oneCell' = true ∧ x2.oneCell' = true ∧ x3.oneCell' = true ∧ x4.oneCell' = true ∧ x5.oneCell' = true | 62 => ∃ x0 x1 x2 x3 x4 x5, v = .agg #[x0, x1, x2, x3, x4, x5] ∧ x0.oneCell' = true ∧ x1.oneCell' = true ∧ x2.oneCell' = true ∧ x3.oneCell' = true ∧ x4.oneCell' = true ∧ x5.oneCell' = true | 63 => ∃ x0 x1 x2 x3 x4 x5, v = .agg #[x0, x1, x2, x3, x4, x5] ∧ x0.oneCell' = true ∧ x1.oneCell' = true ∧ x2.oneCell' = true ∧ x3.oneCell' = true ∧ x4.oneCell' = true ∧ x5.oneCell' = true | 64 => ∃ x0 x1 x2 x3 x4 x5, v = .agg #[x0, x1, x2, x3, x4, x5] ∧ x0.oneCell' = true ∧ x1.oneCell' = true ∧ x2.oneCell' = true ∧ x3.oneCell' = true ∧ x4.oneCell' = true ∧ x5.oneCell' = true | 65 => ∃ x0 x1 x2 x3 x4 x5, v = .agg #[x0, x1, x2, x3, x4, x5] ∧ x0.oneCell' = true ∧ x1.oneCell' = true ∧ x2.oneCell' = true ∧ x3.oneCell' = true ∧ x4.oneCell' = true ∧ x5.oneCell' = true | 66 => ∃ b cs, v = .slice (some ⟨b, 0, none⟩) 6 6 ∧ Blk wv b 78 cs ∧ cs.size = 36 ∧ cs.toList.all (·.oneCell') = true | 67 => ∃ b cs, v = .slice (some ⟨b, 0, none⟩) 6 6 ∧ Blk wv b 78 cs ∧ cs.size = 36 ∧ cs.toList.all (·.oneCell') = true | _ => True) (by kernel_rfl) (by kernel_rfl) ?_ ?_ ?_
  · intro ix v wv wv2 h hs
    match ix, h with
    | 0, h => exact h
    | 1, h => exact h
    | 2, h => exact h
    | 3, h => exact h
    | 4, h => exact h
    | 5, h => exact h
    | 6, h => exact h
    | 7, h => exact h
    | 8, h => exact h
    | 9, h => exact h
    | 10, h => exact h
    | 11, h => exact h
    | 12, h => exact h
    | 13, h => exact h
    | 14, h => exact h
    | 15, h => exact h
    | 16, h => exact h
    | 17, h => exact h
    | 18, h => exact h
    | 19, h => exact h
    | 20, h => exact h
    | 21, h => exact h
    | 22, h => exact h
    | 23, h => exact h
    | 24, h => exact h
    | 25, h => exact h
    | 26, h => exact h
    | 27, h => exact h
    | 28, h => exact h
    | 29, h => exact h
    | 30, h => exact h
    | 31, h => exact h
    | 32, h => exact h
    | 33, h => exact h
    | 34, h => exact h
    | 35, h => exact h
    | 36, h => exact h
    | 37, h => exact h
    | 38, h => exact h
    | 39, h => exact h
    | 40, h => exact h
    | 41, h => exact h
    | 42, h => exact h
    | 43, h => exact h
    | 44, h => exact h
    | 45, h => exact h
    | 46, h => exact h
    | 47, h => exact h
    | 48, h => exact h
    | 49, h => exact h
    | 50, h => exact h
    | 51, h => exact h
    | 52, h => exact h
    | 53, h => exact h
    | 54, h => exact h
    | 55, h => exact h
    | 56, h => exact h
    | 57, h => exact h
    | 58, h => exact h
    | 59, h => exact h
    | 60, h => exact h
    | 61, h => exact h
    | 62, h => exact h
    | 63, h => exact h
    | 64, h => exact h
    | 65, h => exact h
    | 66, h =>
      obtain ⟨bs90, cs90, e90, hbs90, hsz90, hon90⟩ := (show ∃ b cs, v = .slice (some ⟨b, 0, none⟩) 6 6 ∧ Blk wv b 78 cs ∧ cs.size = 36 ∧ cs.toList.all (·.oneCell') = true from h)
      exact ⟨bs90, cs90, e90, hbs90.tr0 hs, hsz90, hon90⟩
    | 67, h =>
      obtain ⟨bs9, cs9, e9, hbs9, hsz9, hon9⟩ := (show ∃ b cs, v = .slice (some ⟨b, 0, none⟩) 6 6 ∧ Blk wv b 78 cs ∧ cs.size = 36 ∧ cs.toList.all (·.oneCell') = true from h)
      exact ⟨bs9, cs9, e9, hbs9.tr0 hs, hsz9, hon9⟩
    | _ + 68, h => exact trivial
  · intro ix o hix hoq gg wx hs hd hdis
    match ix, hix, hoq with
    | 0, _, hoq =>
      obtain rfl : _ = o := Option.some.inj hoq
      have hs0 := hs
      replace hB := hB.tr0 hs
      replace hb3 := hb3.tr0 hs
      replace hb4 := hb4.tr0 hs
      replace hb5 := hb5.tr0 hs
      replace hb6 := hb6.tr0 hs
      replace hb7 := hb7.tr0 hs
      replace hb8 := hb8.tr0 hs
      clear hs
      refine os_rv (r_ldS Tryd.underlying70 rfl rfl hb6.range0 sz70) ⟨Same.refl _ _, ?_, frsh_no⟩
      exact ⟨_, _, rfl, (by first | rfl | assumption), (by first | rfl | assumption)⟩
    | 1, _, hoq =>
      obtain rfl : _ = o := Option.some.inj hoq
      have hs0 := hs
      replace hB := hB.tr0 hs
      replace hb3 := hb3.tr0 hs
      replace hb4 := hb4.tr0 hs
      replace hb5 := hb5.tr0 hs
      replace hb6 := hb6.tr0 hs
      replace hb7 := hb7.tr0 hs
      replace hb8 := hb8.tr0 hs
      clear hs
      refine os_rv (r_ldS Tryd.underlying70 rfl rfl hb5.range0 sz70) ⟨Same.refl _ _, ?_, frsh_no⟩
      exact ⟨_, _, rfl, (by first | rfl | assumption), (by first | rfl | assumption)⟩
    | 2, _, hoq =>
      obtain rfl : _ = o := Option.some.inj hoq
      have hs0 := hs
      replace hB := hB.tr0 hs
      replace hb3 := hb3.tr0 hs
      replace hb4 := hb4.tr0 hs
      replace hb5 := hb5.tr0 hs
      replace hb6 := hb6.tr0 hs
      replace hb7 := hb7.tr0 hs
      replace hb8 := hb8.tr0 hs
      clear hs
      refine os_cl fn34 (bound_any _  wx) rfl (fun e' w2 hr => ?_)
      obtain ⟨⟨q26_0, q26_1, q26_2, q26_3, q26_4, q26_5, rfl, hq26_0, hq26_1, hq26_2, hq26_3, hq26_4, hq26_5⟩, hs⟩ := hr
      exact ⟨_, rfl, Same.of_bel hs, ⟨_, _, _, _, _, _, rfl, (by first | rfl | assumption), (by first | rfl | assumption), (by first | rfl | assumption), (by first | rfl | assumption), (by first | rfl | assumption), (by first | rfl | assumption)⟩, frsh_no⟩
    | 3, _, hoq =>
      obtain rfl : _ = o := Option.some.inj hoq
      have hs0 := hs
      replace hB := hB.tr0 hs
      replace hb3 := hb3.tr0 hs
      replace hb4 := hb4.tr0 hs
      replace hb5 := hb5.tr0 hs
      replace hb6 := hb6.tr0 hs
      replace hb7 := hb7.tr0 hs
      replace hb8 := hb8.tr0 hs
      clear hs
      refine os_cl fn34 (bound_any _  wx) rfl (fun e' w2 hr => ?_)
      obtain ⟨⟨q27_0, q27_1, q27_2, q27_3, q27_4, q27_5, rfl, hq27_0, hq27_1, hq27_2, hq27_3, hq27_4, hq27_5⟩, hs⟩ := hr
      exact ⟨_, rfl, Same.of_bel hs, ⟨_, _, _, _, _, _, rfl, (by first | rfl | assumption), (by first | rfl | assumption), (by first | rfl | assumption), (by first | rfl | assumption), (by first | rfl | assumption), (by first | rfl | assumption)⟩, frsh_no⟩
    | 4, _, hoq =>
      obtain rfl : _ = o := Option.some.inj hoq
      have hs0 := hs
      replace hB := hB.tr0 hs
      replace hb3 := hb3.tr0 hs
      replace hb4 := hb4.tr0 hs
      replace hb5 := hb5.tr0 hs
      replace hb6 := hb6.tr0 hs
      replace hb7 := hb7.tr0 hs
      replace hb8 := hb8.tr0 hs
      clear hs
      have d2 : ∃ x0 x1 x2 x3 x4 x5, gg 26 = .agg #[x0, x1, x2, x3, x4, x5] ∧ x0.oneCell' = true ∧ x1.oneCell' = true ∧ x2.oneCell' = true ∧ x3.oneCell' = true ∧ x4.oneCell' = true ∧ x5.oneCell' = true := hd 2 (dep_of (by kernel_rfl))
      obtain ⟨q26_0, q26_1, q26_2, q26_3, q26_4, q26_5, e26, hq26_0, hq26_1, hq26_2, hq26_3, hq26_4, hq26_5⟩ := d2
      have d3 : ∃ x0 x1 x2 x3 x4 x5, gg 27 = .agg #[x0, x1, x2, x3, x4, x5] ∧ x0.oneCell' = true ∧ x1.oneCell' = true ∧ x2.oneCell' = true ∧ x3.oneCell' = true ∧ x4.oneCell' = true ∧ x5.oneCell' = true := hd 3 (dep_of (by kernel_rfl))
      obtain ⟨q27_0, q27_1, q27_2, q27_3, q27_4, q27_5, e27, hq27_0, hq27_1, hq27_2, hq27_3, hq27_4, hq27_5⟩ := d3
      refine os_know 26 (.agg #[q26_0, q26_1, q26_2, q26_3, q26_4, q26_5]) e26 (by simp [undef]) ?_
      refine os_know 27 (.agg #[q27_0, q27_1, q27_2, q27_3, q27_4, q27_5]) e27 (by simp [undef]) ?_
      refine os_cl fn33 (app_any _ _ _ _ _ _ _ _ _ _ _ _ (by first | rfl | assumption) (by first | rfl | assumption) (by first | rfl | assumption) (by first | rfl | assumption) (by first | rfl | assumption) (by first | rfl | assumption) (by first | rfl | assumption) (by first | rfl | assumption) (by first | rfl | assumption) (by first | rfl | assumption) (by first | rfl | assumption) (by first | rfl | assumption) wx) rfl (fun e' w2 hr => ?_)
      obtain ⟨⟨q28_0, q28_1, q28_2, q28_3, q28_4, q28_5, rfl, hq28_0, hq28_1, hq28_2, hq28_3, hq28_4, hq28_5⟩, hs⟩ := hr
      exact ⟨_, rfl, Same.of_bel hs, ⟨_, _, _, _, _, _, rfl, (by first | rfl | assumption), (by first | rfl | assumption), (by first | rfl | assumption), (by first | rfl | assumption), (by first | rfl | assumption), (by first | rfl | assumption)⟩, frsh_no⟩
    | 5, _, hoq =>
      obtain rfl : _ = o := Option.some.inj hoq
      have hs0 := hs
      replace hB := hB.tr0 hs
      replace hb3 := hb3.tr0 hs
      replace hb4 := hb4.tr0 hs
      replace hb5 := hb5.tr0 hs
      replace hb6 := hb6.tr0 hs
      replace hb7 := hb7.tr0 hs
      replace hb8 := hb8.tr0 hs
      clear hs
      have d1 : ∃ x0 x1, gg 25 = .agg #[x0, x1] ∧ x0.oneCell' = true ∧ x1.oneCell' = true := hd 1 (dep_of (by kernel_rfl))
      obtain ⟨q25_0, q25_1, e25, hq25_0, hq25_1⟩ := d1
      have d4 : ∃ x0 x1 x2 x3 x4 x5, gg 28 = .agg #[x0, x1, x2, x3, x4, x5] ∧ x0.oneCell' = true ∧ x1.oneCell' = true ∧ x2.oneCell' = true ∧ x3.oneCell' = true ∧ x4.oneCell' = true ∧ x5.oneCell' = true := hd 4 (dep_of (by kernel_rfl))
      obtain ⟨q28_0, q28_1, q28_2, q28_3, q28_4, q28_5, e28, hq28_0, hq28_1, hq28_2, hq28_3, hq28_4, hq28_5⟩ := d4
      refine os_know 25 (.agg #[q25_0, q25_1]) e25 (by simp [undef]) ?_
      refine os_know 28 (.agg #[q28_0, q28_1, q28_2, q28_3, q28_4, q28_5]) e28 (by simp [undef]) ?_
      refine os_cl fn32 (abs_any _ _ _ _ _ _ _ _ (by first | rfl | assumption) (by first | rfl | assumption) (by first | rfl | assumption) (by first | rfl | assumption) (by first | rfl | assumption) (by first | rfl | assumption) (by first | rfl | assumption) (by first | rfl | assumption) wx) rfl (fun e' w2 hr => ?_)
      obtain ⟨⟨q29_0, q29_1, q29_2, q29_3, q29_4, q29_5, rfl, hq29_0, hq29_1, hq29_2, hq29_3, hq29_4, hq29_5⟩, hs⟩ := hr
      exact ⟨_, rfl, Same.of_bel hs, ⟨_, _, _, _, _, _, rfl, (by first | rfl | assumption), (by first | rfl | assumption), (by first | rfl | assumption), (by first | rfl | assumption), (by first | rfl | assumption), (by first | rfl | assumption)⟩, frsh_no⟩
    | 6, _, hoq =>
      obtain rfl : _ = o := Option.some.inj hoq
      have hs0 := hs
      replace hB := hB.tr0 hs
      replace hb3 := hb3.tr0 hs
      replace hb4 := hb4.tr0 hs
      replace hb5 := hb5.tr0 hs
      replace hb6 := hb6.tr0 hs
      replace hb7 := hb7.tr0 hs
      replace hb8 := hb8.tr0 hs
      clear hs
      have d0 : ∃ x0 x1, gg 24 = .agg #[x0, x1] ∧ x0.oneCell' = true ∧ x1.oneCell' = true := hd 0 (dep_of (by kernel_rfl))
      obtain ⟨q24_0, q24_1, e24, hq24_0, hq24_1⟩ := d0
      have d5 : ∃ x0 x1 x2 x3 x4 x5, gg 29 = .agg #[x0, x1, x2, x3, x4, x5] ∧ x0.oneCell' = true ∧ x1.oneCell' = true ∧ x2.oneCell' = true ∧ x3.oneCell' = true ∧ x4.oneCell' = true ∧ x5.oneCell' = true := hd 5 (dep_of (by kernel_rfl))
      obtain ⟨q29_0, q29_1, q29_2, q29_3, q29_4, q29_5, e29, hq29_0, hq29_1, hq29_2, hq29_3, hq29_4, hq29_5⟩ := d5
      refine os_know 24 (.agg #[q24_0, q24_1]) e24 (by simp [undef]) ?_
      refine os_know 29 (.agg #[q29_0, q29_1, q29_2, q29_3, q29_4, q29_5]) e29 (by simp [undef]) ?_
      refine os_cl fn32 (abs_any _ _ _ _ _ _ _ _ (by first | rfl | assumption) (by first | rfl | assumption) (by first | rfl | assumption) (by first | rfl | assumption) (by first | rfl | assumption) (by first | rfl | assumption) (by first | rfl | assumption) (by first | rfl | assumption) wx) rfl (fun e' w2 hr => ?_)
      obtain ⟨⟨q30_0, q30_1, q30_2, q30_3, q30_4, q30_5, rfl, hq30_0, hq30_1, hq30_2, hq30_3, hq30_4, hq30_5⟩, hs⟩ := hr
      exact ⟨_, rfl, Same.of_bel hs, ⟨_, _, _, _, _, _, rfl, (by first | rfl | assumption), (by first | rfl | assumption), (by first | rfl | assumption), (by first | rfl | assumption), (by first | rfl | assumption), (by first | rfl | assumption)⟩, frsh_no⟩
    | 7, _, hoq =>
      obtain rfl : _ = o := Option.some.inj hoq
      have hs0 := hs
      replace hB := hB.tr0 hs
      replace hb3 := hb3.tr0 hs
      replace hb4 := hb4.tr0 hs
      replace hb5 := hb5.tr0 hs
      replace hb6 := hb6.tr0 hs
      replace hb7 := hb7.tr0 hs
      replace hb8 := hb8.tr0 hs
      clear hs
      refine os_rv (r_ldS Tryd.underlying70 rfl rfl hb8.range0 sz70) ⟨Same.refl _ _, ?_, frsh_no⟩
      exact ⟨_, _, rfl, (by first | rfl | assumption), (by first | rfl | assumption)⟩
    | 8, _, hoq =>
      obtain rfl : _ = o := Option.some.inj hoq
      have hs0 := hs
      replace hB := hB.tr0 hs
      replace hb3 := hb3.tr0 hs
      replace hb4 := hb4.tr0 hs
      replace hb5 := hb5.tr0 hs
      replace hb6 := hb6.tr0 hs
      replace hb7 := hb7.tr0 hs
      replace hb8 := hb8.tr0 hs
      clear hs
      refine os_rv (r_ldS Tryd.underlying70 rfl rfl hb5.range0 sz70) ⟨Same.refl _ _, ?_, frsh_no⟩
      exact ⟨_, _, rfl, (by first | rfl | assumption), (by first | rfl | assumption)⟩
    | 9, _, hoq =>
      obtain rfl : _ = o := Option.some.inj hoq
      have hs0 := hs
      replace hB := hB.tr0 hs
      replace hb3 := hb3.tr0 hs
      replace hb4 := hb4.tr0 hs
      replace hb5 := hb5.tr0 hs
      replace hb6 := hb6.tr0 hs
      replace hb7 := hb7.tr0 hs
      replace hb8 := hb8.tr0 hs
      clear hs
      refine os_cl fn34 (bound_any _  wx) rfl (fun e' w2 hr => ?_)
      obtain ⟨⟨q33_0, q33_1, q33_2, q33_3, q33_4, q33_5, rfl, hq33_0, hq33_1, hq33_2, hq33_3, hq33_4, hq33_5⟩, hs⟩ := hr
      exact ⟨_, rfl, Same.of_bel hs, ⟨_, _, _, _, _, _, rfl, (by first | rfl | assumption), (by first | rfl | assumption), (by first | rfl | assumption), (by first | rfl | assumption), (by first | rfl | assumption), (by first | rfl | assumption)⟩, frsh_no⟩
    | 10, _, hoq =>
      obtain rfl : _ = o := Option.some.inj hoq
      have hs0 := hs
      replace hB := hB.tr0 hs
      replace hb3 := hb3.tr0 hs
      replace hb4 := hb4.tr0 hs
      replace hb5 := hb5.tr0 hs
      replace hb6 := hb6.tr0 hs
      replace hb7 := hb7.tr0 hs
      replace hb8 := hb8.tr0 hs
      clear hs
      refine os_cl fn34 (bound_any _  wx) rfl (fun e' w2 hr => ?_)
      obtain ⟨⟨q34_0, q34_1, q34_2, q34_3, q34_4, q34_5, rfl, hq34_0, hq34_1, hq34_2, hq34_3, hq34_4, hq34_5⟩, hs⟩ := hr
      exact ⟨_, rfl, Same.of_bel hs, ⟨_, _, _, _, _, _, rfl, (by first | rfl | assumption), (by first | rfl | assumption), (by first | rfl | assumption), (by first | rfl | assumption), (by first | rfl | assumption), (by first | rfl | assumption)⟩, frsh_no⟩
    | 11, _, hoq =>
      obtain rfl : _ = o := Option.some.inj hoq
      have hs0 := hs
      replace hB := hB.tr0 hs
      replace hb3 := hb3.tr0 hs
      replace hb4 := hb4.tr0 hs
      replace hb5 := hb5.tr0 hs
      replace hb6 := hb6.tr0 hs
      replace hb7 := hb7.tr0 hs
      replace hb8 := hb8.tr0 hs
      clear hs
      have d9 : ∃ x0 x1 x2 x3 x4 x5, gg 33 = .agg #[x0, x1, x2, x3, x4, x5] ∧ x0.oneCell' = true ∧ x1.oneCell' = true ∧ x2.oneCell' = true ∧ x3.oneCell' = true ∧ x4.oneCell' = true ∧ x5.oneCell' = true := hd 9 (dep_of (by kernel_rfl))
      obtain ⟨q33_0, q33_1, q33_2, q33_3, q33_4, q33_5, e33, hq33_0, hq33_1, hq33_2, hq33_3, hq33_4, hq33_5⟩ := d9
      have d10 : ∃ x0 x1 x2 x3 x4 x5, gg 34 = .agg #[x0, x1, x2, x3, x4, x5] ∧ x0.oneCell' = true ∧ x1.oneCell' = true ∧ x2.oneCell' = true ∧ x3.oneCell' = true ∧ x4.oneCell' = true ∧ x5.oneCell' = true := hd 10 (dep_of (by kernel_rfl))
      obtain ⟨q34_0, q34_1, q34_2, q34_3, q34_4, q34_5, e34, hq34_0, hq34_1, hq34_2, hq34_3, hq34_4, hq34_5⟩ := d10
      refine os_know 33 (.agg #[q33_0, q33_1, q33_2, q33_3, q33_4, q33_5]) e33 (by simp [undef]) ?_
      refine os_know 34 (.agg #[q34_0, q34_1, q34_2, q34_3, q34_4, q34_5]) e34 (by simp [undef]) ?_
      refine os_cl fn33 (app_any _ _ _ _ _ _ _ _ _ _ _ _ (by first | rfl | assumption) (by first | rfl | assumption) (by first | rfl | assumption) (by first | rfl | assumption) (by first | rfl | assumption) (by first | rfl | assumption) (by first | rfl | assumption) (by first | rfl | assumption) (by first | rfl | assumption) (by first | rfl | assumption) (by first | rfl | assumption) (by first | rfl | assumption) wx) rfl (fun e' w2 hr => ?_)
      obtain ⟨⟨q35_0, q35_1, q35_2, q35_3, q35_4, q35_5, rfl, hq35_0, hq35_1, hq35_2, hq35_3, hq35_4, hq35_5⟩, hs⟩ := hr
      exact ⟨_, rfl, Same.of_bel hs, ⟨_, _, _, _, _, _, rfl, (by first | rfl | assumption), (by first | rfl | assumption), (by first | rfl | assumption), (by first | rfl | assumption), (by first | rfl | assumption), (by first | rfl | assumption)⟩, frsh_no⟩
    | 12, _, hoq =>
      obtain rfl : _ = o := Option.some.inj hoq
      have hs0 := hs
      replace hB := hB.tr0 hs
      replace hb3 := hb3.tr0 hs
      replace hb4 := hb4.tr0 hs
      replace hb5 := hb5.tr0 hs
      replace hb6 := hb6.tr0 hs
      replace hb7 := hb7.tr0 hs
      replace hb8 := hb8.tr0 hs
      clear hs
      have d8 : ∃ x0 x1, gg 32 = .agg #[x0, x1] ∧ x0.oneCell' = true ∧ x1.oneCell' = true := hd 8 (dep_of (by kernel_rfl))
      obtain ⟨q32_0, q32_1, e32, hq32_0, hq32_1⟩ := d8
      have d11 : ∃ x0 x1 x2 x3 x4 x5, gg 35 = .agg #[x0, x1, x2, x3, x4, x5] ∧ x0.oneCell' = true ∧ x1.oneCell' = true ∧ x2.oneCell' = true ∧ x3.oneCell' = true ∧ x4.oneCell' = true ∧ x5.oneCell' = true := hd 11 (dep_of (by kernel_rfl))
      obtain ⟨q35_0, q35_1, q35_2, q35_3, q35_4, q35_5, e35, hq35_0, hq35_1, hq35_2, hq35_3, hq35_4, hq35_5⟩ := d11
      refine os_know 32 (.agg #[q32_0, q32_1]) e32 (by simp [undef]) ?_
      refine os_know 35 (.agg #[q35_0, q35_1, q35_2, q35_3, q35_4, q35_5]) e35 (by simp [undef]) ?_
      refine os_cl fn32 (abs_any _ _ _ _ _ _ _ _ (by first | rfl | assumption) (by first | rfl | assumption) (by first | rfl | assumption) (by first | rfl | assumption) (by first | rfl | assumption) (by first | rfl | assumption) (by first | rfl | assumption) (by first | rfl | assumption) wx) rfl (fun e' w2 hr => ?_)
      obtain ⟨⟨q36_0, q36_1, q36_2, q36_3, q36_4, q36_5, rfl, hq36_0, hq36_1, hq36_2, hq36_3, hq36_4, hq36_5⟩, hs⟩ := hr
      exact ⟨_, rfl, Same.of_bel hs, ⟨_, _, _, _, _, _, rfl, (by first | rfl | assumption), (by first | rfl | assumption), (by first | rfl | assumption), (by first | rfl | assumption), (by first | rfl | assumption), (by first | rfl | assumption)⟩, frsh_no⟩
    | 13, _, hoq =>
      obtain rfl : _ = o := Option.some.inj hoq
      have hs0 := hs
      replace hB := hB.tr0 hs
      replace hb3 := hb3.tr0 hs
      replace hb4 := hb4.tr0 hs
      replace hb5 := hb5.tr0 hs
      replace hb6 := hb6.tr0 hs
      replace hb7 := hb7.tr0 hs
      replace hb8 := hb8.tr0 hs
      clear hs
      have d7 : ∃ x0 x1, gg 31 = .agg #[x0, x1] ∧ x0.oneCell' = true ∧ x1.oneCell' = true := hd 7 (dep_of (by kernel_rfl))
      obtain ⟨q31_0, q31_1, e31, hq31_0, hq31_1⟩ := d7
      have d12 : ∃ x0 x1 x2 x3 x4 x5, gg 36 = .agg #[x0, x1, x2, x3, x4, x5] ∧ x0.oneCell' = true ∧ x1.oneCell' = true ∧ x2.oneCell' = true ∧ x3.oneCell' = true ∧ x4.oneCell' = true ∧ x5.oneCell' = true := hd 12 (dep_of (by kernel_rfl))
      obtain ⟨q36_0, q36_1, q36_2, q36_3, q36_4, q36_5, e36, hq36_0, hq36_1, hq36_2, hq36_3, hq36_4, hq36_5⟩ := d12
      refine os_know 31 (.agg #[q31_0, q31_1]) e31 (by simp [undef]) ?_
      refine os_know 36 (.agg #[q36_0, q36_1, q36_2, q36_3, q36_4, q36_5]) e36 (by simp [undef]) ?_
      refine os_cl fn32 (abs_any _ _ _ _ _ _ _ _ (by first | rfl | assumption) (by first | rfl | assumption) (by first | rfl | assumption) (by first | rfl | assumption) (by first | rfl | assumption) (by first | rfl | assumption) (by first | rfl | assumption) (by first | rfl | assumption) wx) rfl (fun e' w2 hr => ?_)
      obtain ⟨⟨q37_0, q37_1, q37_2, q37_3, q37_4, q37_5, rfl, hq37_0, hq37_1, hq37_2, hq37_3, hq37_4, hq37_5⟩, hs⟩ := hr
      exact ⟨_, rfl, Same.of_bel hs, ⟨_, _, _, _, _, _, rfl, (by first | rfl | assumption), (by first | rfl | assumption), (by first | rfl | assumption), (by first | rfl | assumption), (by first | rfl | assumption), (by first | rfl | assumption)⟩, frsh_no⟩
    | 14, _, hoq =>
      obtain rfl : _ = o := Option.some.inj hoq
      have hs0 := hs
      replace hB := hB.tr0 hs
      replace hb3 := hb3.tr0 hs
      replace hb4 := hb4.tr0 hs
      replace hb5 := hb5.tr0 hs
      replace hb6 := hb6.tr0 hs
      replace hb7 := hb7.tr0 hs
      replace hb8 := hb8.tr0 hs
      clear hs
      refine os_rv (r_ldS Tryd.underlying70 rfl rfl hb5.range0 sz70) ⟨Same.refl _ _, ?_, frsh_no⟩
      exact ⟨_, _, rfl, (by first | rfl | assumption), (by first | rfl | assumption)⟩
    | 15, _, hoq =>
      obtain rfl : _ = o := Option.some.inj hoq
      have hs0 := hs
      replace hB := hB.tr0 hs
      replace hb3 := hb3.tr0 hs
      replace hb4 := hb4.tr0 hs
      replace hb5 := hb5.tr0 hs
      replace hb6 := hb6.tr0 hs
      replace hb7 := hb7.tr0 hs
      replace hb8 := hb8.tr0 hs
      clear hs
      refine os_cl fn34 (bound_any _  wx) rfl (fun e' w2 hr => ?_)
      obtain ⟨⟨q39_0, q39_1, q39_2, q39_3, q39_4, q39_5, rfl, hq39_0, hq39_1, hq39_2, hq39_3, hq39_4, hq39_5⟩, hs⟩ := hr
      exact ⟨_, rfl, Same.of_bel hs, ⟨_, _, _, _, _, _, rfl, (by first | rfl | assumption), (by first | rfl | assumption), (by first | rfl | assumption), (by first | rfl | assumption), (by first | rfl | assumption), (by first | rfl | assumption)⟩, frsh_no⟩
    | 16, _, hoq =>
      obtain rfl : _ = o := Option.some.inj hoq
      have hs0 := hs
      replace hB := hB.tr0 hs
      replace hb3 := hb3.tr0 hs
      replace hb4 := hb4.tr0 hs
      replace hb5 := hb5.tr0 hs
      replace hb6 := hb6.tr0 hs
      replace hb7 := hb7.tr0 hs
      replace hb8 := hb8.tr0 hs
      clear hs
      have d14 : ∃ x0 x1, gg 38 = .agg #[x0, x1] ∧ x0.oneCell' = true ∧ x1.oneCell' = true := hd 14 (dep_of (by kernel_rfl))
      obtain ⟨q38_0, q38_1, e38, hq38_0, hq38_1⟩ := d14
      have d15 : ∃ x0 x1 x2 x3 x4 x5, gg 39 = .agg #[x0, x1, x2, x3, x4, x5] ∧ x0.oneCell' = true ∧ x1.oneCell' = true ∧ x2.oneCell' = true ∧ x3.oneCell' = true ∧ x4.oneCell' = true ∧ x5.oneCell' = true := hd 15 (dep_of (by kernel_rfl))
      obtain ⟨q39_0, q39_1, q39_2, q39_3, q39_4, q39_5, e39, hq39_0, hq39_1, hq39_2, hq39_3, hq39_4, hq39_5⟩ := d15
      refine os_know 38 (.agg #[q38_0, q38_1]) e38 (by simp [undef]) ?_
      refine os_know 39 (.agg #[q39_0, q39_1, q39_2, q39_3, q39_4, q39_5]) e39 (by simp [undef]) ?_
      refine os_cl fn32 (abs_any _ _ _ _ _ _ _ _ (by first | rfl | assumption) (by first | rfl | assumption) (by first | rfl | assumption) (by first | rfl | assumption) (by first | rfl | assumption) (by first | rfl | assumption) (by first | rfl | assumption) (by first | rfl | assumption) wx) rfl (fun e' w2 hr => ?_)
      obtain ⟨⟨q40_0, q40_1, q40_2, q40_3, q40_4, q40_5, rfl, hq40_0, hq40_1, hq40_2, hq40_3, hq40_4, hq40_5⟩, hs⟩ := hr
      exact ⟨_, rfl, Same.of_bel hs, ⟨_, _, _, _, _, _, rfl, (by first | rfl | assumption), (by first | rfl | assumption), (by first | rfl | assumption), (by first | rfl | assumption), (by first | rfl | assumption), (by first | rfl | assumption)⟩, frsh_no⟩
    | 17, _, hoq =>
      obtain rfl : _ = o := Option.some.inj hoq
      have hs0 := hs
      replace hB := hB.tr0 hs
      replace hb3 := hb3.tr0 hs
      replace hb4 := hb4.tr0 hs
      replace hb5 := hb5.tr0 hs
      replace hb6 := hb6.tr0 hs
      replace hb7 := hb7.tr0 hs
      replace hb8 := hb8.tr0 hs
      clear hs
      refine os_rv (r_ldS Tryd.underlying70 rfl rfl hb7.range0 sz70) ⟨Same.refl _ _, ?_, frsh_no⟩
      exact ⟨_, _, rfl, (by first | rfl | assumption), (by first | rfl | assumption)⟩
    | 18, _, hoq =>
      obtain rfl : _ = o := Option.some.inj hoq
      have hs0 := hs
      replace hB := hB.tr0 hs
      replace hb3 := hb3.tr0 hs
      replace hb4 := hb4.tr0 hs
      replace hb5 := hb5.tr0 hs
      replace hb6 := hb6.tr0 hs
      replace hb7 := hb7.tr0 hs
      replace hb8 := hb8.tr0 hs
      clear hs
      refine os_rv (r_ldS Tryd.underlying70 rfl rfl hb6.range0 sz70) ⟨Same.refl _ _, ?_, frsh_no⟩
      exact ⟨_, _, rfl, (by first | rfl | assumption), (by first | rfl | assumption)⟩
    | 19, _, hoq =>
      obtain rfl : _ = o := Option.some.inj hoq
      have hs0 := hs
      replace hB := hB.tr0 hs
      replace hb3 := hb3.tr0 hs
      replace hb4 := hb4.tr0 hs
      replace hb5 := hb5.tr0 hs
      replace hb6 := hb6.tr0 hs
      replace hb7 := hb7.tr0 hs
      replace hb8 := hb8.tr0 hs
      clear hs
      refine os_rv (r_ldS Tryd.underlying70 rfl rfl hb3.range0 sz70) ⟨Same.refl _ _, ?_, frsh_no⟩
      exact ⟨_, _, rfl, (by first | rfl | assumption), (by first | rfl | assumption)⟩
    | 20, _, hoq =>
      obtain rfl : _ = o := Option.some.inj hoq
      have hs0 := hs
      replace hB := hB.tr0 hs
      replace hb3 := hb3.tr0 hs
      replace hb4 := hb4.tr0 hs
      replace hb5 := hb5.tr0 hs
      replace hb6 := hb6.tr0 hs
      replace hb7 := hb7.tr0 hs
      replace hb8 := hb8.tr0 hs
      clear hs
      refine os_cl fn34 (bound_any _  wx) rfl (fun e' w2 hr => ?_)
      obtain ⟨⟨q44_0, q44_1, q44_2, q44_3, q44_4, q44_5, rfl, hq44_0, hq44_1, hq44_2, hq44_3, hq44_4, hq44_5⟩, hs⟩ := hr
      exact ⟨_, rfl, Same.of_bel hs, ⟨_, _, _, _, _, _, rfl, (by first | rfl | assumption), (by first | rfl | assumption), (by first | rfl | assumption), (by first | rfl | assumption), (by first | rfl | assumption), (by first | rfl | assumption)⟩, frsh_no⟩
    | 21, _, hoq =>
      obtain rfl : _ = o := Option.some.inj hoq
      have hs0 := hs
      replace hB := hB.tr0 hs
      replace hb3 := hb3.tr0 hs
      replace hb4 := hb4.tr0 hs
      replace hb5 := hb5.tr0 hs
      replace hb6 := hb6.tr0 hs
      replace hb7 := hb7.tr0 hs
      replace hb8 := hb8.tr0 hs
      clear hs
      refine os_rv (r_ldS Tryd.underlying70 rfl rfl hb3.range0 sz70) ⟨Same.refl _ _, ?_, frsh_no⟩
      exact ⟨_, _, rfl, (by first | rfl | assumption), (by first | rfl | assumption)⟩
    | 22, _, hoq =>
      obtain rfl : _ = o := Option.some.inj hoq
      have hs0 := hs
      replace hB := hB.tr0 hs
      replace hb3 := hb3.tr0 hs
      replace hb4 := hb4.tr0 hs
      replace hb5 := hb5.tr0 hs
      replace hb6 := hb6.tr0 hs
      replace hb7 := hb7.tr0 hs
      replace hb8 := hb8.tr0 hs
      clear hs
      refine os_cl fn34 (bound_any _  wx) rfl (fun e' w2 hr => ?_)
      obtain ⟨⟨q46_0, q46_1, q46_2, q46_3, q46_4, q46_5, rfl, hq46_0, hq46_1, hq46_2, hq46_3, hq46_4, hq46_5⟩, hs⟩ := hr
      exact ⟨_, rfl, Same.of_bel hs, ⟨_, _, _, _, _, _, rfl, (by first | rfl | assumption), (by first | rfl | assumption), (by first | rfl | assumption), (by first | rfl | assumption), (by first | rfl | assumption), (by first | rfl | assumption)⟩, frsh_no⟩
    | 23, _, hoq =>
      obtain rfl : _ = o := Option.some.inj hoq
      have hs0 := hs
      replace hB := hB.tr0 hs
      replace hb3 := hb3.tr0 hs
      replace hb4 := hb4.tr0 hs
      replace hb5 := hb5.tr0 hs
      replace hb6 := hb6.tr0 hs
      replace hb7 := hb7.tr0 hs
      replace hb8 := hb8.tr0 hs
      clear hs
      refine os_cl fn34 (bound_any _  wx) rfl (fun e' w2 hr => ?_)
      obtain ⟨⟨q47_0, q47_1, q47_2, q47_3, q47_4, q47_5, rfl, hq47_0, hq47_1, hq47_2, hq47_3, hq47_4, hq47_5⟩, hs⟩ := hr
      exact ⟨_, rfl, Same.of_bel hs, ⟨_, _, _, _, _, _, rfl, (by first | rfl | assumption), (by first | rfl | assumption), (by first | rfl | assumption), (by first | rfl | assumption), (by first | rfl | assumption), (by first | rfl | assumption)⟩, frsh_no⟩
    | 24, _, hoq =>
      obtain rfl : _ = o := Option.some.inj hoq
      have hs0 := hs
      replace hB := hB.tr0 hs
      replace hb3 := hb3.tr0 hs
      replace hb4 := hb4.tr0 hs
      replace hb5 := hb5.tr0 hs
      replace hb6 := hb6.tr0 hs
      replace hb7 := hb7.tr0 hs
      replace hb8 := hb8.tr0 hs
      clear hs
      have d22 : ∃ x0 x1 x2 x3 x4 x5, gg 46 = .agg #[x0, x1, x2, x3, x4, x5] ∧ x0.oneCell' = true ∧ x1.oneCell' = true ∧ x2.oneCell' = true ∧ x3.oneCell' = true ∧ x4.oneCell' = true ∧ x5.oneCell' = true := hd 22 (dep_of (by kernel_rfl))
      obtain ⟨q46_0, q46_1, q46_2, q46_3, q46_4, q46_5, e46, hq46_0, hq46_1, hq46_2, hq46_3, hq46_4, hq46_5⟩ := d22
      have d23 : ∃ x0 x1 x2 x3 x4 x5, gg 47 = .agg #[x0, x1, x2, x3, x4, x5] ∧ x0.oneCell' = true ∧ x1.oneCell' = true ∧ x2.oneCell' = true ∧ x3.oneCell' = true ∧ x4.oneCell' = true ∧ x5.oneCell' = true := hd 23 (dep_of (by kernel_rfl))
      obtain ⟨q47_0, q47_1, q47_2, q47_3, q47_4, q47_5, e47, hq47_0, hq47_1, hq47_2, hq47_3, hq47_4, hq47_5⟩ := d23
      refine os_know 46 (.agg #[q46_0, q46_1, q46_2, q46_3, q46_4, q46_5]) e46 (by simp [undef]) ?_
      refine os_know 47 (.agg #[q47_0, q47_1, q47_2, q47_3, q47_4, q47_5]) e47 (by simp [undef]) ?_
      refine os_cl fn33 (app_any _ _ _ _ _ _ _ _ _ _ _ _ (by first | rfl | assumption) (by first | rfl | assumption) (by first | rfl | assumption) (by first | rfl | assumption) (by first | rfl | assumption) (by first | rfl | assumption) (by first | rfl | assumption) (by first | rfl | assumption) (by first | rfl | assumption) (by first | rfl | assumption) (by first | rfl | assumption) (by first | rfl | assumption) wx) rfl (fun e' w2 hr => ?_)
      obtain ⟨⟨q48_0, q48_1, q48_2, q48_3, q48_4, q48_5, rfl, hq48_0, hq48_1, hq48_2, hq48_3, hq48_4, hq48_5⟩, hs⟩ := hr
      exact ⟨_, rfl, Same.of_bel hs, ⟨_, _, _, _, _, _, rfl, (by first | rfl | assumption), (by first | rfl | assumption), (by first | rfl | assumption), (by first | rfl | assumption), (by first | rfl | assumption), (by first | rfl | assumption)⟩, frsh_no⟩
    | 25, _, hoq =>
      obtain rfl : _ = o := Option.some.inj hoq
      have hs0 := hs
      replace hB := hB.tr0 hs
      replace hb3 := hb3.tr0 hs
      replace hb4 := hb4.tr0 hs
      replace hb5 := hb5.tr0 hs
      replace hb6 := hb6.tr0 hs
      replace hb7 := hb7.tr0 hs
      replace hb8 := hb8.tr0 hs
      clear hs
      refine os_cl fn34 (bound_any _  wx) rfl (fun e' w2 hr => ?_)
      obtain ⟨⟨q49_0, q49_1, q49_2, q49_3, q49_4, q49_5, rfl, hq49_0, hq49_1, hq49_2, hq49_3, hq49_4, hq49_5⟩, hs⟩ := hr
      exact ⟨_, rfl, Same.of_bel hs, ⟨_, _, _, _, _, _, rfl, (by first | rfl | assumption), (by first | rfl | assumption), (by first | rfl | assumption), (by first | rfl | assumption), (by first | rfl | assumption), (by first | rfl | assumption)⟩, frsh_no⟩
    | 26, _, hoq =>
      obtain rfl : _ = o := Option.some.inj hoq
      have hs0 := hs
      replace hB := hB.tr0 hs
      replace hb3 := hb3.tr0 hs
      replace hb4 := hb4.tr0 hs
      replace hb5 := hb5.tr0 hs
      replace hb6 := hb6.tr0 hs
      replace hb7 := hb7.tr0 hs
      replace hb8 := hb8.tr0 hs
      clear hs
      have d24 : ∃ x0 x1 x2 x3 x4 x5, gg 48 = .agg #[x0, x1, x2, x3, x4, x5] ∧ x0.oneCell' = true ∧ x1.oneCell' = true ∧ x2.oneCell' = true ∧ x3.oneCell' = true ∧ x4.oneCell' = true ∧ x5.oneCell' = true := hd 24 (dep_of (by kernel_rfl))
      obtain ⟨q48_0, q48_1, q48_2, q48_3, q48_4, q48_5, e48, hq48_0, hq48_1, hq48_2, hq48_3, hq48_4, hq48_5⟩ := d24
      have d25 : ∃ x0 x1 x2 x3 x4 x5, gg 49 = .agg #[x0, x1, x2, x3, x4, x5] ∧ x0.oneCell' = true ∧ x1.oneCell' = true ∧ x2.oneCell' = true ∧ x3.oneCell' = true ∧ x4.oneCell' = true ∧ x5.oneCell' = true := hd 25 (dep_of (by kernel_rfl))
      obtain ⟨q49_0, q49_1, q49_2, q49_3, q49_4, q49_5, e49, hq49_0, hq49_1, hq49_2, hq49_3, hq49_4, hq49_5⟩ := d25
      refine os_know 48 (.agg #[q48_0, q48_1, q48_2, q48_3, q48_4, q48_5]) e48 (by simp [undef]) ?_
      refine os_know 49 (.agg #[q49_0, q49_1, q49_2, q49_3, q49_4, q49_5]) e49 (by simp [undef]) ?_
      refine os_cl fn33 (app_any _ _ _ _ _ _ _ _ _ _ _ _ (by first | rfl | assumption) (by first | rfl | assumption) (by first | rfl | assumption) (by first | rfl | assumption) (by first | rfl | assumption) (by first | rfl | assumption) (by first | rfl | assumption) (by first | rfl | assumption) (by first | rfl | assumption) (by first | rfl | assumption) (by first | rfl | assumption) (by first | rfl | assumption) wx) rfl (fun e' w2 hr => ?_)
      obtain ⟨⟨q50_0, q50_1, q50_2, q50_3, q50_4, q50_5, rfl, hq50_0, hq50_1, hq50_2, hq50_3, hq50_4, hq50_5⟩, hs⟩ := hr
      exact ⟨_, rfl, Same.of_bel hs, ⟨_, _, _, _, _, _, rfl, (by first | rfl | assumption), (by first | rfl | assumption), (by first | rfl | assumption), (by first | rfl | assumption), (by first | rfl | assumption), (by first | rfl | assumption)⟩, frsh_no⟩
    | 27, _, hoq =>
      obtain rfl : _ = o := Option.some.inj hoq
      have hs0 := hs
      replace hB := hB.tr0 hs
      replace hb3 := hb3.tr0 hs
      replace hb4 := hb4.tr0 hs
      replace hb5 := hb5.tr0 hs
      replace hb6 := hb6.tr0 hs
      replace hb7 := hb7.tr0 hs
      replace hb8 := hb8.tr0 hs
      clear hs
      have d21 : ∃ x0 x1, gg 45 = .agg #[x0, x1] ∧ x0.oneCell' = true ∧ x1.oneCell' = true := hd 21 (dep_of (by kernel_rfl))
      obtain ⟨q45_0, q45_1, e45, hq45_0, hq45_1⟩ := d21
      have d26 : ∃ x0 x1 x2 x3 x4 x5, gg 50 = .agg #[x0, x1, x2, x3, x4, x5] ∧ x0.oneCell' = true ∧ x1.oneCell' = true ∧ x2.oneCell' = true ∧ x3.oneCell' = true ∧ x4.oneCell' = true ∧ x5.oneCell' = true := hd 26 (dep_of (by kernel_rfl))
      obtain ⟨q50_0, q50_1, q50_2, q50_3, q50_4, q50_5, e50, hq50_0, hq50_1, hq50_2, hq50_3, hq50_4, hq50_5⟩ := d26
      refine os_know 45 (.agg #[q45_0, q45_1]) e45 (by simp [undef]) ?_
      refine os_know 50 (.agg #[q50_0, q50_1, q50_2, q50_3, q50_4, q50_5]) e50 (by simp [undef]) ?_
      refine os_cl fn32 (abs_any _ _ _ _ _ _ _ _ (by first | rfl | assumption) (by first | rfl | assumption) (by first | rfl | assumption) (by first | rfl | assumption) (by first | rfl | assumption) (by first | rfl | assumption) (by first | rfl | assumption) (by first | rfl | assumption) wx) rfl (fun e' w2 hr => ?_)
      obtain ⟨⟨q51_0, q51_1, q51_2, q51_3, q51_4, q51_5, rfl, hq51_0, hq51_1, hq51_2, hq51_3, hq51_4, hq51_5⟩, hs⟩ := hr
      exact ⟨_, rfl, Same.of_bel hs, ⟨_, _, _, _, _, _, rfl, (by first | rfl | assumption), (by first | rfl | assumption), (by first | rfl | assumption), (by first | rfl | assumption), (by first | rfl | assumption), (by first | rfl | assumption)⟩, frsh_no⟩
    | 28, _, hoq =>
      obtain rfl : _ = o := Option.some.inj hoq
      have hs0 := hs
      replace hB := hB.tr0 hs
      replace hb3 := hb3.tr0 hs
      replace hb4 := hb4.tr0 hs
      replace hb5 := hb5.tr0 hs
      replace hb6 := hb6.tr0 hs
      replace hb7 := hb7.tr0 hs
      replace hb8 := hb8.tr0 hs
      clear hs
      have d20 : ∃ x0 x1 x2 x3 x4 x5, gg 44 = .agg #[x0, x1, x2, x3, x4, x5] ∧ x0.oneCell' = true ∧ x1.oneCell' = true ∧ x2.oneCell' = true ∧ x3.oneCell' = true ∧ x4.oneCell' = true ∧ x5.oneCell' = true := hd 20 (dep_of (by kernel_rfl))
      obtain ⟨q44_0, q44_1, q44_2, q44_3, q44_4, q44_5, e44, hq44_0, hq44_1, hq44_2, hq44_3, hq44_4, hq44_5⟩ := d20
      have d27 : ∃ x0 x1 x2 x3 x4 x5, gg 51 = .agg #[x0, x1, x2, x3, x4, x5] ∧ x0.oneCell' = true ∧ x1.oneCell' = true ∧ x2.oneCell' = true ∧ x3.oneCell' = true ∧ x4.oneCell' = true ∧ x5.oneCell' = true := hd 27 (dep_of (by kernel_rfl))
      obtain ⟨q51_0, q51_1, q51_2, q51_3, q51_4, q51_5, e51, hq51_0, hq51_1, hq51_2, hq51_3, hq51_4, hq51_5⟩ := d27
      refine os_know 44 (.agg #[q44_0, q44_1, q44_2, q44_3, q44_4, q44_5]) e44 (by simp [undef]) ?_
      refine os_know 51 (.agg #[q51_0, q51_1, q51_2, q51_3, q51_4, q51_5]) e51 (by simp [undef]) ?_
      refine os_cl fn33 (app_any _ _ _ _ _ _ _ _ _ _ _ _ (by first | rfl | assumption) (by first | rfl | assumption) (by first | rfl | assumption) (by first | rfl | assumption) (by first | rfl | assumption) (by first | rfl | assumption) (by first | rfl | assumption) (by first | rfl | assumption) (by first | rfl | assumption) (by first | rfl | assumption) (by first | rfl | assumption) (by first | rfl | assumption) wx) rfl (fun e' w2 hr => ?_)
      obtain ⟨⟨q52_0, q52_1, q52_2, q52_3, q52_4, q52_5, rfl, hq52_0, hq52_1, hq52_2, hq52_3, hq52_4, hq52_5⟩, hs⟩ := hr
      exact ⟨_, rfl, Same.of_bel hs, ⟨_, _, _, _, _, _, rfl, (by first | rfl | assumption), (by first | rfl | assumption), (by first | rfl | assumption), (by first | rfl | assumption), (by first | rfl | assumption), (by first | rfl | assumption)⟩, frsh_no⟩
    | 29, _, hoq =>
      obtain rfl : _ = o := Option.some.inj hoq
      have hs0 := hs
      replace hB := hB.tr0 hs
      replace hb3 := hb3.tr0 hs
      replace hb4 := hb4.tr0 hs
      replace hb5 := hb5.tr0 hs
      replace hb6 := hb6.tr0 hs
      replace hb7 := hb7.tr0 hs
      replace hb8 := hb8.tr0 hs
      clear hs
      have d19 : ∃ x0 x1, gg 43 = .agg #[x0, x1] ∧ x0.oneCell' = true ∧ x1.oneCell' = true := hd 19 (dep_of (by kernel_rfl))
      obtain ⟨q43_0, q43_1, e43, hq43_0, hq43_1⟩ := d19
      have d28 : ∃ x0 x1 x2 x3 x4 x5, gg 52 = .agg #[x0, x1, x2, x3, x4, x5] ∧ x0.oneCell' = true ∧ x1.oneCell' = true ∧ x2.oneCell' = true ∧ x3.oneCell' = true ∧ x4.oneCell' = true ∧ x5.oneCell' = true := hd 28 (dep_of (by kernel_rfl))
      obtain ⟨q52_0, q52_1, q52_2, q52_3, q52_4, q52_5, e52, hq52_0, hq52_1, hq52_2, hq52_3, hq52_4, hq52_5⟩ := d28
      refine os_know 43 (.agg #[q43_0, q43_1]) e43 (by simp [undef]) ?_
      refine os_know 52 (.agg #[q52_0, q52_1, q52_2, q52_3, q52_4, q52_5]) e52 (by simp [undef]) ?_
      refine os_cl fn32 (abs_any _ _ _ _ _ _ _ _ (by first | rfl | assumption) (by first | rfl | assumption) (by first | rfl | assumption) (by first | rfl | assumption) (by first | rfl | assumption) (by first | rfl | assumption) (by first | rfl | assumption) (by first | rfl | assumption) wx) rfl (fun e' w2 hr => ?_)
      obtain ⟨⟨q53_0, q53_1, q53_2, q53_3, q53_4, q53_5, rfl, hq53_0, hq53_1, hq53_2, hq53_3, hq53_4, hq53_5⟩, hs⟩ := hr
      exact ⟨_, rfl, Same.of_bel hs, ⟨_, _, _, _, _, _, rfl, (by first | rfl | assumption), (by first | rfl | assumption), (by first | rfl | assumption), (by first | rfl | assumption), (by first | rfl | assumption), (by first | rfl | assumption)⟩, frsh_no⟩
    | 30, _, hoq =>
      obtain rfl : _ = o := Option.some.inj hoq
      have hs0 := hs
      replace hB := hB.tr0 hs
      replace hb3 := hb3.tr0 hs
      replace hb4 := hb4.tr0 hs
      replace hb5 := hb5.tr0 hs
      replace hb6 := hb6.tr0 hs
      replace hb7 := hb7.tr0 hs
      replace hb8 := hb8.tr0 hs
      clear hs
      have d18 : ∃ x0 x1, gg 42 = .agg #[x0, x1] ∧ x0.oneCell' = true ∧ x1.oneCell' = true := hd 18 (dep_of (by kernel_rfl))
      obtain ⟨q42_0, q42_1, e42, hq42_0, hq42_1⟩ := d18
      have d29 : ∃ x0 x1 x2 x3 x4 x5, gg 53 = .agg #[x0, x1, x2, x3, x4, x5] ∧ x0.oneCell' = true ∧ x1.oneCell' = true ∧ x2.oneCell' = true ∧ x3.oneCell' = true ∧ x4.oneCell' = true ∧ x5.oneCell' = true := hd 29 (dep_of (by kernel_rfl))
      obtain ⟨q53_0, q53_1, q53_2, q53_3, q53_4, q53_5, e53, hq53_0, hq53_1, hq53_2, hq53_3, hq53_4, hq53_5⟩ := d29
      refine os_know 42 (.agg #[q42_0, q42_1]) e42 (by simp [undef]) ?_
      refine os_know 53 (.agg #[q53_0, q53_1, q53_2, q53_3, q53_4, q53_5]) e53 (by simp [undef]) ?_
      refine os_cl fn32 (abs_any _ _ _ _ _ _ _ _ (by first | rfl | assumption) (by first | rfl | assumption) (by first | rfl | assumption) (by first | rfl | assumption) (by first | rfl | assumption) (by first | rfl | assumption) (by first | rfl | assumption) (by first | rfl | assumption) wx) rfl (fun e' w2 hr => ?_)
      obtain ⟨⟨q54_0, q54_1, q54_2, q54_3, q54_4, q54_5, rfl, hq54_0, hq54_1, hq54_2, hq54_3, hq54_4, hq54_5⟩, hs⟩ := hr
      exact ⟨_, rfl, Same.of_bel hs, ⟨_, _, _, _, _, _, rfl, (by first | rfl | assumption), (by first | rfl | assumption), (by first | rfl | assumption), (by first | rfl | assumption), (by first | rfl | assumption), (by first | rfl | assumption)⟩, frsh_no⟩
    | 31, _, hoq =>
      obtain rfl : _ = o := Option.some.inj hoq
      have hs0 := hs
      replace hB := hB.tr0 hs
      replace hb3 := hb3.tr0 hs
      replace hb4 := hb4.tr0 hs
      replace hb5 := hb5.tr0 hs
      replace hb6 := hb6.tr0 hs
      replace hb7 := hb7.tr0 hs
      replace hb8 := hb8.tr0 hs
      clear hs
      have d17 : ∃ x0 x1, gg 41 = .agg #[x0, x1] ∧ x0.oneCell' = true ∧ x1.oneCell' = true := hd 17 (dep_of (by kernel_rfl))
      obtain ⟨q41_0, q41_1, e41, hq41_0, hq41_1⟩ := d17
      have d30 : ∃ x0 x1 x2 x3 x4 x5, gg 54 = .agg #[x0, x1, x2, x3, x4, x5] ∧ x0.oneCell' = true ∧ x1.oneCell' = true ∧ x2.oneCell' = true ∧ x3.oneCell' = true ∧ x4.oneCell' = true ∧ x5.oneCell' = true := hd 30 (dep_of (by kernel_rfl))
      obtain ⟨q54_0, q54_1, q54_2, q54_3, q54_4, q54_5, e54, hq54_0, hq54_1, hq54_2, hq54_3, hq54_4, hq54_5⟩ := d30
      refine os_know 41 (.agg #[q41_0, q41_1]) e41 (by simp [undef]) ?_
      refine os_know 54 (.agg #[q54_0, q54_1, q54_2, q54_3, q54_4, q54_5]) e54 (by simp [undef]) ?_
      refine os_cl fn32 (abs_any _ _ _ _ _ _ _ _ (by first | rfl | assumption) (by first | rfl | assumption) (by first | rfl | assumption) (by first | rfl | assumption) (by first | rfl | assumption) (by first | rfl | assumption) (by first | rfl | assumption) (by first | rfl | assumption) wx) rfl (fun e' w2 hr => ?_)
      obtain ⟨⟨q55_0, q55_1, q55_2, q55_3, q55_4, q55_5, rfl, hq55_0, hq55_1, hq55_2, hq55_3, hq55_4, hq55_5⟩, hs⟩ := hr
      exact ⟨_, rfl, Same.of_bel hs, ⟨_, _, _, _, _, _, rfl, (by first | rfl | assumption), (by first | rfl | assumption), (by first | rfl | assumption), (by first | rfl | assumption), (by first | rfl | assumption), (by first | rfl | assumption)⟩, frsh_no⟩
    | 32, _, hoq =>
      obtain rfl : _ = o := Option.some.inj hoq
      have hs0 := hs
      replace hB := hB.tr0 hs
      replace hb3 := hb3.tr0 hs
      replace hb4 := hb4.tr0 hs
      replace hb5 := hb5.tr0 hs
      replace hb6 := hb6.tr0 hs
      replace hb7 := hb7.tr0 hs
      replace hb8 := hb8.tr0 hs
      clear hs
      refine os_rv (r_ldS Tryd.underlying70 rfl rfl hb4.range0 sz70) ⟨Same.refl _ _, ?_, frsh_no⟩
      exact ⟨_, _, rfl, (by first | rfl | assumption), (by first | rfl | assumption)⟩
    | 33, _, hoq =>
      obtain rfl : _ = o := Option.some.inj hoq
      have hs0 := hs
      replace hB := hB.tr0 hs
      replace hb3 := hb3.tr0 hs
      replace hb4 := hb4.tr0 hs
      replace hb5 := hb5.tr0 hs
      replace hb6 := hb6.tr0 hs
      replace hb7 := hb7.tr0 hs
      replace hb8 := hb8.tr0 hs
      clear hs
      refine os_rv (r_ldS Tryd.underlying70 rfl rfl hb4.range0 sz70) ⟨Same.refl _ _, ?_, frsh_no⟩
      exact ⟨_, _, rfl, (by first | rfl | assumption), (by first | rfl | assumption)⟩
    | 34, _, hoq =>
      obtain rfl : _ = o := Option.some.inj hoq
      have hs0 := hs
      replace hB := hB.tr0 hs
      replace hb3 := hb3.tr0 hs
      replace hb4 := hb4.tr0 hs
      replace hb5 := hb5.tr0 hs
      replace hb6 := hb6.tr0 hs
      replace hb7 := hb7.tr0 hs
      replace hb8 := hb8.tr0 hs
      clear hs
      have d32 : ∃ x0 x1, gg 56 = .agg #[x0, x1] ∧ x0.oneCell' = true ∧ x1.oneCell' = true := hd 32 (dep_of (by kernel_rfl))
      obtain ⟨q56_0, q56_1, e56, hq56_0, hq56_1⟩ := d32
      have d33 : ∃ x0 x1, gg 57 = .agg #[x0, x1] ∧ x0.oneCell' = true ∧ x1.oneCell' = true := hd 33 (dep_of (by kernel_rfl))
      obtain ⟨q57_0, q57_1, e57, hq57_0, hq57_1⟩ := d33
      refine os_know 56 (.agg #[q56_0, q56_1]) e56 (by simp [undef]) ?_
      refine os_know 57 (.agg #[q57_0, q57_1]) e57 (by simp [undef]) ?_
      refine os_cl fn25 (fun_any _ _ _ _ (by first | rfl | assumption) (by first | rfl | assumption) (by first | rfl | assumption) (by first | rfl | assumption) wx) rfl (fun e' w2 hr => ?_)
      obtain ⟨⟨q58_0, q58_1, rfl, hq58_0, hq58_1⟩, hs⟩ := hr
      exact ⟨_, rfl, Same.of_bel hs, ⟨_, _, rfl, (by first | rfl | assumption), (by first | rfl | assumption)⟩, frsh_no⟩
    | 35, _, hoq =>
      obtain rfl : _ = o := Option.some.inj hoq
      have hs0 := hs
      replace hB := hB.tr0 hs
      replace hb3 := hb3.tr0 hs
      replace hb4 := hb4.tr0 hs
      replace hb5 := hb5.tr0 hs
      replace hb6 := hb6.tr0 hs
      replace hb7 := hb7.tr0 hs
      replace hb8 := hb8.tr0 hs
      clear hs
      refine os_rv (r_ldS Tryd.underlying70 rfl rfl hb5.range0 sz70) ⟨Same.refl _ _, ?_, frsh_no⟩
      exact ⟨_, _, rfl, (by first | rfl | assumption), (by first | rfl | assumption)⟩
    | 36, _, hoq =>
      obtain rfl : _ = o := Option.some.inj hoq
      have hs0 := hs
      replace hB := hB.tr0 hs
      replace hb3 := hb3.tr0 hs
      replace hb4 := hb4.tr0 hs
      replace hb5 := hb5.tr0 hs
      replace hb6 := hb6.tr0 hs
      replace hb7 := hb7.tr0 hs
      replace hb8 := hb8.tr0 hs
      clear hs
      refine os_rv (r_ldS Tryd.underlying70 rfl rfl hb3.range0 sz70) ⟨Same.refl _ _, ?_, frsh_no⟩
      exact ⟨_, _, rfl, (by first | rfl | assumption), (by first | rfl | assumption)⟩
    | 37, _, hoq =>
      obtain rfl : _ = o := Option.some.inj hoq
      have hs0 := hs
      replace hB := hB.tr0 hs
      replace hb3 := hb3.tr0 hs
      replace hb4 := hb4.tr0 hs
      replace hb5 := hb5.tr0 hs
      replace hb6 := hb6.tr0 hs
      replace hb7 := hb7.tr0 hs
      replace hb8 := hb8.tr0 hs
      clear hs
      refine os_cl fn34 (bound_any _  wx) rfl (fun e' w2 hr => ?_)
      obtain ⟨⟨q61_0, q61_1, q61_2, q61_3, q61_4, q61_5, rfl, hq61_0, hq61_1, hq61_2, hq61_3, hq61_4, hq61_5⟩, hs⟩ := hr
      exact ⟨_, rfl, Same.of_bel hs, ⟨_, _, _, _, _, _, rfl, (by first | rfl | assumption), (by first | rfl | assumption), (by first | rfl | assumption), (by first | rfl | assumption), (by first | rfl | assumption), (by first | rfl | assumption)⟩, frsh_no⟩
    | 38, _, hoq =>
      obtain rfl : _ = o := Option.some.inj hoq
      have hs0 := hs
      replace hB := hB.tr0 hs
      replace hb3 := hb3.tr0 hs
      replace hb4 := hb4.tr0 hs
      replace hb5 := hb5.tr0 hs
      replace hb6 := hb6.tr0 hs
      replace hb7 := hb7.tr0 hs
      replace hb8 := hb8.tr0 hs
      clear hs
      refine os_cl fn34 (bound_any _  wx) rfl (fun e' w2 hr => ?_)
      obtain ⟨⟨q62_0, q62_1, q62_2, q62_3, q62_4, q62_5, rfl, hq62_0, hq62_1, hq62_2, hq62_3, hq62_4, hq62_5⟩, hs⟩ := hr
      exact ⟨_, rfl, Same.of_bel hs, ⟨_, _, _, _, _, _, rfl, (by first | rfl | assumption), (by first | rfl | assumption), (by first | rfl | assumption), (by first | rfl | assumption), (by first | rfl | assumption), (by first | rfl | assumption)⟩, frsh_no⟩
    | 39, _, hoq =>
      obtain rfl : _ = o := Option.some.inj hoq
      have hs0 := hs
      replace hB := hB.tr0 hs
      replace hb3 := hb3.tr0 hs
      replace hb4 := hb4.tr0 hs
      replace hb5 := hb5.tr0 hs
      replace hb6 := hb6.tr0 hs
      replace hb7 := hb7.tr0 hs
      replace hb8 := hb8.tr0 hs
      clear hs
      refine os_cl fn34 (bound_any _  wx) rfl (fun e' w2 hr => ?_)
      obtain ⟨⟨q63_0, q63_1, q63_2, q63_3, q63_4, q63_5, rfl, hq63_0, hq63_1, hq63_2, hq63_3, hq63_4, hq63_5⟩, hs⟩ := hr
      exact ⟨_, rfl, Same.of_bel hs, ⟨_, _, _, _, _, _, rfl, (by first | rfl | assumption), (by first | rfl | assumption), (by first | rfl | assumption), (by first | rfl | assumption), (by first | rfl | assumption), (by first | rfl | assumption)⟩, frsh_no⟩
    | 40, _, hoq =>
      obtain rfl : _ = o := Option.some.inj hoq
      have hs0 := hs
      replace hB := hB.tr0 hs
      replace hb3 := hb3.tr0 hs
      replace hb4 := hb4.tr0 hs
      replace hb5 := hb5.tr0 hs
      replace hb6 := hb6.tr0 hs
      replace hb7 := hb7.tr0 hs
      replace hb8 := hb8.tr0 hs
      clear hs
      have d38 : ∃ x0 x1 x2 x3 x4 x5, gg 62 = .agg #[x0, x1, x2, x3, x4, x5] ∧ x0.oneCell' = true ∧ x1.oneCell' = true ∧ x2.oneCell' = true ∧ x3.oneCell' = true ∧ x4.oneCell' = true ∧ x5.oneCell' = true := hd 38 (dep_of (by kernel_rfl))
      obtain ⟨q62_0, q62_1, q62_2, q62_3, q62_4, q62_5, e62, hq62_0, hq62_1, hq62_2, hq62_3, hq62_4, hq62_5⟩ := d38
      have d39 : ∃ x0 x1 x2 x3 x4 x5, gg 63 = .agg #[x0, x1, x2, x3, x4, x5] ∧ x0.oneCell' = true ∧ x1.oneCell' = true ∧ x2.oneCell' = true ∧ x3.oneCell' = true ∧ x4.oneCell' = true ∧ x5.oneCell' = true := hd 39 (dep_of (by kernel_rfl))
      obtain ⟨q63_0, q63_1, q63_2, q63_3, q63_4, q63_5, e63, hq63_0, hq63_1, hq63_2, hq63_3, hq63_4, hq63_5⟩ := d39
      refine os_know 62 (.agg #[q62_0, q62_1, q62_2, q62_3, q62_4, q62_5]) e62 (by simp [undef]) ?_
      refine os_know 63 (.agg #[q63_0, q63_1, q63_2, q63_3, q63_4, q63_5]) e63 (by simp [undef]) ?_
      refine os_cl fn33 (app_any _ _ _ _ _ _ _ _ _ _ _ _ (by first | rfl | assumption) (by first | rfl | assumption) (by first | rfl | assumption) (by first | rfl | assumption) (by first | rfl | assumption) (by first | rfl | assumption) (by first | rfl | assumption) (by first | rfl | assumption) (by first | rfl | assumption) (by first | rfl | assumption) (by first | rfl | assumption) (by first | rfl | assumption) wx) rfl (fun e' w2 hr => ?_)
      obtain ⟨⟨q64_0, q64_1, q64_2, q64_3, q64_4, q64_5, rfl, hq64_0, hq64_1, hq64_2, hq64_3, hq64_4, hq64_5⟩, hs⟩ := hr
      exact ⟨_, rfl, Same.of_bel hs, ⟨_, _, _, _, _, _, rfl, (by first | rfl | assumption), (by first | rfl | assumption), (by first | rfl | assumption), (by first | rfl | assumption), (by first | rfl | assumption), (by first | rfl | assumption)⟩, frsh_no⟩
    | 41, _, hoq =>
      obtain rfl : _ = o := Option.some.inj hoq
      have hs0 := hs
      replace hB := hB.tr0 hs
      replace hb3 := hb3.tr0 hs
      replace hb4 := hb4.tr0 hs
      replace hb5 := hb5.tr0 hs
      replace hb6 := hb6.tr0 hs
      replace hb7 := hb7.tr0 hs
      replace hb8 := hb8.tr0 hs
      clear hs
      have d37 : ∃ x0 x1 x2 x3 x4 x5, gg 61 = .agg #[x0, x1, x2, x3, x4, x5] ∧ x0.oneCell' = true ∧ x1.oneCell' = true ∧ x2.oneCell' = true ∧ x3.oneCell' = true ∧ x4.oneCell' = true ∧ x5.oneCell' = true := hd 37 (dep_of (by kernel_rfl))
      obtain ⟨q61_0, q61_1, q61_2, q61_3, q61_4, q61_5, e61, hq61_0, hq61_1, hq61_2, hq61_3, hq61_4, hq61_5⟩ := d37
      have d40 : ∃ x0 x1 x2 x3 x4 x5, gg 64 = .agg #[x0, x1, x2, x3, x4, x5] ∧ x0.oneCell' = true ∧ x1.oneCell' = true ∧ x2.oneCell' = true ∧ x3.oneCell' = true ∧ x4.oneCell' = true ∧ x5.oneCell' = true := hd 40 (dep_of (by kernel_rfl))
      obtain ⟨q64_0, q64_1, q64_2, q64_3, q64_4, q64_5, e64, hq64_0, hq64_1, hq64_2, hq64_3, hq64_4, hq64_5⟩ := d40
      refine os_know 61 (.agg #[q61_0, q61_1, q61_2, q61_3, q61_4, q61_5]) e61 (by simp [undef]) ?_
      refine os_know 64 (.agg #[q64_0, q64_1, q64_2, q64_3, q64_4, q64_5]) e64 (by simp [undef]) ?_
      refine os_cl fn33 (app_any _ _ _ _ _ _ _ _ _ _ _ _ (by first | rfl | assumption) (by first | rfl | assumption) (by first | rfl | assumption) (by first | rfl | assumption) (by first | rfl | assumption) (by first | rfl | assumption) (by first | rfl | assumption) (by first | rfl | assumption) (by first | rfl | assumption) (by first | rfl | assumption) (by first | rfl | assumption) (by first | rfl | assumption) wx) rfl (fun e' w2 hr => ?_)
      obtain ⟨⟨q65_0, q65_1, q65_2, q65_3, q65_4, q65_5, rfl, hq65_0, hq65_1, hq65_2, hq65_3, hq65_4, hq65_5⟩, hs⟩ := hr
      exact ⟨_, rfl, Same.of_bel hs, ⟨_, _, _, _, _, _, rfl, (by first | rfl | assumption), (by first | rfl | assumption), (by first | rfl | assumption), (by first | rfl | assumption), (by first | rfl | assumption), (by first | rfl | assumption)⟩, frsh_no⟩
    | 42, _, hoq =>
      obtain rfl : _ = o := Option.some.inj hoq
      have hs0 := hs
      replace hB := hB.tr0 hs
      replace hb3 := hb3.tr0 hs
      replace hb4 := hb4.tr0 hs
      replace hb5 := hb5.tr0 hs
      replace hb6 := hb6.tr0 hs
      replace hb7 := hb7.tr0 hs
      replace hb8 := hb8.tr0 hs
      clear hs
      have d36 : ∃ x0 x1, gg 60 = .agg #[x0, x1] ∧ x0.oneCell' = true ∧ x1.oneCell' = true := hd 36 (dep_of (by kernel_rfl))
      obtain ⟨q60_0, q60_1, e60, hq60_0, hq60_1⟩ := d36
      have d41 : ∃ x0 x1 x2 x3 x4 x5, gg 65 = .agg #[x0, x1, x2, x3, x4, x5] ∧ x0.oneCell' = true ∧ x1.oneCell' = true ∧ x2.oneCell' = true ∧ x3.oneCell' = true ∧ x4.oneCell' = true ∧ x5.oneCell' = true := hd 41 (dep_of (by kernel_rfl))
      obtain ⟨q65_0, q65_1, q65_2, q65_3, q65_4, q65_5, e65, hq65_0, hq65_1, hq65_2, hq65_3, hq65_4, hq65_5⟩ := d41
      refine os_know 60 (.agg #[q60_0, q60_1]) e60 (by simp [undef]) ?_
      refine os_know 65 (.agg #[q65_0, q65_1, q65_2, q65_3, q65_4, q65_5]) e65 (by simp [undef]) ?_
      refine os_cl fn32 (abs_any _ _ _ _ _ _ _ _ (by first | rfl | assumption) (by first | rfl | assumption) (by first | rfl | assumption) (by first | rfl | assumption) (by first | rfl | assumption) (by first | rfl | assumption) (by first | rfl | assumption) (by first | rfl | assumption) wx) rfl (fun e' w2 hr => ?_)
      obtain ⟨⟨q66_0, q66_1, q66_2, q66_3, q66_4, q66_5, rfl, hq66_0, hq66_1, hq66_2, hq66_3, hq66_4, hq66_5⟩, hs⟩ := hr
      exact ⟨_, rfl, Same.of_bel hs, ⟨_, _, _, _, _, _, rfl, (by first | rfl | assumption), (by first | rfl | assumption), (by first | rfl | assumption), (by first | rfl | assumption), (by first | rfl | assumption), (by first | rfl | assumption)⟩, frsh_no⟩
    | 43, _, hoq =>
      obtain rfl : _ = o := Option.some.inj hoq
      have hs0 := hs
      replace hB := hB.tr0 hs
      replace hb3 := hb3.tr0 hs
      replace hb4 := hb4.tr0 hs
      replace hb5 := hb5.tr0 hs
      replace hb6 := hb6.tr0 hs
      replace hb7 := hb7.tr0 hs
      replace hb8 := hb8.tr0 hs
      clear hs
      have d35 : ∃ x0 x1, gg 59 = .agg #[x0, x1] ∧ x0.oneCell' = true ∧ x1.oneCell' = true := hd 35 (dep_of (by kernel_rfl))
      obtain ⟨q59_0, q59_1, e59, hq59_0, hq59_1⟩ := d35
      have d42 : ∃ x0 x1 x2 x3 x4 x5, gg 66 = .agg #[x0, x1, x2, x3, x4, x5] ∧ x0.oneCell' = true ∧ x1.oneCell' = true ∧ x2.oneCell' = true ∧ x3.oneCell' = true ∧ x4.oneCell' = true ∧ x5.oneCell' = true := hd 42 (dep_of (by kernel_rfl))
      obtain ⟨q66_0, q66_1, q66_2, q66_3, q66_4, q66_5, e66, hq66_0, hq66_1, hq66_2, hq66_3, hq66_4, hq66_5⟩ := d42
      refine os_know 59 (.agg #[q59_0, q59_1]) e59 (by simp [undef]) ?_
      refine os_know 66 (.agg #[q66_0, q66_1, q66_2, q66_3, q66_4, q66_5]) e66 (by simp [undef]) ?_
      refine os_cl fn32 (abs_any _ _ _ _ _ _ _ _ (by first | rfl | assumption) (by first | rfl | assumption) (by first | rfl | assumption) (by first | rfl | assumption) (by first | rfl | assumption) (by first | rfl | assumption) (by first | rfl | assumption) (by first | rfl | assumption) wx) rfl (fun e' w2 hr => ?_)
      obtain ⟨⟨q67_0, q67_1, q67_2, q67_3, q67_4, q67_5, rfl, hq67_0, hq67_1, hq67_2, hq67_3, hq67_4, hq67_5⟩, hs⟩ := hr
      exact ⟨_, rfl, Same.of_bel hs, ⟨_, _, _, _, _, _, rfl, (by first | rfl | assumption), (by first | rfl | assumption), (by first | rfl | assumption), (by first | rfl | assumption), (by first | rfl | assumption), (by first | rfl | assumption)⟩, frsh_no⟩
    | 44, _, hoq =>
      obtain rfl : _ = o := Option.some.inj hoq
      have hs0 := hs
      replace hB := hB.tr0 hs
      replace hb3 := hb3.tr0 hs
      replace hb4 := hb4.tr0 hs
      replace hb5 := hb5.tr0 hs
      replace hb6 := hb6.tr0 hs
      replace hb7 := hb7.tr0 hs
      replace hb8 := hb8.tr0 hs
      clear hs
      have d34 : ∃ x0 x1, gg 58 = .agg #[x0, x1] ∧ x0.oneCell' = true ∧ x1.oneCell' = true := hd 34 (dep_of (by kernel_rfl))
      obtain ⟨q58_0, q58_1, e58, hq58_0, hq58_1⟩ := d34
      have d43 : ∃ x0 x1 x2 x3 x4 x5, gg 67 = .agg #[x0, x1, x2, x3, x4, x5] ∧ x0.oneCell' = true ∧ x1.oneCell' = true ∧ x2.oneCell' = true ∧ x3.oneCell' = true ∧ x4.oneCell' = true ∧ x5.oneCell' = true := hd 43 (dep_of (by kernel_rfl))
      obtain ⟨q67_0, q67_1, q67_2, q67_3, q67_4, q67_5, e67, hq67_0, hq67_1, hq67_2, hq67_3, hq67_4, hq67_5⟩ := d43
      refine os_know 58 (.agg #[q58_0, q58_1]) e58 (by simp [undef]) ?_
      refine os_know 67 (.agg #[q67_0, q67_1, q67_2, q67_3, q67_4, q67_5]) e67 (by simp [undef]) ?_
      refine os_cl fn32 (abs_any _ _ _ _ _ _ _ _ (by first | rfl | assumption) (by first | rfl | assumption) (by first | rfl | assumption) (by first | rfl | assumption) (by first | rfl | assumption) (by first | rfl | assumption) (by first | rfl | assumption) (by first | rfl | assumption) wx) rfl (fun e' w2 hr => ?_)
      obtain ⟨⟨q68_0, q68_1, q68_2, q68_3, q68_4, q68_5, rfl, hq68_0, hq68_1, hq68_2, hq68_3, hq68_4, hq68_5⟩, hs⟩ := hr
      exact ⟨_, rfl, Same.of_bel hs, ⟨_, _, _, _, _, _, rfl, (by first | rfl | assumption), (by first | rfl | assumption), (by first | rfl | assumption), (by first | rfl | assumption), (by first | rfl | assumption), (by first | rfl | assumption)⟩, frsh_no⟩
    | 45, _, hoq =>
      obtain rfl : _ = o := Option.some.inj hoq
      have hs0 := hs
      replace hB := hB.tr0 hs
      replace hb3 := hb3.tr0 hs
      replace hb4 := hb4.tr0 hs
      replace hb5 := hb5.tr0 hs
      replace hb6 := hb6.tr0 hs
      replace hb7 := hb7.tr0 hs
      replace hb8 := hb8.tr0 hs
      clear hs
      refine os_rv (r_ldS Tryd.underlying70 rfl rfl hb6.range0 sz70) ⟨Same.refl _ _, ?_, frsh_no⟩
      exact ⟨_, _, rfl, (by first | rfl | assumption), (by first | rfl | assumption)⟩
    | 46, _, hoq =>
      obtain rfl : _ = o := Option.some.inj hoq
      have hs0 := hs
      replace hB := hB.tr0 hs
      replace hb3 := hb3.tr0 hs
      replace hb4 := hb4.tr0 hs
      replace hb5 := hb5.tr0 hs
      replace hb6 := hb6.tr0 hs
      replace hb7 := hb7.tr0 hs
      replace hb8 := hb8.tr0 hs
      clear hs
      refine os_rv (r_ldS Tryd.underlying70 rfl rfl hb4.range0 sz70) ⟨Same.refl _ _, ?_, frsh_no⟩
      exact ⟨_, _, rfl, (by first | rfl | assumption), (by first | rfl | assumption)⟩
    | 47, _, hoq =>
      obtain rfl : _ = o := Option.some.inj hoq
      have hs0 := hs
      replace hB := hB.tr0 hs
      replace hb3 := hb3.tr0 hs
      replace hb4 := hb4.tr0 hs
      replace hb5 := hb5.tr0 hs
      replace hb6 := hb6.tr0 hs
      replace hb7 := hb7.tr0 hs
      replace hb8 := hb8.tr0 hs
      clear hs
      refine os_rv (r_ldS Tryd.underlying70 rfl rfl hb4.range0 sz70) ⟨Same.refl _ _, ?_, frsh_no⟩
      exact ⟨_, _, rfl, (by first | rfl | assumption), (by first | rfl | assumption)⟩
    | 48, _, hoq =>
      obtain rfl : _ = o := Option.some.inj hoq
      have hs0 := hs
      replace hB := hB.tr0 hs
      replace hb3 := hb3.tr0 hs
      replace hb4 := hb4.tr0 hs
      replace hb5 := hb5.tr0 hs
      replace hb6 := hb6.tr0 hs
      replace hb7 := hb7.tr0 hs
      replace hb8 := hb8.tr0 hs
      clear hs
      refine os_rv (r_ldS Tryd.underlying70 rfl rfl hb4.range0 sz70) ⟨Same.refl _ _, ?_, frsh_no⟩
      exact ⟨_, _, rfl, (by first | rfl | assumption), (by first | rfl | assumption)⟩
    | 49, _, hoq =>
      obtain rfl : _ = o := Option.some.inj hoq
      have hs0 := hs
      replace hB := hB.tr0 hs
      replace hb3 := hb3.tr0 hs
      replace hb4 := hb4.tr0 hs
      replace hb5 := hb5.tr0 hs
      replace hb6 := hb6.tr0 hs
      replace hb7 := hb7.tr0 hs
      replace hb8 := hb8.tr0 hs
      clear hs
      have d47 : ∃ x0 x1, gg 71 = .agg #[x0, x1] ∧ x0.oneCell' = true ∧ x1.oneCell' = true := hd 47 (dep_of (by kernel_rfl))
      obtain ⟨q71_0, q71_1, e71, hq71_0, hq71_1⟩ := d47
      have d48 : ∃ x0 x1, gg 72 = .agg #[x0, x1] ∧ x0.oneCell' = true ∧ x1.oneCell' = true := hd 48 (dep_of (by kernel_rfl))
      obtain ⟨q72_0, q72_1, e72, hq72_0, hq72_1⟩ := d48
      refine os_know 71 (.agg #[q71_0, q71_1]) e71 (by simp [undef]) ?_
      refine os_know 72 (.agg #[q72_0, q72_1]) e72 (by simp [undef]) ?_
      refine os_cl fn25 (fun_any _ _ _ _ (by first | rfl | assumption) (by first | rfl | assumption) (by first | rfl | assumption) (by first | rfl | assumption) wx) rfl (fun e' w2 hr => ?_)
      obtain ⟨⟨q73_0, q73_1, rfl, hq73_0, hq73_1⟩, hs⟩ := hr
      exact ⟨_, rfl, Same.of_bel hs, ⟨_, _, rfl, (by first | rfl | assumption), (by first | rfl | assumption)⟩, frsh_no⟩
    | 50, _, hoq =>
      obtain rfl : _ = o := Option.some.inj hoq
      have hs0 := hs
      replace hB := hB.tr0 hs
      replace hb3 := hb3.tr0 hs
      replace hb4 := hb4.tr0 hs
      replace hb5 := hb5.tr0 hs
      replace hb6 := hb6.tr0 hs
      replace hb7 := hb7.tr0 hs
      replace hb8 := hb8.tr0 hs
      clear hs
      have d46 : ∃ x0 x1, gg 70 = .agg #[x0, x1] ∧ x0.oneCell' = true ∧ x1.oneCell' = true := hd 46 (dep_of (by kernel_rfl))
      obtain ⟨q70_0, q70_1, e70, hq70_0, hq70_1⟩ := d46
      have d49 : ∃ x0 x1, gg 73 = .agg #[x0, x1] ∧ x0.oneCell' = true ∧ x1.oneCell' = true := hd 49 (dep_of (by kernel_rfl))
      obtain ⟨q73_0, q73_1, e73, hq73_0, hq73_1⟩ := d49
      refine os_know 70 (.agg #[q70_0, q70_1]) e70 (by simp [undef]) ?_
      refine os_know 73 (.agg #[q73_0, q73_1]) e73 (by simp [undef]) ?_
      refine os_cl fn25 (fun_any _ _ _ _ (by first | rfl | assumption) (by first | rfl | assumption) (by first | rfl | assumption) (by first | rfl | assumption) wx) rfl (fun e' w2 hr => ?_)
      obtain ⟨⟨q74_0, q74_1, rfl, hq74_0, hq74_1⟩, hs⟩ := hr
      exact ⟨_, rfl, Same.of_bel hs, ⟨_, _, rfl, (by first | rfl | assumption), (by first | rfl | assumption)⟩, frsh_no⟩
    | 51, _, hoq =>
      obtain rfl : _ = o := Option.some.inj hoq
      have hs0 := hs
      replace hB := hB.tr0 hs
      replace hb3 := hb3.tr0 hs
      replace hb4 := hb4.tr0 hs
      replace hb5 := hb5.tr0 hs
      replace hb6 := hb6.tr0 hs
      replace hb7 := hb7.tr0 hs
      replace hb8 := hb8.tr0 hs
      clear hs
      refine os_rv (r_ldS Tryd.underlying70 rfl rfl hb6.range0 sz70) ⟨Same.refl _ _, ?_, frsh_no⟩
      exact ⟨_, _, rfl, (by first | rfl | assumption), (by first | rfl | assumption)⟩
    | 52, _, hoq =>
      obtain rfl : _ = o := Option.some.inj hoq
      have hs0 := hs
      replace hB := hB.tr0 hs
      replace hb3 := hb3.tr0 hs
      replace hb4 := hb4.tr0 hs
      replace hb5 := hb5.tr0 hs
      replace hb6 := hb6.tr0 hs
      replace hb7 := hb7.tr0 hs
      replace hb8 := hb8.tr0 hs
      clear hs
      refine os_rv (r_ldS Tryd.underlying70 rfl rfl hb5.range0 sz70) ⟨Same.refl _ _, ?_, frsh_no⟩
      exact ⟨_, _, rfl, (by first | rfl | assumption), (by first | rfl | assumption)⟩
    | 53, _, hoq =>
      obtain rfl : _ = o := Option.some.inj hoq
      have hs0 := hs
      replace hB := hB.tr0 hs
      replace hb3 := hb3.tr0 hs
      replace hb4 := hb4.tr0 hs
      replace hb5 := hb5.tr0 hs
      replace hb6 := hb6.tr0 hs
      replace hb7 := hb7.tr0 hs
      replace hb8 := hb8.tr0 hs
      clear hs
      refine os_cl fn34 (bound_any _  wx) rfl (fun e' w2 hr => ?_)
      obtain ⟨⟨q77_0, q77_1, q77_2, q77_3, q77_4, q77_5, rfl, hq77_0, hq77_1, hq77_2, hq77_3, hq77_4, hq77_5⟩, hs⟩ := hr
      exact ⟨_, rfl, Same.of_bel hs, ⟨_, _, _, _, _, _, rfl, (by first | rfl | assumption), (by first | rfl | assumption), (by first | rfl | assumption), (by first | rfl | assumption), (by first | rfl | assumption), (by first | rfl | assumption)⟩, frsh_no⟩
    | 54, _, hoq =>
      obtain rfl : _ = o := Option.some.inj hoq
      have hs0 := hs
      replace hB := hB.tr0 hs
      replace hb3 := hb3.tr0 hs
      replace hb4 := hb4.tr0 hs
      replace hb5 := hb5.tr0 hs
      replace hb6 := hb6.tr0 hs
      replace hb7 := hb7.tr0 hs
      replace hb8 := hb8.tr0 hs
      clear hs
      refine os_cl fn34 (bound_any _  wx) rfl (fun e' w2 hr => ?_)
      obtain ⟨⟨q78_0, q78_1, q78_2, q78_3, q78_4, q78_5, rfl, hq78_0, hq78_1, hq78_2, hq78_3, hq78_4, hq78_5⟩, hs⟩ := hr
      exact ⟨_, rfl, Same.of_bel hs, ⟨_, _, _, _, _, _, rfl, (by first | rfl | assumption), (by first | rfl | assumption), (by first | rfl | assumption), (by first | rfl | assumption), (by first | rfl | assumption), (by first | rfl | assumption)⟩, frsh_no⟩
    | 55, _, hoq =>
      obtain rfl : _ = o := Option.some.inj hoq
      have hs0 := hs
      replace hB := hB.tr0 hs
      replace hb3 := hb3.tr0 hs
      replace hb4 := hb4.tr0 hs
      replace hb5 := hb5.tr0 hs
      replace hb6 := hb6.tr0 hs
      replace hb7 := hb7.tr0 hs
      replace hb8 := hb8.tr0 hs
      clear hs
      refine os_cl fn34 (bound_any _  wx) rfl (fun e' w2 hr => ?_)
      obtain ⟨⟨q79_0, q79_1, q79_2, q79_3, q79_4, q79_5, rfl, hq79_0, hq79_1, hq79_2, hq79_3, hq79_4, hq79_5⟩, hs⟩ := hr
      exact ⟨_, rfl, Same.of_bel hs, ⟨_, _, _, _, _, _, rfl, (by first | rfl | assumption), (by first | rfl | assumption), (by first | rfl | assumption), (by first | rfl | assumption), (by first | rfl | assumption), (by first | rfl | assumption)⟩, frsh_no⟩
    | 56, _, hoq =>
      obtain rfl : _ = o := Option.some.inj hoq
      have hs0 := hs
      replace hB := hB.tr0 hs
      replace hb3 := hb3.tr0 hs
      replace hb4 := hb4.tr0 hs
      replace hb5 := hb5.tr0 hs
      replace hb6 := hb6.tr0 hs
      replace hb7 := hb7.tr0 hs
      replace hb8 := hb8.tr0 hs
      clear hs
      have d54 : ∃ x0 x1 x2 x3 x4 x5, gg 78 = .agg #[x0, x1, x2, x3, x4, x5] ∧ x0.oneCell' = true ∧ x1.oneCell' = true ∧ x2.oneCell' = true ∧ x3.oneCell' = true ∧ x4.oneCell' = true ∧ x5.oneCell' = true := hd 54 (dep_of (by kernel_rfl))
      obtain ⟨q78_0, q78_1, q78_2, q78_3, q78_4, q78_5, e78, hq78_0, hq78_1, hq78_2, hq78_3, hq78_4, hq78_5⟩ := d54
      have d55 : ∃ x0 x1 x2 x3 x4 x5, gg 79 = .agg #[x0, x1, x2, x3, x4, x5] ∧ x0.oneCell' = true ∧ x1.oneCell' = true ∧ x2.oneCell' = true ∧ x3.oneCell' = true ∧ x4.oneCell' = true ∧ x5.oneCell' = true := hd 55 (dep_of (by kernel_rfl))
      obtain ⟨q79_0, q79_1, q79_2, q79_3, q79_4, q79_5, e79, hq79_0, hq79_1, hq79_2, hq79_3, hq79_4, hq79_5⟩ := d55
      refine os_know 78 (.agg #[q78_0, q78_1, q78_2, q78_3, q78_4, q78_5]) e78 (by simp [undef]) ?_
      refine os_know 79 (.agg #[q79_0, q79_1, q79_2, q79_3, q79_4, q79_5]) e79 (by simp [undef]) ?_
      refine os_cl fn33 (app_any _ _ _ _ _ _ _ _ _ _ _ _ (by first | rfl | assumption) (by first | rfl | assumption) (by first | rfl | assumption) (by first | rfl | assumption) (by first | rfl | assumption) (by first | rfl | assumption) (by first | rfl | assumption) (by first | rfl | assumption) (by first | rfl | assumption) (by first | rfl | assumption) (by first | rfl | assumption) (by first | rfl | assumption) wx) rfl (fun e' w2 hr => ?_)
      obtain ⟨⟨q80_0, q80_1, q80_2, q80_3, q80_4, q80_5, rfl, hq80_0, hq80_1, hq80_2, hq80_3, hq80_4, hq80_5⟩, hs⟩ := hr
      exact ⟨_, rfl, Same.of_bel hs, ⟨_, _, _, _, _, _, rfl, (by first | rfl | assumption), (by first | rfl | assumption), (by first | rfl | assumption), (by first | rfl | assumption), (by first | rfl | assumption), (by first | rfl | assumption)⟩, frsh_no⟩
    | 57, _, hoq =>
      obtain rfl : _ = o := Option.some.inj hoq
      have hs0 := hs
      replace hB := hB.tr0 hs
      replace hb3 := hb3.tr0 hs
      replace hb4 := hb4.tr0 hs
      replace hb5 := hb5.tr0 hs
      replace hb6 := hb6.tr0 hs
      replace hb7 := hb7.tr0 hs
      replace hb8 := hb8.tr0 hs
      clear hs
      have d53 : ∃ x0 x1 x2 x3 x4 x5, gg 77 = .agg #[x0, x1, x2, x3, x4, x5] ∧ x0.oneCell' = true ∧ x1.oneCell' = true ∧ x2.oneCell' = true ∧ x3.oneCell' = true ∧ x4.oneCell' = true ∧ x5.oneCell' = true := hd 53 (dep_of (by kernel_rfl))
      obtain ⟨q77_0, q77_1, q77_2, q77_3, q77_4, q77_5, e77, hq77_0, hq77_1, hq77_2, hq77_3, hq77_4, hq77_5⟩ := d53
      have d56 : ∃ x0 x1 x2 x3 x4 x5, gg 80 = .agg #[x0, x1, x2, x3, x4, x5] ∧ x0.oneCell' = true ∧ x1.oneCell' = true ∧ x2.oneCell' = true ∧ x3.oneCell' = true ∧ x4.oneCell' = true ∧ x5.oneCell' = true := hd 56 (dep_of (by kernel_rfl))
      obtain ⟨q80_0, q80_1, q80_2, q80_3, q80_4, q80_5, e80, hq80_0, hq80_1, hq80_2, hq80_3, hq80_4, hq80_5⟩ := d56
      refine os_know 77 (.agg #[q77_0, q77_1, q77_2, q77_3, q77_4, q77_5]) e77 (by simp [undef]) ?_
      refine os_know 80 (.agg #[q80_0, q80_1, q80_2, q80_3, q80_4, q80_5]) e80 (by simp [undef]) ?_
      refine os_cl fn33 (app_any _ _ _ _ _ _ _ _ _ _ _ _ (by first | rfl | assumption) (by first | rfl | assumption) (by first | rfl | assumption) (by first | rfl | assumption) (by first | rfl | assumption) (by first | rfl | assumption) (by first | rfl | assumption) (by first | rfl | assumption) (by first | rfl | assumption) (by first | rfl | assumption) (by first | rfl | assumption) (by first | rfl | assumption) wx) rfl (fun e' w2 hr => ?_)
      obtain ⟨⟨q81_0, q81_1, q81_2, q81_3, q81_4, q81_5, rfl, hq81_0, hq81_1, hq81_2, hq81_3, hq81_4, hq81_5⟩, hs⟩ := hr
      exact ⟨_, rfl, Same.of_bel hs, ⟨_, _, _, _, _, _, rfl, (by first | rfl | assumption), (by first | rfl | assumption), (by first | rfl | assumption), (by first | rfl | assumption), (by first | rfl | assumption), (by first | rfl | assumption)⟩, frsh_no⟩
    | 58, _, hoq =>
      obtain rfl : _ = o := Option.some.inj hoq
      have hs0 := hs
      replace hB := hB.tr0 hs
      replace hb3 := hb3.tr0 hs
      replace hb4 := hb4.tr0 hs
      replace hb5 := hb5.tr0 hs
      replace hb6 := hb6.tr0 hs
      replace hb7 := hb7.tr0 hs
      replace hb8 := hb8.tr0 hs
      clear hs
      refine os_cl fn34 (bound_any _  wx) rfl (fun e' w2 hr => ?_)
      obtain ⟨⟨q82_0, q82_1, q82_2, q82_3, q82_4, q82_5, rfl, hq82_0, hq82_1, hq82_2, hq82_3, hq82_4, hq82_5⟩, hs⟩ := hr
      exact ⟨_, rfl, Same.of_bel hs, ⟨_, _, _, _, _, _, rfl, (by first | rfl | assumption), (by first | rfl | assumption), (by first | rfl | assumption), (by first | rfl | assumption), (by first | rfl | assumption), (by first | rfl | assumption)⟩, frsh_no⟩
    | 59, _, hoq =>
      obtain rfl : _ = o := Option.some.inj hoq
      have hs0 := hs
      replace hB := hB.tr0 hs
      replace hb3 := hb3.tr0 hs
      replace hb4 := hb4.tr0 hs
      replace hb5 := hb5.tr0 hs
      replace hb6 := hb6.tr0 hs
      replace hb7 := hb7.tr0 hs
      replace hb8 := hb8.tr0 hs
      clear hs
      refine os_cl fn34 (bound_any _  wx) rfl (fun e' w2 hr => ?_)
      obtain ⟨⟨q83_0, q83_1, q83_2, q83_3, q83_4, q83_5, rfl, hq83_0, hq83_1, hq83_2, hq83_3, hq83_4, hq83_5⟩, hs⟩ := hr
      exact ⟨_, rfl, Same.of_bel hs, ⟨_, _, _, _, _, _, rfl, (by first | rfl | assumption), (by first | rfl | assumption), (by first | rfl | assumption), (by first | rfl | assumption), (by first | rfl | assumption), (by first | rfl | assumption)⟩, frsh_no⟩
    | 60, _, hoq =>
      obtain rfl : _ = o := Option.some.inj hoq
      have hs0 := hs
      replace hB := hB.tr0 hs
      replace hb3 := hb3.tr0 hs
      replace hb4 := hb4.tr0 hs
      replace hb5 := hb5.tr0 hs
      replace hb6 := hb6.tr0 hs
      replace hb7 := hb7.tr0 hs
      replace hb8 := hb8.tr0 hs
      clear hs
      have d58 : ∃ x0 x1 x2 x3 x4 x5, gg 82 = .agg #[x0, x1, x2, x3, x4, x5] ∧ x0.oneCell' = true ∧ x1.oneCell' = true ∧ x2.oneCell' = true ∧ x3.oneCell' = true ∧ x4.oneCell' = true ∧ x5.oneCell' = true := hd 58 (dep_of (by kernel_rfl))
      obtain ⟨q82_0, q82_1, q82_2, q82_3, q82_4, q82_5, e82, hq82_0, hq82_1, hq82_2, hq82_3, hq82_4, hq82_5⟩ := d58
      have d59 : ∃ x0 x1 x2 x3 x4 x5, gg 83 = .agg #[x0, x1, x2, x3, x4, x5] ∧ x0.oneCell' = true ∧ x1.oneCell' = true ∧ x2.oneCell' = true ∧ x3.oneCell' = true ∧ x4.oneCell' = true ∧ x5.oneCell' = true := hd 59 (dep_of (by kernel_rfl))
      obtain ⟨q83_0, q83_1, q83_2, q83_3, q83_4, q83_5, e83, hq83_0, hq83_1, hq83_2, hq83_3, hq83_4, hq83_5⟩ := d59
      refine os_know 82 (.agg #[q82_0, q82_1, q82_2, q82_3, q82_4, q82_5]) e82 (by simp [undef]) ?_
      refine os_know 83 (.agg #[q83_0, q83_1, q83_2, q83_3, q83_4, q83_5]) e83 (by simp [undef]) ?_
      refine os_cl fn33 (app_any _ _ _ _ _ _ _ _ _ _ _ _ (by first | rfl | assumption) (by first | rfl | assumption) (by first | rfl | assumption) (by first | rfl | assumption) (by first | rfl | assumption) (by first | rfl | assumption) (by first | rfl | assumption) (by first | rfl | assumption) (by first | rfl | assumption) (by first | rfl | assumption) (by first | rfl | assumption) (by first | rfl | assumption) wx) rfl (fun e' w2 hr => ?_)
      obtain ⟨⟨q84_0, q84_1, q84_2, q84_3, q84_4, q84_5, rfl, hq84_0, hq84_1, hq84_2, hq84_3, hq84_4, hq84_5⟩, hs⟩ := hr
      exact ⟨_, rfl, Same.of_bel hs, ⟨_, _, _, _, _, _, rfl, (by first | rfl | assumption), (by first | rfl | assumption), (by first | rfl | assumption), (by first | rfl | assumption), (by first | rfl | assumption), (by first | rfl | assumption)⟩, frsh_no⟩
    | 61, _, hoq =>
      obtain rfl : _ = o := Option.some.inj hoq
      have hs0 := hs
      replace hB := hB.tr0 hs
      replace hb3 := hb3.tr0 hs
      replace hb4 := hb4.tr0 hs
      replace hb5 := hb5.tr0 hs
      replace hb6 := hb6.tr0 hs
      replace hb7 := hb7.tr0 hs
      replace hb8 := hb8.tr0 hs
      clear hs
      have d57 : ∃ x0 x1 x2 x3 x4 x5, gg 81 = .agg #[x0, x1, x2, x3, x4, x5] ∧ x0.oneCell' = true ∧ x1.oneCell' = true ∧ x2.oneCell' = true ∧ x3.oneCell' = true ∧ x4.oneCell' = true ∧ x5.oneCell' = true := hd 57 (dep_of (by kernel_rfl))
      obtain ⟨q81_0, q81_1, q81_2, q81_3, q81_4, q81_5, e81, hq81_0, hq81_1, hq81_2, hq81_3, hq81_4, hq81_5⟩ := d57
      have d60 : ∃ x0 x1 x2 x3 x4 x5, gg 84 = .agg #[x0, x1, x2, x3, x4, x5] ∧ x0.oneCell' = true ∧ x1.oneCell' = true ∧ x2.oneCell' = true ∧ x3.oneCell' = true ∧ x4.oneCell' = true ∧ x5.oneCell' = true := hd 60 (dep_of (by kernel_rfl))
      obtain ⟨q84_0, q84_1, q84_2, q84_3, q84_4, q84_5, e84, hq84_0, hq84_1, hq84_2, hq84_3, hq84_4, hq84_5⟩ := d60
      refine os_know 81 (.agg #[q81_0, q81_1, q81_2, q81_3, q81_4, q81_5]) e81 (by simp [undef]) ?_
      refine os_know 84 (.agg #[q84_0, q84_1, q84_2, q84_3, q84_4, q84_5]) e84 (by simp [undef]) ?_
      refine os_cl fn33 (app_any _ _ _ _ _ _ _ _ _ _ _ _ (by first | rfl | assumption) (by first | rfl | assumption) (by first | rfl | assumption) (by first | rfl | assumption) (by first | rfl | assumption) (by first | rfl | assumption) (by first | rfl | assumption) (by first | rfl | assumption) (by first | rfl | assumption) (by first | rfl | assumption) (by first | rfl | assumption) (by first | rfl | assumption) wx) rfl (fun e' w2 hr => ?_)
      obtain ⟨⟨q85_0, q85_1, q85_2, q85_3, q85_4, q85_5, rfl, hq85_0, hq85_1, hq85_2, hq85_3, hq85_4, hq85_5⟩, hs⟩ := hr
      exact ⟨_, rfl, Same.of_bel hs, ⟨_, _, _, _, _, _, rfl, (by first | rfl | assumption), (by first | rfl | assumption), (by first | rfl | assumption), (by first | rfl | assumption), (by first | rfl | assumption), (by first | rfl | assumption)⟩, frsh_no⟩
    | 62, _, hoq =>
      obtain rfl : _ = o := Option.some.inj hoq
      have hs0 := hs
      replace hB := hB.tr0 hs
      replace hb3 := hb3.tr0 hs
      replace hb4 := hb4.tr0 hs
      replace hb5 := hb5.tr0 hs
      replace hb6 := hb6.tr0 hs
      replace hb7 := hb7.tr0 hs
      replace hb8 := hb8.tr0 hs
      clear hs
      have d52 : ∃ x0 x1, gg 76 = .agg #[x0, x1] ∧ x0.oneCell' = true ∧ x1.oneCell' = true := hd 52 (dep_of (by kernel_rfl))
      obtain ⟨q76_0, q76_1, e76, hq76_0, hq76_1⟩ := d52
      have d61 : ∃ x0 x1 x2 x3 x4 x5, gg 85 = .agg #[x0, x1, x2, x3, x4, x5] ∧ x0.oneCell' = true ∧ x1.oneCell' = true ∧ x2.oneCell' = true ∧ x3.oneCell' = true ∧ x4.oneCell' = true ∧ x5.oneCell' = true := hd 61 (dep_of (by kernel_rfl))
      obtain ⟨q85_0, q85_1, q85_2, q85_3, q85_4, q85_5, e85, hq85_0, hq85_1, hq85_2, hq85_3, hq85_4, hq85_5⟩ := d61
      refine os_know 76 (.agg #[q76_0, q76_1]) e76 (by simp [undef]) ?_
      refine os_know 85 (.agg #[q85_0, q85_1, q85_2, q85_3, q85_4, q85_5]) e85 (by simp [undef]) ?_
      refine os_cl fn32 (abs_any _ _ _ _ _ _ _ _ (by first | rfl | assumption) (by first | rfl | assumption) (by first | rfl | assumption) (by first | rfl | assumption) (by first | rfl | assumption) (by first | rfl | assumption) (by first | rfl | assumption) (by first | rfl | assumption) wx) rfl (fun e' w2 hr => ?_)
      obtain ⟨⟨q86_0, q86_1, q86_2, q86_3, q86_4, q86_5, rfl, hq86_0, hq86_1, hq86_2, hq86_3, hq86_4, hq86_5⟩, hs⟩ := hr
      exact ⟨_, rfl, Same.of_bel hs, ⟨_, _, _, _, _, _, rfl, (by first | rfl | assumption), (by first | rfl | assumption), (by first | rfl | assumption), (by first | rfl | assumption), (by first | rfl | assumption), (by first | rfl | assumption)⟩, frsh_no⟩
    | 63, _, hoq =>
      obtain rfl : _ = o := Option.some.inj hoq
      have hs0 := hs
      replace hB := hB.tr0 hs
      replace hb3 := hb3.tr0 hs
      replace hb4 := hb4.tr0 hs
      replace hb5 := hb5.tr0 hs
      replace hb6 := hb6.tr0 hs
      replace hb7 := hb7.tr0 hs
      replace hb8 := hb8.tr0 hs
      clear hs
      have d51 : ∃ x0 x1, gg 75 = .agg #[x0, x1] ∧ x0.oneCell' = true ∧ x1.oneCell' = true := hd 51 (dep_of (by kernel_rfl))
      obtain ⟨q75_0, q75_1, e75, hq75_0, hq75_1⟩ := d51
      have d62 : ∃ x0 x1 x2 x3 x4 x5, gg 86 = .agg #[x0, x1, x2, x3, x4, x5] ∧ x0.oneCell' = true ∧ x1.oneCell' = true ∧ x2.oneCell' = true ∧ x3.oneCell' = true ∧ x4.oneCell' = true ∧ x5.oneCell' = true := hd 62 (dep_of (by kernel_rfl))
      obtain ⟨q86_0, q86_1, q86_2, q86_3, q86_4, q86_5, e86, hq86_0, hq86_1, hq86_2, hq86_3, hq86_4, hq86_5⟩ := d62
      refine os_know 75 (.agg #[q75_0, q75_1]) e75 (by simp [undef]) ?_
      refine os_know 86 (.agg #[q86_0, q86_1, q86_2, q86_3, q86_4, q86_5]) e86 (by simp [undef]) ?_
      refine os_cl fn32 (abs_any _ _ _ _ _ _ _ _ (by first | rfl | assumption) (by first | rfl | assumption) (by first | rfl | assumption) (by first | rfl | assumption) (by first | rfl | assumption) (by first | rfl | assumption) (by first | rfl | assumption) (by first | rfl | assumption) wx) rfl (fun e' w2 hr => ?_)
      obtain ⟨⟨q87_0, q87_1, q87_2, q87_3, q87_4, q87_5, rfl, hq87_0, hq87_1, hq87_2, hq87_3, hq87_4, hq87_5⟩, hs⟩ := hr
      exact ⟨_, rfl, Same.of_bel hs, ⟨_, _, _, _, _, _, rfl, (by first | rfl | assumption), (by first | rfl | assumption), (by first | rfl | assumption), (by first | rfl | assumption), (by first | rfl | assumption), (by first | rfl | assumption)⟩, frsh_no⟩
    | 64, _, hoq =>
      obtain rfl : _ = o := Option.some.inj hoq
      have hs0 := hs
      replace hB := hB.tr0 hs
      replace hb3 := hb3.tr0 hs
      replace hb4 := hb4.tr0 hs
      replace hb5 := hb5.tr0 hs
      replace hb6 := hb6.tr0 hs
      replace hb7 := hb7.tr0 hs
      replace hb8 := hb8.tr0 hs
      clear hs
      have d50 : ∃ x0 x1, gg 74 = .agg #[x0, x1] ∧ x0.oneCell' = true ∧ x1.oneCell' = true := hd 50 (dep_of (by kernel_rfl))
      obtain ⟨q74_0, q74_1, e74, hq74_0, hq74_1⟩ := d50
      have d63 : ∃ x0 x1 x2 x3 x4 x5, gg 87 = .agg #[x0, x1, x2, x3, x4, x5] ∧ x0.oneCell' = true ∧ x1.oneCell' = true ∧ x2.oneCell' = true ∧ x3.oneCell' = true ∧ x4.oneCell' = true ∧ x5.oneCell' = true := hd 63 (dep_of (by kernel_rfl))
      obtain ⟨q87_0, q87_1, q87_2, q87_3, q87_4, q87_5, e87, hq87_0, hq87_1, hq87_2, hq87_3, hq87_4, hq87_5⟩ := d63
      refine os_know 74 (.agg #[q74_0, q74_1]) e74 (by simp [undef]) ?_
      refine os_know 87 (.agg #[q87_0, q87_1, q87_2, q87_3, q87_4, q87_5]) e87 (by simp [undef]) ?_
      refine os_cl fn32 (abs_any _ _ _ _ _ _ _ _ (by first | rfl | assumption) (by first | rfl | assumption) (by first | rfl | assumption) (by first | rfl | assumption) (by first | rfl | assumption) (by first | rfl | assumption) (by first | rfl | assumption) (by first | rfl | assumption) wx) rfl (fun e' w2 hr => ?_)
      obtain ⟨⟨q88_0, q88_1, q88_2, q88_3, q88_4, q88_5, rfl, hq88_0, hq88_1, hq88_2, hq88_3, hq88_4, hq88_5⟩, hs⟩ := hr
      exact ⟨_, rfl, Same.of_bel hs, ⟨_, _, _, _, _, _, rfl, (by first | rfl | assumption), (by first | rfl | assumption), (by first | rfl | assumption), (by first | rfl | assumption), (by first | rfl | assumption), (by first | rfl | assumption)⟩, frsh_no⟩
    | 65, _, hoq =>
      obtain rfl : _ = o := Option.some.inj hoq
      have hs0 := hs
      replace hB := hB.tr0 hs
      replace hb3 := hb3.tr0 hs
      replace hb4 := hb4.tr0 hs
      replace hb5 := hb5.tr0 hs
      replace hb6 := hb6.tr0 hs
      replace hb7 := hb7.tr0 hs
      replace hb8 := hb8.tr0 hs
      clear hs
      have d45 : ∃ x0 x1, gg 69 = .agg #[x0, x1] ∧ x0.oneCell' = true ∧ x1.oneCell' = true := hd 45 (dep_of (by kernel_rfl))
      obtain ⟨q69_0, q69_1, e69, hq69_0, hq69_1⟩ := d45
      have d64 : ∃ x0 x1 x2 x3 x4 x5, gg 88 = .agg #[x0, x1, x2, x3, x4, x5] ∧ x0.oneCell' = true ∧ x1.oneCell' = true ∧ x2.oneCell' = true ∧ x3.oneCell' = true ∧ x4.oneCell' = true ∧ x5.oneCell' = true := hd 64 (dep_of (by kernel_rfl))
      obtain ⟨q88_0, q88_1, q88_2, q88_3, q88_4, q88_5, e88, hq88_0, hq88_1, hq88_2, hq88_3, hq88_4, hq88_5⟩ := d64
      refine os_know 69 (.agg #[q69_0, q69_1]) e69 (by simp [undef]) ?_
      refine os_know 88 (.agg #[q88_0, q88_1, q88_2, q88_3, q88_4, q88_5]) e88 (by simp [undef]) ?_
      refine os_cl fn32 (abs_any _ _ _ _ _ _ _ _ (by first | rfl | assumption) (by first | rfl | assumption) (by first | rfl | assumption) (by first | rfl | assumption) (by first | rfl | assumption) (by first | rfl | assumption) (by first | rfl | assumption) (by first | rfl | assumption) wx) rfl (fun e' w2 hr => ?_)
      obtain ⟨⟨q89_0, q89_1, q89_2, q89_3, q89_4, q89_5, rfl, hq89_0, hq89_1, hq89_2, hq89_3, hq89_4, hq89_5⟩, hs⟩ := hr
      exact ⟨_, rfl, Same.of_bel hs, ⟨_, _, _, _, _, _, rfl, (by first | rfl | assumption), (by first | rfl | assumption), (by first | rfl | assumption), (by first | rfl | assumption), (by first | rfl | assumption), (by first | rfl | assumption)⟩, frsh_no⟩
    | 66, _, hoq =>
      obtain rfl : _ = o := Option.some.inj hoq
      have hs0 := hs
      replace hB := hB.tr0 hs
      replace hb3 := hb3.tr0 hs
      replace hb4 := hb4.tr0 hs
      replace hb5 := hb5.tr0 hs
      replace hb6 := hb6.tr0 hs
      replace hb7 := hb7.tr0 hs
      replace hb8 := hb8.tr0 hs
      clear hs
      have d6 : ∃ x0 x1 x2 x3 x4 x5, gg 30 = .agg #[x0, x1, x2, x3, x4, x5] ∧ x0.oneCell' = true ∧ x1.oneCell' = true ∧ x2.oneCell' = true ∧ x3.oneCell' = true ∧ x4.oneCell' = true ∧ x5.oneCell' = true := hd 6 (dep_of (by kernel_rfl))
      obtain ⟨q30_0, q30_1, q30_2, q30_3, q30_4, q30_5, e30, hq30_0, hq30_1, hq30_2, hq30_3, hq30_4, hq30_5⟩ := d6
      have d13 : ∃ x0 x1 x2 x3 x4 x5, gg 37 = .agg #[x0, x1, x2, x3, x4, x5] ∧ x0.oneCell' = true ∧ x1.oneCell' = true ∧ x2.oneCell' = true ∧ x3.oneCell' = true ∧ x4.oneCell' = true ∧ x5.oneCell' = true := hd 13 (dep_of (by kernel_rfl))
      obtain ⟨q37_0, q37_1, q37_2, q37_3, q37_4, q37_5, e37, hq37_0, hq37_1, hq37_2, hq37_3, hq37_4, hq37_5⟩ := d13
      have d16 : ∃ x0 x1 x2 x3 x4 x5, gg 40 = .agg #[x0, x1, x2, x3, x4, x5] ∧ x0.oneCell' = true ∧ x1.oneCell' = true ∧ x2.oneCell' = true ∧ x3.oneCell' = true ∧ x4.oneCell' = true ∧ x5.oneCell' = true := hd 16 (dep_of (by kernel_rfl))
      obtain ⟨q40_0, q40_1, q40_2, q40_3, q40_4, q40_5, e40, hq40_0, hq40_1, hq40_2, hq40_3, hq40_4, hq40_5⟩ := d16
      have d31 : ∃ x0 x1 x2 x3 x4 x5, gg 55 = .agg #[x0, x1, x2, x3, x4, x5] ∧ x0.oneCell' = true ∧ x1.oneCell' = true ∧ x2.oneCell' = true ∧ x3.oneCell' = true ∧ x4.oneCell' = true ∧ x5.oneCell' = true := hd 31 (dep_of (by kernel_rfl))
      obtain ⟨q55_0, q55_1, q55_2, q55_3, q55_4, q55_5, e55, hq55_0, hq55_1, hq55_2, hq55_3, hq55_4, hq55_5⟩ := d31
      have d44 : ∃ x0 x1 x2 x3 x4 x5, gg 68 = .agg #[x0, x1, x2, x3, x4, x5] ∧ x0.oneCell' = true ∧ x1.oneCell' = true ∧ x2.oneCell' = true ∧ x3.oneCell' = true ∧ x4.oneCell' = true ∧ x5.oneCell' = true := hd 44 (dep_of (by kernel_rfl))
      obtain ⟨q68_0, q68_1, q68_2, q68_3, q68_4, q68_5, e68, hq68_0, hq68_1, hq68_2, hq68_3, hq68_4, hq68_5⟩ := d44
      have d65 : ∃ x0 x1 x2 x3 x4 x5, gg 89 = .agg #[x0, x1, x2, x3, x4, x5] ∧ x0.oneCell' = true ∧ x1.oneCell' = true ∧ x2.oneCell' = true ∧ x3.oneCell' = true ∧ x4.oneCell' = true ∧ x5.oneCell' = true := hd 65 (dep_of (by kernel_rfl))
      obtain ⟨q89_0, q89_1, q89_2, q89_3, q89_4, q89_5, e89, hq89_0, hq89_1, hq89_2, hq89_3, hq89_4, hq89_5⟩ := d65
      refine os_know 30 (.agg #[q30_0, q30_1, q30_2, q30_3, q30_4, q30_5]) e30 (by simp [undef]) ?_
      refine os_know 37 (.agg #[q37_0, q37_1, q37_2, q37_3, q37_4, q37_5]) e37 (by simp [undef]) ?_
      refine os_know 40 (.agg #[q40_0, q40_1, q40_2, q40_3, q40_4, q40_5]) e40 (by simp [undef]) ?_
      refine os_know 55 (.agg #[q55_0, q55_1, q55_2, q55_3, q55_4, q55_5]) e55 (by simp [undef]) ?_
      refine os_know 68 (.agg #[q68_0, q68_1, q68_2, q68_3, q68_4, q68_5]) e68 (by simp [undef]) ?_
      refine os_know 89 (.agg #[q89_0, q89_1, q89_2, q89_3, q89_4, q89_5]) e89 (by simp [undef]) ?_
      refine os_wl (fun ops Q K => ?_)
      refine wl_bs (cs := #[_, _, _, _, _, _, _, _, _, _, _, _, _, _, _, _, _, _, _, _, _, _, _, _, _, _, _, _, _, _, _, _, _, _, _, _]) [(0, .agg _), (1, .agg _), (2, .agg _), (3, .agg _), (4, .agg _), (5, .agg _)] rfl Tryd.underlying75 sz78 ze78 (by decide) (by decide) (by kernel_rfl) rfl (fun b90 w19 hb90 hs hr => ?_)
      exact K _ _ ⟨hs, ⟨_, _, rfl, hb90, rfl, (by repeat (first | rfl | refine one_cons (by first | rfl | assumption) ?_))⟩, fun _ g hg => by cases hg; exact ⟨hr, hb90.lt⟩⟩
    | 67, _, hoq =>
      obtain rfl : _ = o := Option.some.inj hoq
      have hs0 := hs
      replace hB := hB.tr0 hs
      replace hb3 := hb3.tr0 hs
      replace hb4 := hb4.tr0 hs
      replace hb5 := hb5.tr0 hs
      replace hb6 := hb6.tr0 hs
      replace hb7 := hb7.tr0 hs
      replace hb8 := hb8.tr0 hs
      clear hs
      have d66 : ∃ b cs, gg 90 = .slice (some ⟨b, 0, none⟩) 6 6 ∧ Blk wx b 78 cs ∧ cs.size = 36 ∧ cs.toList.all (·.oneCell') = true := hd 66 (dep_of (by kernel_rfl))
      obtain ⟨bs90, cs90, e90, hbs90, hsz90, hon90⟩ := d66
      refine os_know 90 (.slice (some ⟨bs90, 0, none⟩) 6 6) e90 (by simp [undef]) ?_
      refine os_rv (r_as (v := .slice _ _ _) rfl) ⟨Same.refl _ _, ?_, frsh_no⟩
      exact ⟨_, _, rfl, hbs90, hsz90, hon90⟩
    | _ + 68, hix, _ => exact absurd hix (by omega)
  · intro gg w20 hs hR hdis
    have hs0 := hs
    replace hB := hB.tr0 hs
    replace hb3 := hb3.tr0 hs
    replace hb4 := hb4.tr0 hs
    replace hb5 := hb5.tr0 hs
    replace hb6 := hb6.tr0 hs
    replace hb7 := hb7.tr0 hs
    replace hb8 := hb8.tr0 hs
    clear hs
    have d67 : ∃ b cs, gg 9 = .slice (some ⟨b, 0, none⟩) 6 6 ∧ Blk w20 b 78 cs ∧ cs.size = 36 ∧ cs.toList.all (·.oneCell') = true := hR 67 (by decide)
    obtain ⟨bs9, cs9, e9, hbs9, hsz9, hon9⟩ := d67
    refine wl_know 9 (.slice (some ⟨bs9, 0, none⟩) 6 6) e9 (by simp [undef]) ?_
    refine x_nil ?_
    refine e_S ?_
    refine c_seq ?_
    refine c_seq ?_
    refine c_region ?_
    refine wl (r_mv (v := .bool _) rfl) ?_
    refine x_nil ?_
    refine e_S ?_
    refine c_if rfl (fun c91 => ?_) (fun c91 => ?_)
    · exact absurd c91 (by decide)
    · skip
      refine c_skip ?_
      refine e_S ?_
      refine c_seq ?_
      refine c_region ?_
      refine wl (r_mv (v := .slice _ _ _) rfl) ?_
      refine wl (r_as (v := .slice _ _ _) rfl) ?_
      refine x_nil ?_
      refine e_S ?_
      refine c_ret ?_
      refine fin1 (.inl rfl) rfl rfl ?_
      exact ⟨⟨_, _, rfl, hbs9, hsz9, hon9⟩, hB⟩
end Go.Proofs.YthhkbhapfcfdjaaDoor
