/- What these functions of the program compute, at every world: glosswright/glosswrightequal.quantified. -/
import Derived.Test.YthhkbhapfcfdjaaDoorShapes
namespace Go.Proofs.YthhkbhapfcfdjaaDoor
open Go.RowKit

theorem fn24 : callable Tryd.prog 24 = true := by kernel_rfl
theorem fn25 : callable Tryd.prog 25 = true := by kernel_rfl
theorem fn31 : callable Tryd.prog 31 = true := by kernel_rfl
theorem fn32 : callable Tryd.prog 32 = true := by kernel_rfl
theorem fn33 : callable Tryd.prog 33 = true := by kernel_rfl
theorem fn34 : callable Tryd.prog 34 = true := by kernel_rfl
theorem quantified_any (s1 s2 : ByteArray) (neg : Bool) (w : World) : Calls Tryd.prog 30 #[.string s1, .string s2, .bool neg] w fun e w' => (∃ p0 p1 p2 p3 p4 p5, e = .returned (.agg #[p0, p1, p2, p3, p4, p5]) ∧ p0.oneCell' = true ∧ p1.oneCell' = true ∧ p2.oneCell' = true ∧ p3.oneCell' = true ∧ p4.oneCell' = true ∧ p5.oneCell' = true) ∧ Bel w w' := by
  refine enter Tryd.func30 Tryd.ntmps30 rfl (Nat.le_of_ble_eq_true rfl) ?_
  have hB : Bel w w := Below.refl _ _
  refine c_seq ?_
  refine c_region ?_
  refine wl_al (cs := #[.int .i64 0, .string ⟨#[]⟩, .int .i64 0, .string ⟨#[]⟩, .slice none 0 0, .slice none 0 0]) ze78 rfl (fun b6 w1 hb6 hs hr => ?_)
  have lo6 := Nat.le_trans (Bel.size hB) hr
  replace hB := hB.tr0 hs
  clear hs
  clear hr
  refine x_nil ?_
  refine e_S ?_
  refine c_seq ?_
  refine c_region ?_
  refine wl_cl fn24 (base_any _ _) rfl (fun e' w2 hr => ?_)
  obtain ⟨rfl, hs⟩ := hr
  replace hs := Same.of_bel hs
  replace hB := hB.tr0 hs
  replace hb6 := hb6.tr0 hs
  clear hs
  refine ⟨_, rfl, ?_⟩
  refine wl_cl fn24 (base_any _ _) rfl (fun e' w3 hr => ?_)
  obtain ⟨rfl, hs⟩ := hr
  replace hs := Same.of_bel hs
  replace hB := hB.tr0 hs
  replace hb6 := hb6.tr0 hs
  clear hs
  refine ⟨_, rfl, ?_⟩
  refine wl_al (cs := #[.string ⟨#[]⟩, .slice none 0 0]) ze70 rfl (fun b7 w4 hb7 hs hr => ?_)
  have or_b6_b7 : b6 < b7 := Nat.lt_of_lt_of_le hb6.lt hr
  have lo7 := Nat.le_trans (Bel.size hB) hr
  replace hB := hB.tr0 hs
  replace hb6 := hb6.tr0 hs
  clear hs
  clear hr
  refine wl_al (cs := #[.string ⟨#[]⟩, .slice none 0 0]) ze70 rfl (fun b8 w5 hb8 hs hr => ?_)
  have or_b6_b8 : b6 < b8 := Nat.lt_of_lt_of_le hb6.lt hr
  have or_b7_b8 : b7 < b8 := Nat.lt_of_lt_of_le hb7.lt hr
  have lo8 := Nat.le_trans (Bel.size hB) hr
  replace hB := hB.tr0 hs
  replace hb6 := hb6.tr0 hs
  replace hb7 := hb7.tr0 hs
  clear hs
  clear hr
  refine wl_stW hb7 rfl rfl sz70 rfl (by repeat (first | rfl | refine one_cons (by first | rfl | assumption) ?_)) (fun w6 hq hs => ?_)
  replace hB := hB.tr1 hs lo7
  replace hb6 := hb6.tr1 hs (by omega)
  replace hb8 := hb8.tr1 hs (by omega)
  clear hs
  replace hb7 := hq
  refine wl_stW hb8 rfl rfl sz70 rfl (by repeat (first | rfl | refine one_cons (by first | rfl | assumption) ?_)) (fun w7 hq hs => ?_)
  replace hB := hB.tr1 hs lo8
  replace hb6 := hb6.tr1 hs (by omega)
  replace hb7 := hb7.tr1 hs (by omega)
  clear hs
  replace hb8 := hq
  refine x_nil ?_
  refine e_S ?_
  refine c_seq ?_
  refine c_region ?_
  refine wl (r_ldS Tryd.underlying70 rfl rfl hb7.range0 sz70) ?_
  refine wl (r_ldS Tryd.underlying70 rfl rfl hb8.range0 sz70) ?_
  refine wl_cl fn25 (fun_any _ _ _ _ (by first | rfl | assumption) (by first | rfl | assumption) (by first | rfl | assumption) (by first | rfl | assumption) _) rfl (fun e' w8 hr => ?_)
  obtain ⟨⟨p15, q15, rfl, hp15, hq15⟩, hs⟩ := hr
  replace hs := Same.of_bel hs
  replace hB := hB.tr0 hs
  replace hb6 := hb6.tr0 hs
  replace hb7 := hb7.tr0 hs
  replace hb8 := hb8.tr0 hs
  clear hs
  refine ⟨_, rfl, ?_⟩
  refine wl_al (cs := #[.string ⟨#[]⟩, .slice none 0 0]) ze70 rfl (fun b9 w9 hb9 hs hr => ?_)
  have or_b6_b9 : b6 < b9 := Nat.lt_of_lt_of_le hb6.lt hr
  have or_b7_b9 : b7 < b9 := Nat.lt_of_lt_of_le hb7.lt hr
  have or_b8_b9 : b8 < b9 := Nat.lt_of_lt_of_le hb8.lt hr
  have lo9 := Nat.le_trans (Bel.size hB) hr
  replace hB := hB.tr0 hs
  replace hb6 := hb6.tr0 hs
  replace hb7 := hb7.tr0 hs
  replace hb8 := hb8.tr0 hs
  clear hs
  clear hr
  refine wl_stW hb9 rfl rfl sz70 rfl (by repeat (first | rfl | refine one_cons (by first | rfl | assumption) ?_)) (fun w10 hq hs => ?_)
  replace hB := hB.tr1 hs lo9
  replace hb6 := hb6.tr1 hs (by omega)
  replace hb7 := hb7.tr1 hs (by omega)
  replace hb8 := hb8.tr1 hs (by omega)
  clear hs
  replace hb9 := hq
  refine x_nil ?_
  refine e_S ?_
  refine c_seq ?_
  have z6 := hb6.lt
  have z7 := hb7.lt
  have z8 := hb8.lt
  have z9 := hb9.lt
  have hsz := Bel.size hB
  refine c_monoTO 24 [16, 17, 18, 19, 20, 21, 22, 23, 24, 25, 26, 27, 28, 29, 30, 31, 32, 33, 34, 35, 36, 37, 38, 10] (fun ix => Nat.beq ix 23) (fun ix v wv => match ix with | 0 => v = .string s1 | 1 => ∃ x0 x1, v = .agg #[x0, x1] ∧ x0.oneCell' = true ∧ x1.oneCell' = true | 2 => ∃ x0 x1, v = .agg #[x0, x1] ∧ x0.oneCell' = true ∧ x1.oneCell' = true | 3 => ∃ x0 x1, v = .agg #[x0, x1] ∧ x0.oneCell' = true ∧ x1.oneCell' = true | 4 => ∃ x0 x1 x2 x3 x4 x5, v = .agg #[x0, x1, x2, x3, x4, x5] ∧ x0.oneCell' = true ∧ x1.oneCell' = true ∧ x2.oneCell' = true ∧ x3.oneCell' = true ∧ x4.oneCell' = true ∧ x5.oneCell' = true | 5 => ∃ x0 x1, v = .agg #[x0, x1] ∧ x0.oneCell' = true ∧ x1.oneCell' = true | 6 => v = .string s2 | 7 => ∃ x0 x1, v = .agg #[x0, x1] ∧ x0.oneCell' = true ∧ x1.oneCell' = true | 8 => ∃ x0 x1, v = .agg #[x0, x1] ∧ x0.oneCell' = true ∧ x1.oneCell' = true | 9 => ∃ x0 x1, v = .agg #[x0, x1] ∧ x0.oneCell' = true ∧ x1.oneCell' = true | 10 => ∃ x0 x1, v = .agg #[x0, x1] ∧ x0.oneCell' = true ∧ x1.oneCell' = true | 11 => ∃ x0 x1, v = .agg #[x0, x1] ∧ x0.oneCell' = true ∧ x1.oneCell' = true | 12 => ∃ x0 x1 x2 x3 x4 x5, v = .agg #[x0, x1, x2, x3, x4, x5] ∧ x0.oneCell' = true ∧ x1.oneCell' = true ∧ x2.oneCell' = true ∧ x3.oneCell' = true ∧ x4.oneCell' = true ∧ x5.oneCell' = true | 13 => ∃ x0 x1 x2 x3 x4 x5, v = .agg #[x0, x1, x2, x3, x4, x5] ∧ x0.oneCell' = true ∧ x1.oneCell' = true ∧ x2.oneCell' = true ∧ x3.oneCell' = true ∧ x4.oneCell' = true ∧ x5.oneCell' = true | 14 => ∃ x0 x1 x2 x3 x4 x5, v = .agg #[x0, x1, x2, x3, x4, x5] ∧ x0.oneCell' = true ∧ x1.oneCell' = true ∧ x2.oneCell' = true ∧ x3.oneCell' = true ∧ x4.oneCell' = true ∧ x5.oneCell' = true | 15 => ∃ x0 x1 x2 x3 x4 x5, v = .agg #[x0, x1, x2, x3, x4, x5] ∧ x0.oneCell' = true ∧ x1.oneCell' = true ∧ x2.oneCell' = true ∧ x3.oneCell' = true ∧ x4.oneCell' = true ∧ x5.oneCell' = true | 16 => ∃ x0 x1 x2 x3 x4 x5, v = .agg #[x0, x1, x2, x3, x4, x5] ∧ x0.oneCell' = true ∧ x1.oneCell' = true ∧ x2.oneCell' = true ∧ x3.oneCell' = true ∧ x4.oneCell' = true ∧ x5.oneCell' = true | 17 => ∃ x0 x1 x2 x3 x4 x5, v = .agg #[x0, x1, x2, x3, x4, x5] ∧ x0.oneCell' = true ∧ x1.oneCell' = true ∧ x2.oneCell' = true ∧ x3.oneCell' = true ∧ x4.oneCell' = true ∧ x5.oneCell' = true | 18 => ∃ x0 x1 x2 x3 x4 x5, v = .agg #[x0, x1, x2, x3, x4, x5] ∧ x0.oneCell' = true ∧ x1.oneCell' = true ∧ x2.oneCell' = true ∧ x3.oneCell' = true ∧ x4.oneCell' = true ∧ x5.oneCell' = true | 19 => ∃ x0 x1 x2 x3 x4 x5, v = .agg #[x0, x1, x2, x3, x4, x5] ∧ x0.oneCell' = true ∧ x1.oneCell' = true ∧ x2.oneCell' = true ∧ x3.oneCell' = true ∧ x4.oneCell' = true ∧ x5.oneCell' = true | 20 => ∃ x0 x1 x2 x3 x4 x5, v = .agg #[x0, x1, x2, x3, x4, x5] ∧ x0.oneCell' = true ∧ x1.oneCell' = true ∧ x2.oneCell' = true ∧ x3.oneCell' = true ∧ x4.oneCell' = true ∧ x5.oneCell' = true | 21 => ∃ x0 x1 x2 x3 x4 x5, v = .agg #[x0, x1, x2, x3, x4, x5] ∧ x0.oneCell' = true ∧ x1.oneCell' = true ∧ x2.oneCell' = true ∧ x3.oneCell' = true ∧ x4.oneCell' = true ∧ x5.oneCell' = true | 22 => ∃ x0 x1 x2 x3 x4 x5, v = .agg #[x0, x1, x2, x3, x4, x5] ∧ x0.oneCell' = true ∧ x1.oneCell' = true ∧ x2.oneCell' = true ∧ x3.oneCell' = true ∧ x4.oneCell' = true ∧ x5.oneCell' = true | 23 => ∃ b, v = .pointer (some ⟨b, 0, none⟩) ∧ w10.heap.size ≤ b ∧ Blk wv b 78 #[.int .i64 0, .string ⟨#[]⟩, .int .i64 0, .string ⟨#[]⟩, .slice none 0 0, .slice none 0 0] | _ => True) (by kernel_rfl) (by kernel_rfl) ?_ ?_ ?_
  · intro ix v wv wv2 h hs
    match ix, h with
    | 0, h => exact h
    | 1, h => exact h
    | 2, h => exact h
    | 3, h => exact h
    | 4, h => exact h
    | 5, h => exact h
    | 6, h => exact h
    | 7, h => exact h
    | 8, h => exact h
    | 9, h => exact h
    | 10, h => exact h
    | 11, h => exact h
    | 12, h => exact h
    | 13, h => exact h
    | 14, h => exact h
    | 15, h => exact h
    | 16, h => exact h
    | 17, h => exact h
    | 18, h => exact h
    | 19, h => exact h
    | 20, h => exact h
    | 21, h => exact h
    | 22, h => exact h
    | 23, h =>
      obtain ⟨b10, e10, lo10, hb10⟩ := (show ∃ b, v = .pointer (some ⟨b, 0, none⟩) ∧ w10.heap.size ≤ b ∧ Blk wv b 78 #[.int .i64 0, .string ⟨#[]⟩, .int .i64 0, .string ⟨#[]⟩, .slice none 0 0, .slice none 0 0] from h)
      exact ⟨b10, e10, lo10, hb10.tr0 hs⟩
    | _ + 24, h => exact trivial
  · intro ix o hix hoq gg wx hs hd hdis
    match ix, hix, hoq with
    | 0, _, hoq =>
      obtain rfl : _ = o := Option.some.inj hoq
      have hs0 := hs
      replace hB := hB.tr0 hs
      replace hb6 := hb6.tr0 hs
      replace hb7 := hb7.tr0 hs
      replace hb8 := hb8.tr0 hs
      replace hb9 := hb9.tr0 hs
      clear hs
      refine os_rv (r_mv (v := .string _) rfl) ⟨Same.refl _ _, ?_, frsh_no⟩
      exact rfl
    | 1, _, hoq =>
      obtain rfl : _ = o := Option.some.inj hoq
      have hs0 := hs
      replace hB := hB.tr0 hs
      replace hb6 := hb6.tr0 hs
      replace hb7 := hb7.tr0 hs
      replace hb8 := hb8.tr0 hs
      replace hb9 := hb9.tr0 hs
      clear hs
      refine os_rv (r_ldS Tryd.underlying70 rfl rfl hb9.range0 sz70) ⟨Same.refl _ _, ?_, frsh_no⟩
      exact ⟨_, _, rfl, (by first | rfl | assumption), (by first | rfl | assumption)⟩
    | 2, _, hoq =>
      obtain rfl : _ = o := Option.some.inj hoq
      have hs0 := hs
      replace hB := hB.tr0 hs
      replace hb6 := hb6.tr0 hs
      replace hb7 := hb7.tr0 hs
      replace hb8 := hb8.tr0 hs
      replace hb9 := hb9.tr0 hs
      clear hs
      refine os_rv (r_ldS Tryd.underlying70 rfl rfl hb8.range0 sz70) ⟨Same.refl _ _, ?_, frsh_no⟩
      exact ⟨_, _, rfl, (by first | rfl | assumption), (by first | rfl | assumption)⟩
    | 3, _, hoq =>
      obtain rfl : _ = o := Option.some.inj hoq
      have hs0 := hs
      replace hB := hB.tr0 hs
      replace hb6 := hb6.tr0 hs
      replace hb7 := hb7.tr0 hs
      replace hb8 := hb8.tr0 hs
      replace hb9 := hb9.tr0 hs
      clear hs
      have d1 : ∃ x0 x1, gg 17 = .agg #[x0, x1] ∧ x0.oneCell' = true ∧ x1.oneCell' = true := hd 1 (dep_of (by kernel_rfl))
      obtain ⟨q17_0, q17_1, e17, hq17_0, hq17_1⟩ := d1
      have d2 : ∃ x0 x1, gg 18 = .agg #[x0, x1] ∧ x0.oneCell' = true ∧ x1.oneCell' = true := hd 2 (dep_of (by kernel_rfl))
      obtain ⟨q18_0, q18_1, e18, hq18_0, hq18_1⟩ := d2
      refine os_know 17 (.agg #[q17_0, q17_1]) e17 (by simp [undef]) ?_
      refine os_know 18 (.agg #[q18_0, q18_1]) e18 (by simp [undef]) ?_
      refine os_cl fn25 (fun_any _ _ _ _ (by first | rfl | assumption) (by first | rfl | assumption) (by first | rfl | assumption) (by first | rfl | assumption) wx) rfl (fun e' w2 hr => ?_)
      obtain ⟨⟨q19_0, q19_1, rfl, hq19_0, hq19_1⟩, hs⟩ := hr
      exact ⟨_, rfl, Same.of_bel hs, ⟨_, _, rfl, (by first | rfl | assumption), (by first | rfl | assumption)⟩, frsh_no⟩
    | 4, _, hoq =>
      obtain rfl : _ = o := Option.some.inj hoq
      have hs0 := hs
      replace hB := hB.tr0 hs
      replace hb6 := hb6.tr0 hs
      replace hb7 := hb7.tr0 hs
      replace hb8 := hb8.tr0 hs
      replace hb9 := hb9.tr0 hs
      clear hs
      have d0 : gg 16 = .string s1 := hd 0 (dep_of (by kernel_rfl))
      have e16 := d0
      have d3 : ∃ x0 x1, gg 19 = .agg #[x0, x1] ∧ x0.oneCell' = true ∧ x1.oneCell' = true := hd 3 (dep_of (by kernel_rfl))
      obtain ⟨q19_0, q19_1, e19, hq19_0, hq19_1⟩ := d3
      refine os_know 16 (.string s1) e16 (by simp [undef]) ?_
      refine os_know 19 (.agg #[q19_0, q19_1]) e19 (by simp [undef]) ?_
      refine os_cl fn31 (con_any _ _ _ (by first | rfl | assumption) (by first | rfl | assumption) wx) rfl (fun e' w2 hr => ?_)
      obtain ⟨⟨q20_0, q20_1, q20_2, q20_3, q20_4, q20_5, rfl, hq20_0, hq20_1, hq20_2, hq20_3, hq20_4, hq20_5⟩, hs⟩ := hr
      exact ⟨_, rfl, Same.of_bel hs, ⟨_, _, _, _, _, _, rfl, (by first | rfl | assumption), (by first | rfl | assumption), (by first | rfl | assumption), (by first | rfl | assumption), (by first | rfl | assumption), (by first | rfl | assumption)⟩, frsh_no⟩
    | 5, _, hoq =>
      obtain rfl : _ = o := Option.some.inj hoq
      have hs0 := hs
      replace hB := hB.tr0 hs
      replace hb6 := hb6.tr0 hs
      replace hb7 := hb7.tr0 hs
      replace hb8 := hb8.tr0 hs
      replace hb9 := hb9.tr0 hs
      clear hs
      refine os_rv (r_ldS Tryd.underlying70 rfl rfl hb7.range0 sz70) ⟨Same.refl _ _, ?_, frsh_no⟩
      exact ⟨_, _, rfl, (by first | rfl | assumption), (by first | rfl | assumption)⟩
    | 6, _, hoq =>
      obtain rfl : _ = o := Option.some.inj hoq
      have hs0 := hs
      replace hB := hB.tr0 hs
      replace hb6 := hb6.tr0 hs
      replace hb7 := hb7.tr0 hs
      replace hb8 := hb8.tr0 hs
      replace hb9 := hb9.tr0 hs
      clear hs
      refine os_rv (r_mv (v := .string _) rfl) ⟨Same.refl _ _, ?_, frsh_no⟩
      exact rfl
    | 7, _, hoq =>
      obtain rfl : _ = o := Option.some.inj hoq
      have hs0 := hs
      replace hB := hB.tr0 hs
      replace hb6 := hb6.tr0 hs
      replace hb7 := hb7.tr0 hs
      replace hb8 := hb8.tr0 hs
      replace hb9 := hb9.tr0 hs
      clear hs
      refine os_rv (r_ldS Tryd.underlying70 rfl rfl hb8.range0 sz70) ⟨Same.refl _ _, ?_, frsh_no⟩
      exact ⟨_, _, rfl, (by first | rfl | assumption), (by first | rfl | assumption)⟩
    | 8, _, hoq =>
      obtain rfl : _ = o := Option.some.inj hoq
      have hs0 := hs
      replace hB := hB.tr0 hs
      replace hb6 := hb6.tr0 hs
      replace hb7 := hb7.tr0 hs
      replace hb8 := hb8.tr0 hs
      replace hb9 := hb9.tr0 hs
      clear hs
      refine os_rv (r_ldS Tryd.underlying70 rfl rfl hb8.range0 sz70) ⟨Same.refl _ _, ?_, frsh_no⟩
      exact ⟨_, _, rfl, (by first | rfl | assumption), (by first | rfl | assumption)⟩
    | 9, _, hoq =>
      obtain rfl : _ = o := Option.some.inj hoq
      have hs0 := hs
      replace hB := hB.tr0 hs
      replace hb6 := hb6.tr0 hs
      replace hb7 := hb7.tr0 hs
      replace hb8 := hb8.tr0 hs
      replace hb9 := hb9.tr0 hs
      clear hs
      refine os_rv (r_ldS Tryd.underlying70 rfl rfl hb8.range0 sz70) ⟨Same.refl _ _, ?_, frsh_no⟩
      exact ⟨_, _, rfl, (by first | rfl | assumption), (by first | rfl | assumption)⟩
    | 10, _, hoq =>
      obtain rfl : _ = o := Option.some.inj hoq
      have hs0 := hs
      replace hB := hB.tr0 hs
      replace hb6 := hb6.tr0 hs
      replace hb7 := hb7.tr0 hs
      replace hb8 := hb8.tr0 hs
      replace hb9 := hb9.tr0 hs
      clear hs
      have d8 : ∃ x0 x1, gg 24 = .agg #[x0, x1] ∧ x0.oneCell' = true ∧ x1.oneCell' = true := hd 8 (dep_of (by kernel_rfl))
      obtain ⟨q24_0, q24_1, e24, hq24_0, hq24_1⟩ := d8
      have d9 : ∃ x0 x1, gg 25 = .agg #[x0, x1] ∧ x0.oneCell' = true ∧ x1.oneCell' = true := hd 9 (dep_of (by kernel_rfl))
      obtain ⟨q25_0, q25_1, e25, hq25_0, hq25_1⟩ := d9
      refine os_know 24 (.agg #[q24_0, q24_1]) e24 (by simp [undef]) ?_
      refine os_know 25 (.agg #[q25_0, q25_1]) e25 (by simp [undef]) ?_
      refine os_cl fn25 (fun_any _ _ _ _ (by first | rfl | assumption) (by first | rfl | assumption) (by first | rfl | assumption) (by first | rfl | assumption) wx) rfl (fun e' w2 hr => ?_)
      obtain ⟨⟨q26_0, q26_1, rfl, hq26_0, hq26_1⟩, hs⟩ := hr
      exact ⟨_, rfl, Same.of_bel hs, ⟨_, _, rfl, (by first | rfl | assumption), (by first | rfl | assumption)⟩, frsh_no⟩
    | 11, _, hoq =>
      obtain rfl : _ = o := Option.some.inj hoq
      have hs0 := hs
      replace hB := hB.tr0 hs
      replace hb6 := hb6.tr0 hs
      replace hb7 := hb7.tr0 hs
      replace hb8 := hb8.tr0 hs
      replace hb9 := hb9.tr0 hs
      clear hs
      have d7 : ∃ x0 x1, gg 23 = .agg #[x0, x1] ∧ x0.oneCell' = true ∧ x1.oneCell' = true := hd 7 (dep_of (by kernel_rfl))
      obtain ⟨q23_0, q23_1, e23, hq23_0, hq23_1⟩ := d7
      have d10 : ∃ x0 x1, gg 26 = .agg #[x0, x1] ∧ x0.oneCell' = true ∧ x1.oneCell' = true := hd 10 (dep_of (by kernel_rfl))
      obtain ⟨q26_0, q26_1, e26, hq26_0, hq26_1⟩ := d10
      refine os_know 23 (.agg #[q23_0, q23_1]) e23 (by simp [undef]) ?_
      refine os_know 26 (.agg #[q26_0, q26_1]) e26 (by simp [undef]) ?_
      refine os_cl fn25 (fun_any _ _ _ _ (by first | rfl | assumption) (by first | rfl | assumption) (by first | rfl | assumption) (by first | rfl | assumption) wx) rfl (fun e' w2 hr => ?_)
      obtain ⟨⟨q27_0, q27_1, rfl, hq27_0, hq27_1⟩, hs⟩ := hr
      exact ⟨_, rfl, Same.of_bel hs, ⟨_, _, rfl, (by first | rfl | assumption), (by first | rfl | assumption)⟩, frsh_no⟩
    | 12, _, hoq =>
      obtain rfl : _ = o := Option.some.inj hoq
      have hs0 := hs
      replace hB := hB.tr0 hs
      replace hb6 := hb6.tr0 hs
      replace hb7 := hb7.tr0 hs
      replace hb8 := hb8.tr0 hs
      replace hb9 := hb9.tr0 hs
      clear hs
      have d6 : gg 22 = .string s2 := hd 6 (dep_of (by kernel_rfl))
      have e22 := d6
      have d11 : ∃ x0 x1, gg 27 = .agg #[x0, x1] ∧ x0.oneCell' = true ∧ x1.oneCell' = true := hd 11 (dep_of (by kernel_rfl))
      obtain ⟨q27_0, q27_1, e27, hq27_0, hq27_1⟩ := d11
      refine os_know 22 (.string s2) e22 (by simp [undef]) ?_
      refine os_know 27 (.agg #[q27_0, q27_1]) e27 (by simp [undef]) ?_
      refine os_cl fn31 (con_any _ _ _ (by first | rfl | assumption) (by first | rfl | assumption) wx) rfl (fun e' w2 hr => ?_)
      obtain ⟨⟨q28_0, q28_1, q28_2, q28_3, q28_4, q28_5, rfl, hq28_0, hq28_1, hq28_2, hq28_3, hq28_4, hq28_5⟩, hs⟩ := hr
      exact ⟨_, rfl, Same.of_bel hs, ⟨_, _, _, _, _, _, rfl, (by first | rfl | assumption), (by first | rfl | assumption), (by first | rfl | assumption), (by first | rfl | assumption), (by first | rfl | assumption), (by first | rfl | assumption)⟩, frsh_no⟩
    | 13, _, hoq =>
      obtain rfl : _ = o := Option.some.inj hoq
      have hs0 := hs
      replace hB := hB.tr0 hs
      replace hb6 := hb6.tr0 hs
      replace hb7 := hb7.tr0 hs
      replace hb8 := hb8.tr0 hs
      replace hb9 := hb9.tr0 hs
      clear hs
      refine os_cl fn34 (bound_any _  wx) rfl (fun e' w2 hr => ?_)
      obtain ⟨⟨q29_0, q29_1, q29_2, q29_3, q29_4, q29_5, rfl, hq29_0, hq29_1, hq29_2, hq29_3, hq29_4, hq29_5⟩, hs⟩ := hr
      exact ⟨_, rfl, Same.of_bel hs, ⟨_, _, _, _, _, _, rfl, (by first | rfl | assumption), (by first | rfl | assumption), (by first | rfl | assumption), (by first | rfl | assumption), (by first | rfl | assumption), (by first | rfl | assumption)⟩, frsh_no⟩
    | 14, _, hoq =>
      obtain rfl : _ = o := Option.some.inj hoq
      have hs0 := hs
      replace hB := hB.tr0 hs
      replace hb6 := hb6.tr0 hs
      replace hb7 := hb7.tr0 hs
      replace hb8 := hb8.tr0 hs
      replace hb9 := hb9.tr0 hs
      clear hs
      refine os_cl fn34 (bound_any _  wx) rfl (fun e' w2 hr => ?_)
      obtain ⟨⟨q30_0, q30_1, q30_2, q30_3, q30_4, q30_5, rfl, hq30_0, hq30_1, hq30_2, hq30_3, hq30_4, hq30_5⟩, hs⟩ := hr
      exact ⟨_, rfl, Same.of_bel hs, ⟨_, _, _, _, _, _, rfl, (by first | rfl | assumption), (by first | rfl | assumption), (by first | rfl | assumption), (by first | rfl | assumption), (by first | rfl | assumption), (by first | rfl | assumption)⟩, frsh_no⟩
    | 15, _, hoq =>
      obtain rfl : _ = o := Option.some.inj hoq
      have hs0 := hs
      replace hB := hB.tr0 hs
      replace hb6 := hb6.tr0 hs
      replace hb7 := hb7.tr0 hs
      replace hb8 := hb8.tr0 hs
      replace hb9 := hb9.tr0 hs
      clear hs
      have d13 : ∃ x0 x1 x2 x3 x4 x5, gg 29 = .agg #[x0, x1, x2, x3, x4, x5] ∧ x0.oneCell' = true ∧ x1.oneCell' = true ∧ x2.oneCell' = true ∧ x3.oneCell' = true ∧ x4.oneCell' = true ∧ x5.oneCell' = true := hd 13 (dep_of (by kernel_rfl))
      obtain ⟨q29_0, q29_1, q29_2, q29_3, q29_4, q29_5, e29, hq29_0, hq29_1, hq29_2, hq29_3, hq29_4, hq29_5⟩ := d13
      have d14 : ∃ x0 x1 x2 x3 x4 x5, gg 30 = .agg #[x0, x1, x2, x3, x4, x5] ∧ x0.oneCell' = true ∧ x1.oneCell' = true ∧ x2.oneCell' = true ∧ x3.oneCell' = true ∧ x4.oneCell' = true ∧ x5.oneCell' = true := hd 14 (dep_of (by kernel_rfl))
      obtain ⟨q30_0, q30_1, q30_2, q30_3, q30_4, q30_5, e30, hq30_0, hq30_1, hq30_2, hq30_3, hq30_4, hq30_5⟩ := d14
      refine os_know 29 (.agg #[q29_0, q29_1, q29_2, q29_3, q29_4, q29_5]) e29 (by simp [undef]) ?_
      refine os_know 30 (.agg #[q30_0, q30_1, q30_2, q30_3, q30_4, q30_5]) e30 (by simp [undef]) ?_
      refine os_cl fn33 (app_any _ _ _ _ _ _ _ _ _ _ _ _ (by first | rfl | assumption) (by first | rfl | assumption) (by first | rfl | assumption) (by first | rfl | assumption) (by first | rfl | assumption) (by first | rfl | assumption) (by first | rfl | assumption) (by first | rfl | assumption) (by first | rfl | assumption) (by first | rfl | assumption) (by first | rfl | assumption) (by first | rfl | assumption) wx) rfl (fun e' w2 hr => ?_)
      obtain ⟨⟨q31_0, q31_1, q31_2, q31_3, q31_4, q31_5, rfl, hq31_0, hq31_1, hq31_2, hq31_3, hq31_4, hq31_5⟩, hs⟩ := hr
      exact ⟨_, rfl, Same.of_bel hs, ⟨_, _, _, _, _, _, rfl, (by first | rfl | assumption), (by first | rfl | assumption), (by first | rfl | assumption), (by first | rfl | assumption), (by first | rfl | assumption), (by first | rfl | assumption)⟩, frsh_no⟩
    | 16, _, hoq =>
      obtain rfl : _ = o := Option.some.inj hoq
      have hs0 := hs
      replace hB := hB.tr0 hs
      replace hb6 := hb6.tr0 hs
      replace hb7 := hb7.tr0 hs
      replace hb8 := hb8.tr0 hs
      replace hb9 := hb9.tr0 hs
      clear hs
      have d12 : ∃ x0 x1 x2 x3 x4 x5, gg 28 = .agg #[x0, x1, x2, x3, x4, x5] ∧ x0.oneCell' = true ∧ x1.oneCell' = true ∧ x2.oneCell' = true ∧ x3.oneCell' = true ∧ x4.oneCell' = true ∧ x5.oneCell' = true := hd 12 (dep_of (by kernel_rfl))
      obtain ⟨q28_0, q28_1, q28_2, q28_3, q28_4, q28_5, e28, hq28_0, hq28_1, hq28_2, hq28_3, hq28_4, hq28_5⟩ := d12
      have d15 : ∃ x0 x1 x2 x3 x4 x5, gg 31 = .agg #[x0, x1, x2, x3, x4, x5] ∧ x0.oneCell' = true ∧ x1.oneCell' = true ∧ x2.oneCell' = true ∧ x3.oneCell' = true ∧ x4.oneCell' = true ∧ x5.oneCell' = true := hd 15 (dep_of (by kernel_rfl))
      obtain ⟨q31_0, q31_1, q31_2, q31_3, q31_4, q31_5, e31, hq31_0, hq31_1, hq31_2, hq31_3, hq31_4, hq31_5⟩ := d15
      refine os_know 28 (.agg #[q28_0, q28_1, q28_2, q28_3, q28_4, q28_5]) e28 (by simp [undef]) ?_
      refine os_know 31 (.agg #[q31_0, q31_1, q31_2, q31_3, q31_4, q31_5]) e31 (by simp [undef]) ?_
      refine os_cl fn33 (app_any _ _ _ _ _ _ _ _ _ _ _ _ (by first | rfl | assumption) (by first | rfl | assumption) (by first | rfl | assumption) (by first | rfl | assumption) (by first | rfl | assumption) (by first | rfl | assumption) (by first | rfl | assumption) (by first | rfl | assumption) (by first | rfl | assumption) (by first | rfl | assumption) (by first | rfl | assumption) (by first | rfl | assumption) wx) rfl (fun e' w2 hr => ?_)
      obtain ⟨⟨q32_0, q32_1, q32_2, q32_3, q32_4, q32_5, rfl, hq32_0, hq32_1, hq32_2, hq32_3, hq32_4, hq32_5⟩, hs⟩ := hr
      exact ⟨_, rfl, Same.of_bel hs, ⟨_, _, _, _, _, _, rfl, (by first | rfl | assumption), (by first | rfl | assumption), (by first | rfl | assumption), (by first | rfl | assumption), (by first | rfl | assumption), (by first | rfl | assumption)⟩, frsh_no⟩
    | 17, _, hoq =>
      obtain rfl : _ = o := Option.some.inj hoq
      have hs0 := hs
      replace hB := hB.tr0 hs
      replace hb6 := hb6.tr0 hs
      replace hb7 := hb7.tr0 hs
      replace hb8 := hb8.tr0 hs
      replace hb9 := hb9.tr0 hs
      clear hs
      refine os_cl fn34 (bound_any _  wx) rfl (fun e' w2 hr => ?_)
      obtain ⟨⟨q33_0, q33_1, q33_2, q33_3, q33_4, q33_5, rfl, hq33_0, hq33_1, hq33_2, hq33_3, hq33_4, hq33_5⟩, hs⟩ := hr
      exact ⟨_, rfl, Same.of_bel hs, ⟨_, _, _, _, _, _, rfl, (by first | rfl | assumption), (by first | rfl | assumption), (by first | rfl | assumption), (by first | rfl | assumption), (by first | rfl | assumption), (by first | rfl | assumption)⟩, frsh_no⟩
    | 18, _, hoq =>
      obtain rfl : _ = o := Option.some.inj hoq
      have hs0 := hs
      replace hB := hB.tr0 hs
      replace hb6 := hb6.tr0 hs
      replace hb7 := hb7.tr0 hs
      replace hb8 := hb8.tr0 hs
      replace hb9 := hb9.tr0 hs
      clear hs
      refine os_cl fn34 (bound_any _  wx) rfl (fun e' w2 hr => ?_)
      obtain ⟨⟨q34_0, q34_1, q34_2, q34_3, q34_4, q34_5, rfl, hq34_0, hq34_1, hq34_2, hq34_3, hq34_4, hq34_5⟩, hs⟩ := hr
      exact ⟨_, rfl, Same.of_bel hs, ⟨_, _, _, _, _, _, rfl, (by first | rfl | assumption), (by first | rfl | assumption), (by first | rfl | assumption), (by first | rfl | assumption), (by first | rfl | assumption), (by first | rfl | assumption)⟩, frsh_no⟩
    | 19, _, hoq =>
      obtain rfl : _ = o := Option.some.inj hoq
      have hs0 := hs
      replace hB := hB.tr0 hs
      replace hb6 := hb6.tr0 hs
      replace hb7 := hb7.tr0 hs
      replace hb8 := hb8.tr0 hs
      replace hb9 := hb9.tr0 hs
      clear hs
      have d17 : ∃ x0 x1 x2 x3 x4 x5, gg 33 = .agg #[x0, x1, x2, x3, x4, x5] ∧ x0.oneCell' = true ∧ x1.oneCell' = true ∧ x2.oneCell' = true ∧ x3.oneCell' = true ∧ x4.oneCell' = true ∧ x5.oneCell' = true := hd 17 (dep_of (by kernel_rfl))
      obtain ⟨q33_0, q33_1, q33_2, q33_3, q33_4, q33_5, e33, hq33_0, hq33_1, hq33_2, hq33_3, hq33_4, hq33_5⟩ := d17
      have d18 : ∃ x0 x1 x2 x3 x4 x5, gg 34 = .agg #[x0, x1, x2, x3, x4, x5] ∧ x0.oneCell' = true ∧ x1.oneCell' = true ∧ x2.oneCell' = true ∧ x3.oneCell' = true ∧ x4.oneCell' = true ∧ x5.oneCell' = true := hd 18 (dep_of (by kernel_rfl))
      obtain ⟨q34_0, q34_1, q34_2, q34_3, q34_4, q34_5, e34, hq34_0, hq34_1, hq34_2, hq34_3, hq34_4, hq34_5⟩ := d18
      refine os_know 33 (.agg #[q33_0, q33_1, q33_2, q33_3, q33_4, q33_5]) e33 (by simp [undef]) ?_
      refine os_know 34 (.agg #[q34_0, q34_1, q34_2, q34_3, q34_4, q34_5]) e34 (by simp [undef]) ?_
      refine os_cl fn33 (app_any _ _ _ _ _ _ _ _ _ _ _ _ (by first | rfl | assumption) (by first | rfl | assumption) (by first | rfl | assumption) (by first | rfl | assumption) (by first | rfl | assumption) (by first | rfl | assumption) (by first | rfl | assumption) (by first | rfl | assumption) (by first | rfl | assumption) (by first | rfl | assumption) (by first | rfl | assumption) (by first | rfl | assumption) wx) rfl (fun e' w2 hr => ?_)
      obtain ⟨⟨q35_0, q35_1, q35_2, q35_3, q35_4, q35_5, rfl, hq35_0, hq35_1, hq35_2, hq35_3, hq35_4, hq35_5⟩, hs⟩ := hr
      exact ⟨_, rfl, Same.of_bel hs, ⟨_, _, _, _, _, _, rfl, (by first | rfl | assumption), (by first | rfl | assumption), (by first | rfl | assumption), (by first | rfl | assumption), (by first | rfl | assumption), (by first | rfl | assumption)⟩, frsh_no⟩
    | 20, _, hoq =>
      obtain rfl : _ = o := Option.some.inj hoq
      have hs0 := hs
      replace hB := hB.tr0 hs
      replace hb6 := hb6.tr0 hs
      replace hb7 := hb7.tr0 hs
      replace hb8 := hb8.tr0 hs
      replace hb9 := hb9.tr0 hs
      clear hs
      have d16 : ∃ x0 x1 x2 x3 x4 x5, gg 32 = .agg #[x0, x1, x2, x3, x4, x5] ∧ x0.oneCell' = true ∧ x1.oneCell' = true ∧ x2.oneCell' = true ∧ x3.oneCell' = true ∧ x4.oneCell' = true ∧ x5.oneCell' = true := hd 16 (dep_of (by kernel_rfl))
      obtain ⟨q32_0, q32_1, q32_2, q32_3, q32_4, q32_5, e32, hq32_0, hq32_1, hq32_2, hq32_3, hq32_4, hq32_5⟩ := d16
      have d19 : ∃ x0 x1 x2 x3 x4 x5, gg 35 = .agg #[x0, x1, x2, x3, x4, x5] ∧ x0.oneCell' = true ∧ x1.oneCell' = true ∧ x2.oneCell' = true ∧ x3.oneCell' = true ∧ x4.oneCell' = true ∧ x5.oneCell' = true := hd 19 (dep_of (by kernel_rfl))
      obtain ⟨q35_0, q35_1, q35_2, q35_3, q35_4, q35_5, e35, hq35_0, hq35_1, hq35_2, hq35_3, hq35_4, hq35_5⟩ := d19
      refine os_know 32 (.agg #[q32_0, q32_1, q32_2, q32_3, q32_4, q32_5]) e32 (by simp [undef]) ?_
      refine os_know 35 (.agg #[q35_0, q35_1, q35_2, q35_3, q35_4, q35_5]) e35 (by simp [undef]) ?_
      refine os_cl fn33 (app_any _ _ _ _ _ _ _ _ _ _ _ _ (by first | rfl | assumption) (by first | rfl | assumption) (by first | rfl | assumption) (by first | rfl | assumption) (by first | rfl | assumption) (by first | rfl | assumption) (by first | rfl | assumption) (by first | rfl | assumption) (by first | rfl | assumption) (by first | rfl | assumption) (by first | rfl | assumption) (by first | rfl | assumption) wx) rfl (fun e' w2 hr => ?_)
      obtain ⟨⟨q36_0, q36_1, q36_2, q36_3, q36_4, q36_5, rfl, hq36_0, hq36_1, hq36_2, hq36_3, hq36_4, hq36_5⟩, hs⟩ := hr
      exact ⟨_, rfl, Same.of_bel hs, ⟨_, _, _, _, _, _, rfl, (by first | rfl | assumption), (by first | rfl | assumption), (by first | rfl | assumption), (by first | rfl | assumption), (by first | rfl | assumption), (by first | rfl | assumption)⟩, frsh_no⟩
    | 21, _, hoq =>
      obtain rfl : _ = o := Option.some.inj hoq
      have hs0 := hs
      replace hB := hB.tr0 hs
      replace hb6 := hb6.tr0 hs
      replace hb7 := hb7.tr0 hs
      replace hb8 := hb8.tr0 hs
      replace hb9 := hb9.tr0 hs
      clear hs
      have d5 : ∃ x0 x1, gg 21 = .agg #[x0, x1] ∧ x0.oneCell' = true ∧ x1.oneCell' = true := hd 5 (dep_of (by kernel_rfl))
      obtain ⟨q21_0, q21_1, e21, hq21_0, hq21_1⟩ := d5
      have d20 : ∃ x0 x1 x2 x3 x4 x5, gg 36 = .agg #[x0, x1, x2, x3, x4, x5] ∧ x0.oneCell' = true ∧ x1.oneCell' = true ∧ x2.oneCell' = true ∧ x3.oneCell' = true ∧ x4.oneCell' = true ∧ x5.oneCell' = true := hd 20 (dep_of (by kernel_rfl))
      obtain ⟨q36_0, q36_1, q36_2, q36_3, q36_4, q36_5, e36, hq36_0, hq36_1, hq36_2, hq36_3, hq36_4, hq36_5⟩ := d20
      refine os_know 21 (.agg #[q21_0, q21_1]) e21 (by simp [undef]) ?_
      refine os_know 36 (.agg #[q36_0, q36_1, q36_2, q36_3, q36_4, q36_5]) e36 (by simp [undef]) ?_
      refine os_cl fn32 (abs_any _ _ _ _ _ _ _ _ (by first | rfl | assumption) (by first | rfl | assumption) (by first | rfl | assumption) (by first | rfl | assumption) (by first | rfl | assumption) (by first | rfl | assumption) (by first | rfl | assumption) (by first | rfl | assumption) wx) rfl (fun e' w2 hr => ?_)
      obtain ⟨⟨q37_0, q37_1, q37_2, q37_3, q37_4, q37_5, rfl, hq37_0, hq37_1, hq37_2, hq37_3, hq37_4, hq37_5⟩, hs⟩ := hr
      exact ⟨_, rfl, Same.of_bel hs, ⟨_, _, _, _, _, _, rfl, (by first | rfl | assumption), (by first | rfl | assumption), (by first | rfl | assumption), (by first | rfl | assumption), (by first | rfl | assumption), (by first | rfl | assumption)⟩, frsh_no⟩
    | 22, _, hoq =>
      obtain rfl : _ = o := Option.some.inj hoq
      have hs0 := hs
      replace hB := hB.tr0 hs
      replace hb6 := hb6.tr0 hs
      replace hb7 := hb7.tr0 hs
      replace hb8 := hb8.tr0 hs
      replace hb9 := hb9.tr0 hs
      clear hs
      have d4 : ∃ x0 x1 x2 x3 x4 x5, gg 20 = .agg #[x0, x1, x2, x3, x4, x5] ∧ x0.oneCell' = true ∧ x1.oneCell' = true ∧ x2.oneCell' = true ∧ x3.oneCell' = true ∧ x4.oneCell' = true ∧ x5.oneCell' = true := hd 4 (dep_of (by kernel_rfl))
      obtain ⟨q20_0, q20_1, q20_2, q20_3, q20_4, q20_5, e20, hq20_0, hq20_1, hq20_2, hq20_3, hq20_4, hq20_5⟩ := d4
      have d21 : ∃ x0 x1 x2 x3 x4 x5, gg 37 = .agg #[x0, x1, x2, x3, x4, x5] ∧ x0.oneCell' = true ∧ x1.oneCell' = true ∧ x2.oneCell' = true ∧ x3.oneCell' = true ∧ x4.oneCell' = true ∧ x5.oneCell' = true := hd 21 (dep_of (by kernel_rfl))
      obtain ⟨q37_0, q37_1, q37_2, q37_3, q37_4, q37_5, e37, hq37_0, hq37_1, hq37_2, hq37_3, hq37_4, hq37_5⟩ := d21
      refine os_know 20 (.agg #[q20_0, q20_1, q20_2, q20_3, q20_4, q20_5]) e20 (by simp [undef]) ?_
      refine os_know 37 (.agg #[q37_0, q37_1, q37_2, q37_3, q37_4, q37_5]) e37 (by simp [undef]) ?_
      refine os_cl fn33 (app_any _ _ _ _ _ _ _ _ _ _ _ _ (by first | rfl | assumption) (by first | rfl | assumption) (by first | rfl | assumption) (by first | rfl | assumption) (by first | rfl | assumption) (by first | rfl | assumption) (by first | rfl | assumption) (by first | rfl | assumption) (by first | rfl | assumption) (by first | rfl | assumption) (by first | rfl | assumption) (by first | rfl | assumption) wx) rfl (fun e' w2 hr => ?_)
      obtain ⟨⟨q38_0, q38_1, q38_2, q38_3, q38_4, q38_5, rfl, hq38_0, hq38_1, hq38_2, hq38_3, hq38_4, hq38_5⟩, hs⟩ := hr
      exact ⟨_, rfl, Same.of_bel hs, ⟨_, _, _, _, _, _, rfl, (by first | rfl | assumption), (by first | rfl | assumption), (by first | rfl | assumption), (by first | rfl | assumption), (by first | rfl | assumption), (by first | rfl | assumption)⟩, frsh_no⟩
    | 23, _, hoq =>
      obtain rfl : _ = o := Option.some.inj hoq
      have hs0 := hs
      replace hB := hB.tr0 hs
      replace hb6 := hb6.tr0 hs
      replace hb7 := hb7.tr0 hs
      replace hb8 := hb8.tr0 hs
      replace hb9 := hb9.tr0 hs
      clear hs
      refine os_wl (fun ops Q K => ?_)
      refine wl_al (cs := #[.int .i64 0, .string ⟨#[]⟩, .int .i64 0, .string ⟨#[]⟩, .slice none 0 0, .slice none 0 0]) ze78 rfl (fun b10 w11 hb10 hs hr => ?_)
      exact K _ _ ⟨hs, ⟨_, rfl, Nat.le_trans hs0.size hr, hb10⟩, fun _ g hg => by cases hg; exact ⟨hr, hb10.lt⟩⟩
    | _ + 24, hix, _ => exact absurd hix (by omega)
  · intro gg w12 hs hR hdis
    have hs0 := hs
    replace hB := hB.tr0 hs
    replace hb6 := hb6.tr0 hs
    replace hb7 := hb7.tr0 hs
    replace hb8 := hb8.tr0 hs
    replace hb9 := hb9.tr0 hs
    clear hs
    have d22 : ∃ x0 x1 x2 x3 x4 x5, gg 38 = .agg #[x0, x1, x2, x3, x4, x5] ∧ x0.oneCell' = true ∧ x1.oneCell' = true ∧ x2.oneCell' = true ∧ x3.oneCell' = true ∧ x4.oneCell' = true ∧ x5.oneCell' = true := hR 22 (by decide)
    obtain ⟨q38_0, q38_1, q38_2, q38_3, q38_4, q38_5, e38, hq38_0, hq38_1, hq38_2, hq38_3, hq38_4, hq38_5⟩ := d22
    have d23 : ∃ b, gg 10 = .pointer (some ⟨b, 0, none⟩) ∧ w10.heap.size ≤ b ∧ Blk w12 b 78 #[.int .i64 0, .string ⟨#[]⟩, .int .i64 0, .string ⟨#[]⟩, .slice none 0 0, .slice none 0 0] := hR 23 (by decide)
    obtain ⟨b10, e10, lo10, hb10⟩ := d23
    have or_6_10 : b6 < b10 := Nat.lt_of_lt_of_le z6 lo10
    have or_7_10 : b7 < b10 := Nat.lt_of_lt_of_le z7 lo10
    have or_8_10 : b8 < b10 := Nat.lt_of_lt_of_le z8 lo10
    have or_9_10 : b9 < b10 := Nat.lt_of_lt_of_le z9 lo10
    replace lo10 := Nat.le_trans hsz lo10
    refine wl_know 38 (.agg #[q38_0, q38_1, q38_2, q38_3, q38_4, q38_5]) e38 (by simp [undef]) ?_
    refine wl_know 10 (.pointer (some ⟨b10, 0, none⟩)) e10 (by simp [undef]) ?_
    refine wl_stW hb10 rfl rfl sz78 rfl (by repeat (first | rfl | refine one_cons (by first | rfl | assumption) ?_)) (fun w13 hq hs => ?_)
    replace hB := hB.tr1 hs lo10
    replace hb6 := hb6.tr1 hs (by omega)
    replace hb7 := hb7.tr1 hs (by omega)
    replace hb8 := hb8.tr1 hs (by omega)
    replace hb9 := hb9.tr1 hs (by omega)
    clear hs
    replace hb10 := hq
    refine x_nil ?_
    refine e_S ?_
    refine c_seq ?_
    refine c_seq ?_
    refine c_region ?_
    refine wl (r_mv (v := .bool _) rfl) ?_
    refine x_nil ?_
    refine e_S ?_
    refine c_if rfl (fun c39 => ?_) (fun c39 => ?_)
    · skip
      refine c_monoTO 6 [40, 41, 42, 43, 44, 45] (fun _ => false) (fun ix v wv => match ix with | 0 => ∃ x0 x1, v = .agg #[x0, x1] ∧ x0.oneCell' = true ∧ x1.oneCell' = true | 1 => ∃ x0 x1, v = .agg #[x0, x1] ∧ x0.oneCell' = true ∧ x1.oneCell' = true | 2 => ∃ x0 x1, v = .agg #[x0, x1] ∧ x0.oneCell' = true ∧ x1.oneCell' = true | 3 => ∃ x0 x1 x2 x3 x4 x5, v = .agg #[x0, x1, x2, x3, x4, x5] ∧ x0.oneCell' = true ∧ x1.oneCell' = true ∧ x2.oneCell' = true ∧ x3.oneCell' = true ∧ x4.oneCell' = true ∧ x5.oneCell' = true | 4 => ∃ x0 x1 x2 x3 x4 x5, v = .agg #[x0, x1, x2, x3, x4, x5] ∧ x0.oneCell' = true ∧ x1.oneCell' = true ∧ x2.oneCell' = true ∧ x3.oneCell' = true ∧ x4.oneCell' = true ∧ x5.oneCell' = true | 5 => ∃ x0 x1 x2 x3 x4 x5, v = .agg #[x0, x1, x2, x3, x4, x5] ∧ x0.oneCell' = true ∧ x1.oneCell' = true ∧ x2.oneCell' = true ∧ x3.oneCell' = true ∧ x4.oneCell' = true ∧ x5.oneCell' = true | _ => True) (by kernel_rfl) (by kernel_rfl) ?_ ?_ ?_
      · intro ix v wv wv2 h hs
        match ix, h with
        | 0, h => exact h
        | 1, h => exact h
        | 2, h => exact h
        | 3, h => exact h
        | 4, h => exact h
        | 5, h => exact h
        | _ + 6, h => exact trivial
      · intro ix o hix hoq gg wx hs hd hdis
        match ix, hix, hoq with
        | 0, _, hoq =>
          obtain rfl : _ = o := Option.some.inj hoq
          have hs0 := hs
          replace hB := hB.tr0 hs
          replace hb6 := hb6.tr0 hs
          replace hb7 := hb7.tr0 hs
          replace hb8 := hb8.tr0 hs
          replace hb9 := hb9.tr0 hs
          replace hb10 := hb10.tr0 hs
          clear hs
          refine os_rv (r_ldS Tryd.underlying70 rfl rfl hb8.range0 sz70) ⟨Same.refl _ _, ?_, frsh_no⟩
          exact ⟨_, _, rfl, (by first | rfl | assumption), (by first | rfl | assumption)⟩
        | 1, _, hoq =>
          obtain rfl : _ = o := Option.some.inj hoq
          have hs0 := hs
          replace hB := hB.tr0 hs
          replace hb6 := hb6.tr0 hs
          replace hb7 := hb7.tr0 hs
          replace hb8 := hb8.tr0 hs
          replace hb9 := hb9.tr0 hs
          replace hb10 := hb10.tr0 hs
          clear hs
          refine os_rv (r_ldS Tryd.underlying70 rfl rfl hb8.range0 sz70) ⟨Same.refl _ _, ?_, frsh_no⟩
          exact ⟨_, _, rfl, (by first | rfl | assumption), (by first | rfl | assumption)⟩
        | 2, _, hoq =>
          obtain rfl : _ = o := Option.some.inj hoq
          have hs0 := hs
          replace hB := hB.tr0 hs
          replace hb6 := hb6.tr0 hs
          replace hb7 := hb7.tr0 hs
          replace hb8 := hb8.tr0 hs
          replace hb9 := hb9.tr0 hs
          replace hb10 := hb10.tr0 hs
          clear hs
          have d0 : ∃ x0 x1, gg 40 = .agg #[x0, x1] ∧ x0.oneCell' = true ∧ x1.oneCell' = true := hd 0 (dep_of (by kernel_rfl))
          obtain ⟨q40_0, q40_1, e40, hq40_0, hq40_1⟩ := d0
          have d1 : ∃ x0 x1, gg 41 = .agg #[x0, x1] ∧ x0.oneCell' = true ∧ x1.oneCell' = true := hd 1 (dep_of (by kernel_rfl))
          obtain ⟨q41_0, q41_1, e41, hq41_0, hq41_1⟩ := d1
          refine os_know 40 (.agg #[q40_0, q40_1]) e40 (by simp [undef]) ?_
          refine os_know 41 (.agg #[q41_0, q41_1]) e41 (by simp [undef]) ?_
          refine os_cl fn25 (fun_any _ _ _ _ (by first | rfl | assumption) (by first | rfl | assumption) (by first | rfl | assumption) (by first | rfl | assumption) wx) rfl (fun e' w2 hr => ?_)
          obtain ⟨⟨q42_0, q42_1, rfl, hq42_0, hq42_1⟩, hs⟩ := hr
          exact ⟨_, rfl, Same.of_bel hs, ⟨_, _, rfl, (by first | rfl | assumption), (by first | rfl | assumption)⟩, frsh_no⟩
        | 3, _, hoq =>
          obtain rfl : _ = o := Option.some.inj hoq
          have hs0 := hs
          replace hB := hB.tr0 hs
          replace hb6 := hb6.tr0 hs
          replace hb7 := hb7.tr0 hs
          replace hb8 := hb8.tr0 hs
          replace hb9 := hb9.tr0 hs
          replace hb10 := hb10.tr0 hs
          clear hs
          have d2 : ∃ x0 x1, gg 42 = .agg #[x0, x1] ∧ x0.oneCell' = true ∧ x1.oneCell' = true := hd 2 (dep_of (by kernel_rfl))
          obtain ⟨q42_0, q42_1, e42, hq42_0, hq42_1⟩ := d2
          refine os_know 42 (.agg #[q42_0, q42_1]) e42 (by simp [undef]) ?_
          refine os_cl fn31 (con_any _ _ _ (by first | rfl | assumption) (by first | rfl | assumption) wx) rfl (fun e' w2 hr => ?_)
          obtain ⟨⟨q43_0, q43_1, q43_2, q43_3, q43_4, q43_5, rfl, hq43_0, hq43_1, hq43_2, hq43_3, hq43_4, hq43_5⟩, hs⟩ := hr
          exact ⟨_, rfl, Same.of_bel hs, ⟨_, _, _, _, _, _, rfl, (by first | rfl | assumption), (by first | rfl | assumption), (by first | rfl | assumption), (by first | rfl | assumption), (by first | rfl | assumption), (by first | rfl | assumption)⟩, frsh_no⟩
        | 4, _, hoq =>
          obtain rfl : _ = o := Option.some.inj hoq
          have hs0 := hs
          replace hB := hB.tr0 hs
          replace hb6 := hb6.tr0 hs
          replace hb7 := hb7.tr0 hs
          replace hb8 := hb8.tr0 hs
          replace hb9 := hb9.tr0 hs
          replace hb10 := hb10.tr0 hs
          clear hs
          refine os_rv (r_ldS Tryd.underlying78 rfl rfl hb10.range0 sz78) ⟨Same.refl _ _, ?_, frsh_no⟩
          exact ⟨_, _, _, _, _, _, rfl, (by first | rfl | assumption), (by first | rfl | assumption), (by first | rfl | assumption), (by first | rfl | assumption), (by first | rfl | assumption), (by first | rfl | assumption)⟩
        | 5, _, hoq =>
          obtain rfl : _ = o := Option.some.inj hoq
          have hs0 := hs
          replace hB := hB.tr0 hs
          replace hb6 := hb6.tr0 hs
          replace hb7 := hb7.tr0 hs
          replace hb8 := hb8.tr0 hs
          replace hb9 := hb9.tr0 hs
          replace hb10 := hb10.tr0 hs
          clear hs
          have d3 : ∃ x0 x1 x2 x3 x4 x5, gg 43 = .agg #[x0, x1, x2, x3, x4, x5] ∧ x0.oneCell' = true ∧ x1.oneCell' = true ∧ x2.oneCell' = true ∧ x3.oneCell' = true ∧ x4.oneCell' = true ∧ x5.oneCell' = true := hd 3 (dep_of (by kernel_rfl))
          obtain ⟨q43_0, q43_1, q43_2, q43_3, q43_4, q43_5, e43, hq43_0, hq43_1, hq43_2, hq43_3, hq43_4, hq43_5⟩ := d3
          have d4 : ∃ x0 x1 x2 x3 x4 x5, gg 44 = .agg #[x0, x1, x2, x3, x4, x5] ∧ x0.oneCell' = true ∧ x1.oneCell' = true ∧ x2.oneCell' = true ∧ x3.oneCell' = true ∧ x4.oneCell' = true ∧ x5.oneCell' = true := hd 4 (dep_of (by kernel_rfl))
          obtain ⟨q44_0, q44_1, q44_2, q44_3, q44_4, q44_5, e44, hq44_0, hq44_1, hq44_2, hq44_3, hq44_4, hq44_5⟩ := d4
          refine os_know 43 (.agg #[q43_0, q43_1, q43_2, q43_3, q43_4, q43_5]) e43 (by simp [undef]) ?_
          refine os_know 44 (.agg #[q44_0, q44_1, q44_2, q44_3, q44_4, q44_5]) e44 (by simp [undef]) ?_
          refine os_cl fn33 (app_any _ _ _ _ _ _ _ _ _ _ _ _ (by first | rfl | assumption) (by first | rfl | assumption) (by first | rfl | assumption) (by first | rfl | assumption) (by first | rfl | assumption) (by first | rfl | assumption) (by first | rfl | assumption) (by first | rfl | assumption) (by first | rfl | assumption) (by first | rfl | assumption) (by first | rfl | assumption) (by first | rfl | assumption) wx) rfl (fun e' w2 hr => ?_)
          obtain ⟨⟨q45_0, q45_1, q45_2, q45_3, q45_4, q45_5, rfl, hq45_0, hq45_1, hq45_2, hq45_3, hq45_4, hq45_5⟩, hs⟩ := hr
          exact ⟨_, rfl, Same.of_bel hs, ⟨_, _, _, _, _, _, rfl, (by first | rfl | assumption), (by first | rfl | assumption), (by first | rfl | assumption), (by first | rfl | assumption), (by first | rfl | assumption), (by first | rfl | assumption)⟩, frsh_no⟩
        | _ + 6, hix, _ => exact absurd hix (by omega)
      · intro gg w14 hs hR hdis
        have hs0 := hs
        replace hB := hB.tr0 hs
        replace hb6 := hb6.tr0 hs
        replace hb7 := hb7.tr0 hs
        replace hb8 := hb8.tr0 hs
        replace hb9 := hb9.tr0 hs
        replace hb10 := hb10.tr0 hs
        clear hs
        have d5 : ∃ x0 x1 x2 x3 x4 x5, gg 45 = .agg #[x0, x1, x2, x3, x4, x5] ∧ x0.oneCell' = true ∧ x1.oneCell' = true ∧ x2.oneCell' = true ∧ x3.oneCell' = true ∧ x4.oneCell' = true ∧ x5.oneCell' = true := hR 5 (by decide)
        obtain ⟨q45_0, q45_1, q45_2, q45_3, q45_4, q45_5, e45, hq45_0, hq45_1, hq45_2, hq45_3, hq45_4, hq45_5⟩ := d5
        refine wl_know 45 (.agg #[q45_0, q45_1, q45_2, q45_3, q45_4, q45_5]) e45 (by simp [undef]) ?_
        refine wl_stW hb10 rfl rfl sz78 rfl (by repeat (first | rfl | refine one_cons (by first | rfl | assumption) ?_)) (fun w15 hq hs => ?_)
        replace hB := hB.tr1 hs lo10
        replace hb6 := hb6.tr1 hs (by omega)
        replace hb7 := hb7.tr1 hs (by omega)
        replace hb8 := hb8.tr1 hs (by omega)
        replace hb9 := hb9.tr1 hs (by omega)
        clear hs
        replace hb10 := hq
        refine x_nil ?_
        refine e_S ?_
        refine c_seq ?_
        refine c_monoTO 5 [46, 47, 48, 49, 50] (fun _ => false) (fun ix v wv => match ix with | 0 => ∃ x0 x1, v = .agg #[x0, x1] ∧ x0.oneCell' = true ∧ x1.oneCell' = true | 1 => ∃ x0 x1, v = .agg #[x0, x1] ∧ x0.oneCell' = true ∧ x1.oneCell' = true | 2 => ∃ x0 x1 x2 x3 x4 x5, v = .agg #[x0, x1, x2, x3, x4, x5] ∧ x0.oneCell' = true ∧ x1.oneCell' = true ∧ x2.oneCell' = true ∧ x3.oneCell' = true ∧ x4.oneCell' = true ∧ x5.oneCell' = true | 3 => ∃ x0 x1 x2 x3 x4 x5, v = .agg #[x0, x1, x2, x3, x4, x5] ∧ x0.oneCell' = true ∧ x1.oneCell' = true ∧ x2.oneCell' = true ∧ x3.oneCell' = true ∧ x4.oneCell' = true ∧ x5.oneCell' = true | 4 => ∃ x0 x1 x2 x3 x4 x5, v = .agg #[x0, x1, x2, x3, x4, x5] ∧ x0.oneCell' = true ∧ x1.oneCell' = true ∧ x2.oneCell' = true ∧ x3.oneCell' = true ∧ x4.oneCell' = true ∧ x5.oneCell' = true | _ => True) (by kernel_rfl) (by kernel_rfl) ?_ ?_ ?_
        · intro ix v wv wv2 h hs
          match ix, h with
          | 0, h => exact h
          | 1, h => exact h
          | 2, h => exact h
          | 3, h => exact h
          | 4, h => exact h
          | _ + 5, h => exact trivial
        · intro ix o hix hoq gg wx hs hd hdis
          match ix, hix, hoq with
          | 0, _, hoq =>
            obtain rfl : _ = o := Option.some.inj hoq
            have hs0 := hs
            replace hB := hB.tr0 hs
            replace hb6 := hb6.tr0 hs
            replace hb7 := hb7.tr0 hs
            replace hb8 := hb8.tr0 hs
            replace hb9 := hb9.tr0 hs
            replace hb10 := hb10.tr0 hs
            clear hs
            refine os_rv (r_ldS Tryd.underlying70 rfl rfl hb9.range0 sz70) ⟨Same.refl _ _, ?_, frsh_no⟩
            exact ⟨_, _, rfl, (by first | rfl | assumption), (by first | rfl | assumption)⟩
          | 1, _, hoq =>
            obtain rfl : _ = o := Option.some.inj hoq
            have hs0 := hs
            replace hB := hB.tr0 hs
            replace hb6 := hb6.tr0 hs
            replace hb7 := hb7.tr0 hs
            replace hb8 := hb8.tr0 hs
            replace hb9 := hb9.tr0 hs
            replace hb10 := hb10.tr0 hs
            clear hs
            refine os_rv (r_ldS Tryd.underlying70 rfl rfl hb9.range0 sz70) ⟨Same.refl _ _, ?_, frsh_no⟩
            exact ⟨_, _, rfl, (by first | rfl | assumption), (by first | rfl | assumption)⟩
          | 2, _, hoq =>
            obtain rfl : _ = o := Option.some.inj hoq
            have hs0 := hs
            replace hB := hB.tr0 hs
            replace hb6 := hb6.tr0 hs
            replace hb7 := hb7.tr0 hs
            replace hb8 := hb8.tr0 hs
            replace hb9 := hb9.tr0 hs
            replace hb10 := hb10.tr0 hs
            clear hs
            refine os_rv (r_ldS Tryd.underlying78 rfl rfl hb10.range0 sz78) ⟨Same.refl _ _, ?_, frsh_no⟩
            exact ⟨_, _, _, _, _, _, rfl, (by first | rfl | assumption), (by first | rfl | assumption), (by first | rfl | assumption), (by first | rfl | assumption), (by first | rfl | assumption), (by first | rfl | assumption)⟩
          | 3, _, hoq =>
            obtain rfl : _ = o := Option.some.inj hoq
            have hs0 := hs
            replace hB := hB.tr0 hs
            replace hb6 := hb6.tr0 hs
            replace hb7 := hb7.tr0 hs
            replace hb8 := hb8.tr0 hs
            replace hb9 := hb9.tr0 hs
            replace hb10 := hb10.tr0 hs
            clear hs
            have d1 : ∃ x0 x1, gg 47 = .agg #[x0, x1] ∧ x0.oneCell' = true ∧ x1.oneCell' = true := hd 1 (dep_of (by kernel_rfl))
            obtain ⟨q47_0, q47_1, e47, hq47_0, hq47_1⟩ := d1
            have d2 : ∃ x0 x1 x2 x3 x4 x5, gg 48 = .agg #[x0, x1, x2, x3, x4, x5] ∧ x0.oneCell' = true ∧ x1.oneCell' = true ∧ x2.oneCell' = true ∧ x3.oneCell' = true ∧ x4.oneCell' = true ∧ x5.oneCell' = true := hd 2 (dep_of (by kernel_rfl))
            obtain ⟨q48_0, q48_1, q48_2, q48_3, q48_4, q48_5, e48, hq48_0, hq48_1, hq48_2, hq48_3, hq48_4, hq48_5⟩ := d2
            refine os_know 47 (.agg #[q47_0, q47_1]) e47 (by simp [undef]) ?_
            refine os_know 48 (.agg #[q48_0, q48_1, q48_2, q48_3, q48_4, q48_5]) e48 (by simp [undef]) ?_
            refine os_cl fn32 (abs_any _ _ _ _ _ _ _ _ (by first | rfl | assumption) (by first | rfl | assumption) (by first | rfl | assumption) (by first | rfl | assumption) (by first | rfl | assumption) (by first | rfl | assumption) (by first | rfl | assumption) (by first | rfl | assumption) wx) rfl (fun e' w2 hr => ?_)
            obtain ⟨⟨q49_0, q49_1, q49_2, q49_3, q49_4, q49_5, rfl, hq49_0, hq49_1, hq49_2, hq49_3, hq49_4, hq49_5⟩, hs⟩ := hr
            exact ⟨_, rfl, Same.of_bel hs, ⟨_, _, _, _, _, _, rfl, (by first | rfl | assumption), (by first | rfl | assumption), (by first | rfl | assumption), (by first | rfl | assumption), (by first | rfl | assumption), (by first | rfl | assumption)⟩, frsh_no⟩
          | 4, _, hoq =>
            obtain rfl : _ = o := Option.some.inj hoq
            have hs0 := hs
            replace hB := hB.tr0 hs
            replace hb6 := hb6.tr0 hs
            replace hb7 := hb7.tr0 hs
            replace hb8 := hb8.tr0 hs
            replace hb9 := hb9.tr0 hs
            replace hb10 := hb10.tr0 hs
            clear hs
            have d0 : ∃ x0 x1, gg 46 = .agg #[x0, x1] ∧ x0.oneCell' = true ∧ x1.oneCell' = true := hd 0 (dep_of (by kernel_rfl))
            obtain ⟨q46_0, q46_1, e46, hq46_0, hq46_1⟩ := d0
            have d3 : ∃ x0 x1 x2 x3 x4 x5, gg 49 = .agg #[x0, x1, x2, x3, x4, x5] ∧ x0.oneCell' = true ∧ x1.oneCell' = true ∧ x2.oneCell' = true ∧ x3.oneCell' = true ∧ x4.oneCell' = true ∧ x5.oneCell' = true := hd 3 (dep_of (by kernel_rfl))
            obtain ⟨q49_0, q49_1, q49_2, q49_3, q49_4, q49_5, e49, hq49_0, hq49_1, hq49_2, hq49_3, hq49_4, hq49_5⟩ := d3
            refine os_know 46 (.agg #[q46_0, q46_1]) e46 (by simp [undef]) ?_
            refine os_know 49 (.agg #[q49_0, q49_1, q49_2, q49_3, q49_4, q49_5]) e49 (by simp [undef]) ?_
            refine os_cl fn32 (abs_any _ _ _ _ _ _ _ _ (by first | rfl | assumption) (by first | rfl | assumption) (by first | rfl | assumption) (by first | rfl | assumption) (by first | rfl | assumption) (by first | rfl | assumption) (by first | rfl | assumption) (by first | rfl | assumption) wx) rfl (fun e' w2 hr => ?_)
            obtain ⟨⟨q50_0, q50_1, q50_2, q50_3, q50_4, q50_5, rfl, hq50_0, hq50_1, hq50_2, hq50_3, hq50_4, hq50_5⟩, hs⟩ := hr
            exact ⟨_, rfl, Same.of_bel hs, ⟨_, _, _, _, _, _, rfl, (by first | rfl | assumption), (by first | rfl | assumption), (by first | rfl | assumption), (by first | rfl | assumption), (by first | rfl | assumption), (by first | rfl | assumption)⟩, frsh_no⟩
          | _ + 5, hix, _ => exact absurd hix (by omega)
        · intro gg w16 hs hR hdis
          have hs0 := hs
          replace hB := hB.tr0 hs
          replace hb6 := hb6.tr0 hs
          replace hb7 := hb7.tr0 hs
          replace hb8 := hb8.tr0 hs
          replace hb9 := hb9.tr0 hs
          replace hb10 := hb10.tr0 hs
          clear hs
          have d4 : ∃ x0 x1 x2 x3 x4 x5, gg 50 = .agg #[x0, x1, x2, x3, x4, x5] ∧ x0.oneCell' = true ∧ x1.oneCell' = true ∧ x2.oneCell' = true ∧ x3.oneCell' = true ∧ x4.oneCell' = true ∧ x5.oneCell' = true := hR 4 (by decide)
          obtain ⟨q50_0, q50_1, q50_2, q50_3, q50_4, q50_5, e50, hq50_0, hq50_1, hq50_2, hq50_3, hq50_4, hq50_5⟩ := d4
          refine wl_know 50 (.agg #[q50_0, q50_1, q50_2, q50_3, q50_4, q50_5]) e50 (by simp [undef]) ?_
          refine wl_stW hb6 rfl rfl sz78 rfl (by repeat (first | rfl | refine one_cons (by first | rfl | assumption) ?_)) (fun w17 hq hs => ?_)
          replace hB := hB.tr1 hs lo6
          replace hb7 := hb7.tr1 hs (by omega)
          replace hb8 := hb8.tr1 hs (by omega)
          replace hb9 := hb9.tr1 hs (by omega)
          replace hb10 := hb10.tr1 hs (by omega)
          clear hs
          replace hb6 := hq
          refine x_nil ?_
          refine e_S ?_
          refine c_ret ?_
          refine fin1 (.inl rfl) rfl (rr_cell Tryd.underlying78 rfl rfl hb6.range0 sz78) ?_
          exact ⟨⟨_, _, _, _, _, _, rfl, (by first | rfl | assumption), (by first | rfl | assumption), (by first | rfl | assumption), (by first | rfl | assumption), (by first | rfl | assumption), (by first | rfl | assumption)⟩, hB⟩
    · skip
      refine c_skip ?_
      refine e_S ?_
      refine c_seq ?_
      refine c_monoTO 5 [46, 47, 48, 49, 50] (fun _ => false) (fun ix v wv => match ix with | 0 => ∃ x0 x1, v = .agg #[x0, x1] ∧ x0.oneCell' = true ∧ x1.oneCell' = true | 1 => ∃ x0 x1, v = .agg #[x0, x1] ∧ x0.oneCell' = true ∧ x1.oneCell' = true | 2 => ∃ x0 x1 x2 x3 x4 x5, v = .agg #[x0, x1, x2, x3, x4, x5] ∧ x0.oneCell' = true ∧ x1.oneCell' = true ∧ x2.oneCell' = true ∧ x3.oneCell' = true ∧ x4.oneCell' = true ∧ x5.oneCell' = true | 3 => ∃ x0 x1 x2 x3 x4 x5, v = .agg #[x0, x1, x2, x3, x4, x5] ∧ x0.oneCell' = true ∧ x1.oneCell' = true ∧ x2.oneCell' = true ∧ x3.oneCell' = true ∧ x4.oneCell' = true ∧ x5.oneCell' = true | 4 => ∃ x0 x1 x2 x3 x4 x5, v = .agg #[x0, x1, x2, x3, x4, x5] ∧ x0.oneCell' = true ∧ x1.oneCell' = true ∧ x2.oneCell' = true ∧ x3.oneCell' = true ∧ x4.oneCell' = true ∧ x5.oneCell' = true | _ => True) (by kernel_rfl) (by kernel_rfl) ?_ ?_ ?_
      · intro ix v wv wv2 h hs
        match ix, h with
        | 0, h => exact h
        | 1, h => exact h
        | 2, h => exact h
        | 3, h => exact h
        | 4, h => exact h
        | _ + 5, h => exact trivial
      · intro ix o hix hoq gg wx hs hd hdis
        match ix, hix, hoq with
        | 0, _, hoq =>
          obtain rfl : _ = o := Option.some.inj hoq
          have hs0 := hs
          replace hB := hB.tr0 hs
          replace hb6 := hb6.tr0 hs
          replace hb7 := hb7.tr0 hs
          replace hb8 := hb8.tr0 hs
          replace hb9 := hb9.tr0 hs
          replace hb10 := hb10.tr0 hs
          clear hs
          refine os_rv (r_ldS Tryd.underlying70 rfl rfl hb9.range0 sz70) ⟨Same.refl _ _, ?_, frsh_no⟩
          exact ⟨_, _, rfl, (by first | rfl | assumption), (by first | rfl | assumption)⟩
        | 1, _, hoq =>
          obtain rfl : _ = o := Option.some.inj hoq
          have hs0 := hs
          replace hB := hB.tr0 hs
          replace hb6 := hb6.tr0 hs
          replace hb7 := hb7.tr0 hs
          replace hb8 := hb8.tr0 hs
          replace hb9 := hb9.tr0 hs
          replace hb10 := hb10.tr0 hs
          clear hs
          refine os_rv (r_ldS Tryd.underlying70 rfl rfl hb9.range0 sz70) ⟨Same.refl _ _, ?_, frsh_no⟩
          exact ⟨_, _, rfl, (by first | rfl | assumption), (by first | rfl | assumption)⟩
        | 2, _, hoq =>
          obtain rfl : _ = o := Option.some.inj hoq
          have hs0 := hs
          replace hB := hB.tr0 hs
          replace hb6 := hb6.tr0 hs
          replace hb7 := hb7.tr0 hs
          replace hb8 := hb8.tr0 hs
          replace hb9 := hb9.tr0 hs
          replace hb10 := hb10.tr0 hs
          clear hs
          refine os_rv (r_ldS Tryd.underlying78 rfl rfl hb10.range0 sz78) ⟨Same.refl _ _, ?_, frsh_no⟩
          exact ⟨_, _, _, _, _, _, rfl, (by first | rfl | assumption), (by first | rfl | assumption), (by first | rfl | assumption), (by first | rfl | assumption), (by first | rfl | assumption), (by first | rfl | assumption)⟩
        | 3, _, hoq =>
          obtain rfl : _ = o := Option.some.inj hoq
          have hs0 := hs
          replace hB := hB.tr0 hs
          replace hb6 := hb6.tr0 hs
          replace hb7 := hb7.tr0 hs
          replace hb8 := hb8.tr0 hs
          replace hb9 := hb9.tr0 hs
          replace hb10 := hb10.tr0 hs
          clear hs
          have d1 : ∃ x0 x1, gg 47 = .agg #[x0, x1] ∧ x0.oneCell' = true ∧ x1.oneCell' = true := hd 1 (dep_of (by kernel_rfl))
          obtain ⟨q47_0, q47_1, e47, hq47_0, hq47_1⟩ := d1
          have d2 : ∃ x0 x1 x2 x3 x4 x5, gg 48 = .agg #[x0, x1, x2, x3, x4, x5] ∧ x0.oneCell' = true ∧ x1.oneCell' = true ∧ x2.oneCell' = true ∧ x3.oneCell' = true ∧ x4.oneCell' = true ∧ x5.oneCell' = true := hd 2 (dep_of (by kernel_rfl))
          obtain ⟨q48_0, q48_1, q48_2, q48_3, q48_4, q48_5, e48, hq48_0, hq48_1, hq48_2, hq48_3, hq48_4, hq48_5⟩ := d2
          refine os_know 47 (.agg #[q47_0, q47_1]) e47 (by simp [undef]) ?_
          refine os_know 48 (.agg #[q48_0, q48_1, q48_2, q48_3, q48_4, q48_5]) e48 (by simp [undef]) ?_
          refine os_cl fn32 (abs_any _ _ _ _ _ _ _ _ (by first | rfl | assumption) (by first | rfl | assumption) (by first | rfl | assumption) (by first | rfl | assumption) (by first | rfl | assumption) (by first | rfl | assumption) (by first | rfl | assumption) (by first | rfl | assumption) wx) rfl (fun e' w2 hr => ?_)
          obtain ⟨⟨q49_0, q49_1, q49_2, q49_3, q49_4, q49_5, rfl, hq49_0, hq49_1, hq49_2, hq49_3, hq49_4, hq49_5⟩, hs⟩ := hr
          exact ⟨_, rfl, Same.of_bel hs, ⟨_, _, _, _, _, _, rfl, (by first | rfl | assumption), (by first | rfl | assumption), (by first | rfl | assumption), (by first | rfl | assumption), (by first | rfl | assumption), (by first | rfl | assumption)⟩, frsh_no⟩
        | 4, _, hoq =>
          obtain rfl : _ = o := Option.some.inj hoq
          have hs0 := hs
          replace hB := hB.tr0 hs
          replace hb6 := hb6.tr0 hs
          replace hb7 := hb7.tr0 hs
          replace hb8 := hb8.tr0 hs
          replace hb9 := hb9.tr0 hs
          replace hb10 := hb10.tr0 hs
          clear hs
          have d0 : ∃ x0 x1, gg 46 = .agg #[x0, x1] ∧ x0.oneCell' = true ∧ x1.oneCell' = true := hd 0 (dep_of (by kernel_rfl))
          obtain ⟨q46_0, q46_1, e46, hq46_0, hq46_1⟩ := d0
          have d3 : ∃ x0 x1 x2 x3 x4 x5, gg 49 = .agg #[x0, x1, x2, x3, x4, x5] ∧ x0.oneCell' = true ∧ x1.oneCell' = true ∧ x2.oneCell' = true ∧ x3.oneCell' = true ∧ x4.oneCell' = true ∧ x5.oneCell' = true := hd 3 (dep_of (by kernel_rfl))
          obtain ⟨q49_0, q49_1, q49_2, q49_3, q49_4, q49_5, e49, hq49_0, hq49_1, hq49_2, hq49_3, hq49_4, hq49_5⟩ := d3
          refine os_know 46 (.agg #[q46_0, q46_1]) e46 (by simp [undef]) ?_
          refine os_know 49 (.agg #[q49_0, q49_1, q49_2, q49_3, q49_4, q49_5]) e49 (by simp [undef]) ?_
          refine os_cl fn32 (abs_any _ _ _ _ _ _ _ _ (by first | rfl | assumption) (by first | rfl | assumption) (by first | rfl | assumption) (by first | rfl | assumption) (by first | rfl | assumption) (by first | rfl | assumption) (by first | rfl | assumption) (by first | rfl | assumption) wx) rfl (fun e' w2 hr => ?_)
          obtain ⟨⟨q50_0, q50_1, q50_2, q50_3, q50_4, q50_5, rfl, hq50_0, hq50_1, hq50_2, hq50_3, hq50_4, hq50_5⟩, hs⟩ := hr
          exact ⟨_, rfl, Same.of_bel hs, ⟨_, _, _, _, _, _, rfl, (by first | rfl | assumption), (by first | rfl | assumption), (by first | rfl | assumption), (by first | rfl | assumption), (by first | rfl | assumption), (by first | rfl | assumption)⟩, frsh_no⟩
        | _ + 5, hix, _ => exact absurd hix (by omega)
      · intro gg w18 hs hR hdis
        have hs0 := hs
        replace hB := hB.tr0 hs
        replace hb6 := hb6.tr0 hs
        replace hb7 := hb7.tr0 hs
        replace hb8 := hb8.tr0 hs
        replace hb9 := hb9.tr0 hs
        replace hb10 := hb10.tr0 hs
        clear hs
        have d4 : ∃ x0 x1 x2 x3 x4 x5, gg 50 = .agg #[x0, x1, x2, x3, x4, x5] ∧ x0.oneCell' = true ∧ x1.oneCell' = true ∧ x2.oneCell' = true ∧ x3.oneCell' = true ∧ x4.oneCell' = true ∧ x5.oneCell' = true := hR 4 (by decide)
        obtain ⟨q50_0, q50_1, q50_2, q50_3, q50_4, q50_5, e50, hq50_0, hq50_1, hq50_2, hq50_3, hq50_4, hq50_5⟩ := d4
        refine wl_know 50 (.agg #[q50_0, q50_1, q50_2, q50_3, q50_4, q50_5]) e50 (by simp [undef]) ?_
        refine wl_stW hb6 rfl rfl sz78 rfl (by repeat (first | rfl | refine one_cons (by first | rfl | assumption) ?_)) (fun w19 hq hs => ?_)
        replace hB := hB.tr1 hs lo6
        replace hb7 := hb7.tr1 hs (by omega)
        replace hb8 := hb8.tr1 hs (by omega)
        replace hb9 := hb9.tr1 hs (by omega)
        replace hb10 := hb10.tr1 hs (by omega)
        clear hs
        replace hb6 := hq
        refine x_nil ?_
        refine e_S ?_
        refine c_ret ?_
        refine fin1 (.inl rfl) rfl (rr_cell Tryd.underlying78 rfl rfl hb6.range0 sz78) ?_
        exact ⟨⟨_, _, _, _, _, _, rfl, (by first | rfl | assumption), (by first | rfl | assumption), (by first | rfl | assumption), (by first | rfl | assumption), (by first | rfl | assumption), (by first | rfl | assumption)⟩, hB⟩
end Go.Proofs.YthhkbhapfcfdjaaDoor
