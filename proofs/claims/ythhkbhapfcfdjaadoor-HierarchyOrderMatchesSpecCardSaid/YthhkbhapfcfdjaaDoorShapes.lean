/- What these functions of the program compute, at every world: glosswright/glosswrightequal.base, glosswright/glosswrightequal.fun, glosswright/glosswrightequal.con, glosswright/glosswrightequal.bound, glosswright/glosswrightequal.abs, glosswright/glosswrightequal.app. -/
import Derived.Test.YthhkbhapfcfdjaaDoorHFault
namespace Go.Proofs.YthhkbhapfcfdjaaDoor
open Go.RowKit

theorem sz70 : (Tryd.prog.info? 70).map (·.size) = some 2 := by kernel_rfl
theorem sz78 : (Tryd.prog.info? 78).map (·.size) = some 6 := by kernel_rfl
theorem ze70 : (Tryd.prog.info? 70).map (·.zero) = some (some (.agg #[.string ⟨#[]⟩, .slice none 0 0])) := by kernel_rfl
theorem ze78 : (Tryd.prog.info? 78).map (·.zero) = some (some (.agg #[.int .i64 0, .string ⟨#[]⟩, .int .i64 0, .string ⟨#[]⟩, .slice none 0 0, .slice none 0 0])) := by kernel_rfl
theorem base_any (s : ByteArray) (w : World) : Calls Tryd.prog 24 #[.string s] w fun e w' => e = .returned (.agg #[.string s, .slice none 0 0]) ∧ Bel w w' := by
  refine enter Tryd.func24 Tryd.ntmps24 rfl (Nat.le_of_ble_eq_true rfl) ?_
  have hB : Bel w w := Below.refl _ _
  refine c_seq ?_
  refine c_region ?_
  refine wl_al (cs := #[.string ⟨#[]⟩, .slice none 0 0]) ze70 rfl (fun b2 w1 hb2 hs hr => ?_)
  have lo2 := Nat.le_trans (Bel.size hB) hr
  replace hB := hB.tr0 hs
  clear hs
  clear hr
  refine x_nil ?_
  refine e_S ?_
  refine c_seq ?_
  refine c_region ?_
  refine wl (r_mv (v := .string _) rfl) ?_
  refine wl (r_bd1 (v0 := .string _) (fun v0 => #[v0, .slice none 0 0]) rfl (by kernel_rfl)) ?_
  refine wl_stW hb2 rfl rfl sz70 rfl (by repeat (first | rfl | refine one_cons (by first | rfl | assumption) ?_)) (fun w2 hq hs => ?_)
  replace hB := hB.tr1 hs lo2
  clear hs
  replace hb2 := hq
  refine x_nil ?_
  refine e_S ?_
  refine c_ret ?_
  refine fin1 (.inl rfl) rfl (rr_cell Tryd.underlying70 rfl rfl hb2.range0 sz70) ?_
  exact ⟨rfl, hB⟩

theorem fun_any (x0 x1 y0 y1 : Value) (hx0 : x0.oneCell' = true) (hx1 : x1.oneCell' = true) (hy0 : y0.oneCell' = true) (hy1 : y1.oneCell' = true) (w : World) : Calls Tryd.prog 25 #[.agg #[x0, x1], .agg #[y0, y1]] w fun e w' => (∃ p0 p1, e = .returned (.agg #[p0, p1]) ∧ p0.oneCell' = true ∧ p1.oneCell' = true) ∧ Bel w w' := by
  refine enter Tryd.func25 Tryd.ntmps25 rfl (Nat.le_of_ble_eq_true rfl) ?_
  have hB : Bel w w := Below.refl _ _
  refine c_seq ?_
  refine c_region ?_
  refine wl_bx (v := .agg #[_, _]) (cs := #[_, _]) rfl rfl (fun b2 w1 hb2 hs hr => ?_)
  have lo2 := Nat.le_trans (Bel.size hB) hr
  replace hB := hB.tr0 hs
  clear hs
  clear hr
  refine wl_bx (v := .agg #[_, _]) (cs := #[_, _]) rfl rfl (fun b3 w2 hb3 hs hr => ?_)
  have or_b2_b3 : b2 < b3 := Nat.lt_of_lt_of_le hb2.lt hr
  have lo3 := Nat.le_trans (Bel.size hB) hr
  replace hB := hB.tr0 hs
  replace hb2 := hb2.tr0 hs
  clear hs
  clear hr
  refine wl_al (cs := #[.string ⟨#[]⟩, .slice none 0 0]) ze70 rfl (fun b4 w3 hb4 hs hr => ?_)
  have or_b2_b4 : b2 < b4 := Nat.lt_of_lt_of_le hb2.lt hr
  have or_b3_b4 : b3 < b4 := Nat.lt_of_lt_of_le hb3.lt hr
  have lo4 := Nat.le_trans (Bel.size hB) hr
  replace hB := hB.tr0 hs
  replace hb2 := hb2.tr0 hs
  replace hb3 := hb3.tr0 hs
  clear hs
  clear hr
  refine x_nil ?_
  refine e_S ?_
  refine c_seq ?_
  refine c_region ?_
  refine wl (r_ldS Tryd.underlying70 rfl rfl hb2.range0 sz70) ?_
  refine wl (r_ldS Tryd.underlying70 rfl rfl hb3.range0 sz70) ?_
  refine wl_bs (cs := #[_, _, _, _]) [(0, .agg _), (1, .agg _)] rfl Tryd.underlying68 sz70 ze70 (by decide) (by decide) (by kernel_rfl) rfl (fun b7 w4 hb7 hs hr => ?_)
  have or_b2_b7 : b2 < b7 := Nat.lt_of_lt_of_le hb2.lt hr
  have or_b3_b7 : b3 < b7 := Nat.lt_of_lt_of_le hb3.lt hr
  have or_b4_b7 : b4 < b7 := Nat.lt_of_lt_of_le hb4.lt hr
  have lo7 := Nat.le_trans (Bel.size hB) hr
  replace hB := hB.tr0 hs
  replace hb2 := hb2.tr0 hs
  replace hb3 := hb3.tr0 hs
  replace hb4 := hb4.tr0 hs
  clear hs
  clear hr
  refine wl (r_bd1 (v0 := .slice _ _ _) (fun v0 => #[.string ⟨#[]⟩, v0]) rfl (by kernel_rfl)) ?_
  refine wl_stW hb4 rfl rfl sz70 rfl (by repeat (first | rfl | refine one_cons (by first | rfl | assumption) ?_)) (fun w5 hq hs => ?_)
  replace hB := hB.tr1 hs lo4
  replace hb2 := hb2.tr1 hs (by omega)
  replace hb3 := hb3.tr1 hs (by omega)
  replace hb7 := hb7.tr1 hs (by omega)
  clear hs
  replace hb4 := hq
  refine x_nil ?_
  refine e_S ?_
  refine c_ret ?_
  refine fin1 (.inl rfl) rfl (rr_cell Tryd.underlying70 rfl rfl hb4.range0 sz70) ?_
  exact ⟨⟨_, _, rfl, (by first | rfl | assumption), (by first | rfl | assumption)⟩, hB⟩

theorem con_any (s : ByteArray) (x0 x1 : Value) (hx0 : x0.oneCell' = true) (hx1 : x1.oneCell' = true) (w : World) : Calls Tryd.prog 31 #[.string s, .agg #[x0, x1]] w fun e w' => (∃ p0 p1 p2 p3 p4 p5, e = .returned (.agg #[p0, p1, p2, p3, p4, p5]) ∧ p0.oneCell' = true ∧ p1.oneCell' = true ∧ p2.oneCell' = true ∧ p3.oneCell' = true ∧ p4.oneCell' = true ∧ p5.oneCell' = true) ∧ Bel w w' := by
  refine enter Tryd.func31 Tryd.ntmps31 rfl (Nat.le_of_ble_eq_true rfl) ?_
  have hB : Bel w w := Below.refl _ _
  refine c_seq ?_
  refine c_region ?_
  refine wl_bx (v := .agg #[_, _]) (cs := #[_, _]) rfl rfl (fun b3 w1 hb3 hs hr => ?_)
  have lo3 := Nat.le_trans (Bel.size hB) hr
  replace hB := hB.tr0 hs
  clear hs
  clear hr
  refine wl_al (cs := #[.int .i64 0, .string ⟨#[]⟩, .int .i64 0, .string ⟨#[]⟩, .slice none 0 0, .slice none 0 0]) ze78 rfl (fun b4 w2 hb4 hs hr => ?_)
  have or_b3_b4 : b3 < b4 := Nat.lt_of_lt_of_le hb3.lt hr
  have lo4 := Nat.le_trans (Bel.size hB) hr
  replace hB := hB.tr0 hs
  replace hb3 := hb3.tr0 hs
  clear hs
  clear hr
  refine x_nil ?_
  refine e_S ?_
  refine c_seq ?_
  refine c_region ?_
  refine wl (r_mv (v := .string _) rfl) ?_
  refine wl (r_ldS Tryd.underlying70 rfl rfl hb3.range0 sz70) ?_
  refine wl (r_bd3 (v0 := .int _ _) (v1 := .string _) (v2 := .agg _) (fun v0 v1 v2 => #[v0, v1, .int .i64 0, (cellOf v2 0), (cellOf v2 1), .slice none 0 0]) rfl rfl rfl (by kernel_rfl)) ?_
  refine wl_stW hb4 rfl rfl sz78 rfl (by repeat (first | rfl | refine one_cons (by first | rfl | assumption) ?_)) (fun w3 hq hs => ?_)
  replace hB := hB.tr1 hs lo4
  replace hb3 := hb3.tr1 hs (by omega)
  clear hs
  replace hb4 := hq
  refine x_nil ?_
  refine e_S ?_
  refine c_ret ?_
  refine fin1 (.inl rfl) rfl (rr_cell Tryd.underlying78 rfl rfl hb4.range0 sz78) ?_
  exact ⟨⟨_, _, _, _, _, _, rfl, (by first | rfl | assumption), (by first | rfl | assumption), (by first | rfl | assumption), (by first | rfl | assumption), (by first | rfl | assumption), (by first | rfl | assumption)⟩, hB⟩

theorem bound_any (i : Int) (w : World) : Calls Tryd.prog 34 #[.int .i64 i] w fun e w' => (∃ p0 p1 p2 p3 p4 p5, e = .returned (.agg #[p0, p1, p2, p3, p4, p5]) ∧ p0.oneCell' = true ∧ p1.oneCell' = true ∧ p2.oneCell' = true ∧ p3.oneCell' = true ∧ p4.oneCell' = true ∧ p5.oneCell' = true) ∧ Bel w w' := by
  refine enter Tryd.func34 Tryd.ntmps34 rfl (Nat.le_of_ble_eq_true rfl) ?_
  have hB : Bel w w := Below.refl _ _
  refine c_seq ?_
  refine c_region ?_
  refine wl_al (cs := #[.int .i64 0, .string ⟨#[]⟩, .int .i64 0, .string ⟨#[]⟩, .slice none 0 0, .slice none 0 0]) ze78 rfl (fun b2 w1 hb2 hs hr => ?_)
  have lo2 := Nat.le_trans (Bel.size hB) hr
  replace hB := hB.tr0 hs
  clear hs
  clear hr
  refine x_nil ?_
  refine e_S ?_
  refine c_seq ?_
  refine c_region ?_
  refine wl (r_mv (v := .int _ _) rfl) ?_
  refine wl (r_bd2 (v0 := .int _ _) (v1 := .int _ _) (fun v0 v1 => #[v0, .string ⟨#[]⟩, v1, .string ⟨#[]⟩, .slice none 0 0, .slice none 0 0]) rfl rfl (by kernel_rfl)) ?_
  refine wl_stW hb2 rfl rfl sz78 rfl (by repeat (first | rfl | refine one_cons (by first | rfl | assumption) ?_)) (fun w2 hq hs => ?_)
  replace hB := hB.tr1 hs lo2
  clear hs
  replace hb2 := hq
  refine x_nil ?_
  refine e_S ?_
  refine c_ret ?_
  refine fin1 (.inl rfl) rfl (rr_cell Tryd.underlying78 rfl rfl hb2.range0 sz78) ?_
  exact ⟨⟨_, _, _, _, _, _, rfl, (by first | rfl | assumption), (by first | rfl | assumption), (by first | rfl | assumption), (by first | rfl | assumption), (by first | rfl | assumption), (by first | rfl | assumption)⟩, hB⟩

theorem abs_any (x0 x1 y0 y1 y2 y3 y4 y5 : Value) (hx0 : x0.oneCell' = true) (hx1 : x1.oneCell' = true) (hy0 : y0.oneCell' = true) (hy1 : y1.oneCell' = true) (hy2 : y2.oneCell' = true) (hy3 : y3.oneCell' = true) (hy4 : y4.oneCell' = true) (hy5 : y5.oneCell' = true) (w : World) : Calls Tryd.prog 32 #[.agg #[x0, x1], .agg #[y0, y1, y2, y3, y4, y5]] w fun e w' => (∃ p0 p1 p2 p3 p4 p5, e = .returned (.agg #[p0, p1, p2, p3, p4, p5]) ∧ p0.oneCell' = true ∧ p1.oneCell' = true ∧ p2.oneCell' = true ∧ p3.oneCell' = true ∧ p4.oneCell' = true ∧ p5.oneCell' = true) ∧ Bel w w' := by
  refine enter Tryd.func32 Tryd.ntmps32 rfl (Nat.le_of_ble_eq_true rfl) ?_
  have hB : Bel w w := Below.refl _ _
  refine c_seq ?_
  refine c_region ?_
  refine wl_bx (v := .agg #[_, _]) (cs := #[_, _]) rfl rfl (fun b2 w1 hb2 hs hr => ?_)
  have lo2 := Nat.le_trans (Bel.size hB) hr
  replace hB := hB.tr0 hs
  clear hs
  clear hr
  refine wl_bx (v := .agg #[_, _, _, _, _, _]) (cs := #[_, _, _, _, _, _]) rfl rfl (fun b3 w2 hb3 hs hr => ?_)
  have or_b2_b3 : b2 < b3 := Nat.lt_of_lt_of_le hb2.lt hr
  have lo3 := Nat.le_trans (Bel.size hB) hr
  replace hB := hB.tr0 hs
  replace hb2 := hb2.tr0 hs
  clear hs
  clear hr
  refine wl_al (cs := #[.int .i64 0, .string ⟨#[]⟩, .int .i64 0, .string ⟨#[]⟩, .slice none 0 0, .slice none 0 0]) ze78 rfl (fun b4 w3 hb4 hs hr => ?_)
  have or_b2_b4 : b2 < b4 := Nat.lt_of_lt_of_le hb2.lt hr
  have or_b3_b4 : b3 < b4 := Nat.lt_of_lt_of_le hb3.lt hr
  have lo4 := Nat.le_trans (Bel.size hB) hr
  replace hB := hB.tr0 hs
  replace hb2 := hb2.tr0 hs
  replace hb3 := hb3.tr0 hs
  clear hs
  clear hr
  refine x_nil ?_
  refine e_S ?_
  refine c_seq ?_
  refine c_region ?_
  refine wl (r_ldS Tryd.underlying70 rfl rfl hb2.range0 sz70) ?_
  refine wl (r_ldS Tryd.underlying78 rfl rfl hb3.range0 sz78) ?_
  refine wl_bs (cs := #[_, _, _, _, _, _]) [(0, .agg _)] rfl Tryd.underlying75 sz78 ze78 (by decide) (by decide) (by kernel_rfl) rfl (fun b7 w4 hb7 hs hr => ?_)
  have or_b2_b7 : b2 < b7 := Nat.lt_of_lt_of_le hb2.lt hr
  have or_b3_b7 : b3 < b7 := Nat.lt_of_lt_of_le hb3.lt hr
  have or_b4_b7 : b4 < b7 := Nat.lt_of_lt_of_le hb4.lt hr
  have lo7 := Nat.le_trans (Bel.size hB) hr
  replace hB := hB.tr0 hs
  replace hb2 := hb2.tr0 hs
  replace hb3 := hb3.tr0 hs
  replace hb4 := hb4.tr0 hs
  clear hs
  clear hr
  refine wl (r_bd3 (v0 := .int _ _) (v1 := .agg _) (v2 := .slice _ _ _) (fun v0 v1 v2 => #[v0, .string ⟨#[]⟩, .int .i64 0, (cellOf v1 0), (cellOf v1 1), v2]) rfl rfl rfl (by kernel_rfl)) ?_
  refine wl_stW hb4 rfl rfl sz78 rfl (by repeat (first | rfl | refine one_cons (by first | rfl | assumption) ?_)) (fun w5 hq hs => ?_)
  replace hB := hB.tr1 hs lo4
  replace hb2 := hb2.tr1 hs (by omega)
  replace hb3 := hb3.tr1 hs (by omega)
  replace hb7 := hb7.tr1 hs (by omega)
  clear hs
  replace hb4 := hq
  refine x_nil ?_
  refine e_S ?_
  refine c_ret ?_
  refine fin1 (.inl rfl) rfl (rr_cell Tryd.underlying78 rfl rfl hb4.range0 sz78) ?_
  exact ⟨⟨_, _, _, _, _, _, rfl, (by first | rfl | assumption), (by first | rfl | assumption), (by first | rfl | assumption), (by first | rfl | assumption), (by first | rfl | assumption), (by first | rfl | assumption)⟩, hB⟩

theorem app_any (x0 x1 x2 x3 x4 x5 y0 y1 y2 y3 y4 y5 : Value) (hx0 : x0.oneCell' = true) (hx1 : x1.oneCell' = true) (hx2 : x2.oneCell' = true) (hx3 : x3.oneCell' = true) (hx4 : x4.oneCell' = true) (hx5 : x5.oneCell' = true) (hy0 : y0.oneCell' = true) (hy1 : y1.oneCell' = true) (hy2 : y2.oneCell' = true) (hy3 : y3.oneCell' = true) (hy4 : y4.oneCell' = true) (hy5 : y5.oneCell' = true) (w : World) : Calls Tryd.prog 33 #[.agg #[x0, x1, x2, x3, x4, x5], .agg #[y0, y1, y2, y3, y4, y5]] w fun e w' => (∃ p0 p1 p2 p3 p4 p5, e = .returned (.agg #[p0, p1, p2, p3, p4, p5]) ∧ p0.oneCell' = true ∧ p1.oneCell' = true ∧ p2.oneCell' = true ∧ p3.oneCell' = true ∧ p4.oneCell' = true ∧ p5.oneCell' = true) ∧ Bel w w' := by
  refine enter Tryd.func33 Tryd.ntmps33 rfl (Nat.le_of_ble_eq_true rfl) ?_
  have hB : Bel w w := Below.refl _ _
  refine c_seq ?_
  refine c_region ?_
  refine wl_bx (v := .agg #[_, _, _, _, _, _]) (cs := #[_, _, _, _, _, _]) rfl rfl (fun b2 w1 hb2 hs hr => ?_)
  have lo2 := Nat.le_trans (Bel.size hB) hr
  replace hB := hB.tr0 hs
  clear hs
  clear hr
  refine wl_bx (v := .agg #[_, _, _, _, _, _]) (cs := #[_, _, _, _, _, _]) rfl rfl (fun b3 w2 hb3 hs hr => ?_)
  have or_b2_b3 : b2 < b3 := Nat.lt_of_lt_of_le hb2.lt hr
  have lo3 := Nat.le_trans (Bel.size hB) hr
  replace hB := hB.tr0 hs
  replace hb2 := hb2.tr0 hs
  clear hs
  clear hr
  refine wl_al (cs := #[.int .i64 0, .string ⟨#[]⟩, .int .i64 0, .string ⟨#[]⟩, .slice none 0 0, .slice none 0 0]) ze78 rfl (fun b4 w3 hb4 hs hr => ?_)
  have or_b2_b4 : b2 < b4 := Nat.lt_of_lt_of_le hb2.lt hr
  have or_b3_b4 : b3 < b4 := Nat.lt_of_lt_of_le hb3.lt hr
  have lo4 := Nat.le_trans (Bel.size hB) hr
  replace hB := hB.tr0 hs
  replace hb2 := hb2.tr0 hs
  replace hb3 := hb3.tr0 hs
  clear hs
  clear hr
  refine x_nil ?_
  refine e_S ?_
  refine c_seq ?_
  refine c_region ?_
  refine wl (r_ldS Tryd.underlying78 rfl rfl hb2.range0 sz78) ?_
  refine wl (r_ldS Tryd.underlying78 rfl rfl hb3.range0 sz78) ?_
  refine wl_bs (cs := #[_, _, _, _, _, _, _, _, _, _, _, _]) [(0, .agg _), (1, .agg _)] rfl Tryd.underlying75 sz78 ze78 (by decide) (by decide) (by kernel_rfl) rfl (fun b7 w4 hb7 hs hr => ?_)
  have or_b2_b7 : b2 < b7 := Nat.lt_of_lt_of_le hb2.lt hr
  have or_b3_b7 : b3 < b7 := Nat.lt_of_lt_of_le hb3.lt hr
  have or_b4_b7 : b4 < b7 := Nat.lt_of_lt_of_le hb4.lt hr
  have lo7 := Nat.le_trans (Bel.size hB) hr
  replace hB := hB.tr0 hs
  replace hb2 := hb2.tr0 hs
  replace hb3 := hb3.tr0 hs
  replace hb4 := hb4.tr0 hs
  clear hs
  clear hr
  refine wl (r_bd2 (v0 := .int _ _) (v1 := .slice _ _ _) (fun v0 v1 => #[v0, .string ⟨#[]⟩, .int .i64 0, .string ⟨#[]⟩, .slice none 0 0, v1]) rfl rfl (by kernel_rfl)) ?_
  refine wl_stW hb4 rfl rfl sz78 rfl (by repeat (first | rfl | refine one_cons (by first | rfl | assumption) ?_)) (fun w5 hq hs => ?_)
  replace hB := hB.tr1 hs lo4
  replace hb2 := hb2.tr1 hs (by omega)
  replace hb3 := hb3.tr1 hs (by omega)
  replace hb7 := hb7.tr1 hs (by omega)
  clear hs
  replace hb4 := hq
  refine x_nil ?_
  refine e_S ?_
  refine c_ret ?_
  refine fin1 (.inl rfl) rfl (rr_cell Tryd.underlying78 rfl rfl hb4.range0 sz78) ?_
  exact ⟨⟨_, _, _, _, _, _, rfl, (by first | rfl | assumption), (by first | rfl | assumption), (by first | rfl | assumption), (by first | rfl | assumption), (by first | rfl | assumption), (by first | rfl | assumption)⟩, hB⟩
end Go.Proofs.YthhkbhapfcfdjaaDoor
