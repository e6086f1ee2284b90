/- What these functions of the program compute, at every world: glosswright/glosswrightequal.Small$1. -/
import Derived.Test.YthhkbhapfcfdjaaDoorHOf
namespace Go.Proofs.YthhkbhapfcfdjaaDoor
open Go.RowKit

theorem Same.fresh {X : List Nat} {b : Nat} {w w1 w2 : World} (h : Same X w w1) (hs : Same [b] w1 w2) (hb : w.heap.size ≤ b) : Same X w w2 :=
  ⟨hs.os.trans h.os, hs.tape.trans h.tape, hs.output.trans h.output, Nat.le_trans h.size hs.size, fun k hk hx => (hs.blk k (Nat.lt_of_lt_of_le hk h.size) (fun hm => by simp only [List.mem_singleton] at hm; omega)).trans (h.blk k hk hx)⟩

theorem fn28 : callable Tryd.prog 28 = true := by kernel_rfl
theorem in84 : (Tryd.prog.info? 84).map (fun i => (i.zero, i.size, i.bytes)) = some (some (.agg #[.string ⟨#[]⟩, .slice none 0 0, .int .i64 0, .int .i64 0, .string ⟨#[]⟩, .int .i64 0, .string ⟨#[]⟩, .slice none 0 0, .slice none 0 0]), 9, 144) := by kernel_rfl
theorem sz31 : (Tryd.prog.info? 31).map (·.size) = some 1 := by kernel_rfl
theorem sz84 : (Tryd.prog.info? 84).map (·.size) = some 9 := by kernel_rfl
theorem ze84 : (Tryd.prog.info? 84).map (·.zero) = some (some (.agg #[.string ⟨#[]⟩, .slice none 0 0, .int .i64 0, .int .i64 0, .string ⟨#[]⟩, .int .i64 0, .string ⟨#[]⟩, .slice none 0 0, .slice none 0 0])) := by kernel_rfl
set_option maxHeartbeats 1000000 in
theorem add_any (s : ByteArray) (z : Int) (x0 x1 x2 x3 x4 x5 : Value) (hx0 : x0.oneCell' = true) (hx1 : x1.oneCell' = true) (hx2 : x2.oneCell' = true) (hx3 : x3.oneCell' = true) (hx4 : x4.oneCell' = true) (hx5 : x5.oneCell' = true) (R A : Option Addr) (rs : List (List Int)) (c bG base k cap : Nat) (c0 c1 c2 c4 : Value) (xs : List Value) (w : World) (hR : RowsIn w R rs) (hbG : Blk w bG 36 #[c0, c1, c2, .slice A k cap, c4]) (ho : Own w base 84 9 A k cap xs) (hbase : base ≤ w.heap.size) (hbl : bG < base) (hk : k ≤ 1000) : Calls Tryd.prog 29 #[.string s, .int .i64 z, .agg #[x0, x1, x2, x3, x4, x5], .slice R rs.length c, .pointer (some ⟨bG, 0, none⟩)] w (fun e w' => e = .returned (.tuple #[]) ∧ ∃ A' cap' xs', Blk w' bG 36 #[c0, c1, c2, .slice A' (k + 1) cap', c4] ∧ Own w' base 84 9 A' (k + 1) cap' xs' ∧ Same (bG :: aL A) w w' ∧ (aL A' = aL A ∨ ∀ g ∈ aL A', w.heap.size ≤ g)) := by
  refine enter Tryd.func29 Tryd.ntmps29 rfl (Nat.le_of_ble_eq_true rfl) ?_
  have hB : Bel w w := Below.refl _ _
  refine c_seq ?_
  refine c_region ?_
  refine wl_bx (v := .agg #[_, _, _, _, _, _]) (cs := #[_, _, _, _, _, _]) rfl rfl (fun b7 w1 hb7 hs hr => ?_)
  have or_bG_b7 : bG < b7 := Nat.lt_of_lt_of_le hbG.lt hr
  have or_ho_b7 := fun g hg => Nat.lt_of_lt_of_le (ho.lt g hg).2 hr
  have lo7 := Nat.le_trans (Bel.size hB) hr
  replace hB := hB.tr0 hs
  replace hbG := hbG.tr0 hs
  replace ho := ho.tr0 hs
  clear hs
  clear hr
  refine x_nil ?_
  refine e_S ?_
  have zG := hbG.lt
  have zo := fun g hg => (ho.lt g hg).2
  have hsz := Bel.size hB
  have hrs := hR.1
  refine c_monoTO 9 [9, 10, 11, 12, 13, 14, 15, 16, 17] (fun ix => Nat.beq ix 8) (fun ix v wv => match ix with | 0 => v = .pointer (some ⟨bG, 3, none⟩) | 1 => v = .slice A k cap | 2 => v = .string s | 3 => v = .int .i64 z | 4 => v = .agg #[x0, x1, x2, x3, x4, x5] | 5 => v = .slice R rs.length c | 6 => ∃ x0, v = .agg #[x0] ∧ x0.oneCell' = true | 7 => ∃ x0 x1 x2 x3 x4 x5 x6 x7 x8, v = .agg #[x0, x1, x2, x3, x4, x5, x6, x7, x8] ∧ x0.oneCell' = true ∧ x1.oneCell' = true ∧ x2.oneCell' = true ∧ x3.oneCell' = true ∧ x4.oneCell' = true ∧ x5.oneCell' = true ∧ x6.oneCell' = true ∧ x7.oneCell' = true ∧ x8.oneCell' = true | 8 => ∃ b cs, v = .slice (some ⟨b, 0, none⟩) 1 1 ∧ w1.heap.size ≤ b ∧ Blk wv b 84 cs ∧ cs.size = 9 ∧ cs.toList.all (·.oneCell') = true | _ => True) (by kernel_rfl) (by kernel_rfl) ?_ ?_ ?_
  · intro ix v wv wv2 h hs
    match ix, h with
    | 0, h => exact h
    | 1, h => exact h
    | 2, h => exact h
    | 3, h => exact h
    | 4, h => exact h
    | 5, h => exact h
    | 6, h => exact h
    | 7, h => exact h
    | 8, h =>
      obtain ⟨b17, cs17, e17, lo17, hb17, hsz17, hon17⟩ := (show ∃ b cs, v = .slice (some ⟨b, 0, none⟩) 1 1 ∧ w1.heap.size ≤ b ∧ Blk wv b 84 cs ∧ cs.size = 9 ∧ cs.toList.all (·.oneCell') = true from h)
      exact ⟨b17, cs17, e17, lo17, hb17.tr0 hs, hsz17, hon17⟩
    | _ + 9, h => exact trivial
  · intro ix o hix hoq gg wx hs hd hdis
    match ix, hix, hoq with
    | 0, _, hoq =>
      obtain rfl : _ = o := Option.some.inj hoq
      have hs0 := hs
      replace hB := hB.tr0 hs
      replace hbG := hbG.tr0 hs
      replace ho := ho.tr0 hs
      replace hb7 := hb7.tr0 hs
      clear hs
      refine os_rv (r_fa Tryd.underlying36 sz31 (by decide) rfl rfl rfl) ⟨Same.refl _ _, ?_, frsh_no⟩
      exact rfl
    | 1, _, hoq =>
      obtain rfl : _ = o := Option.some.inj hoq
      have hs0 := hs
      replace hB := hB.tr0 hs
      replace hbG := hbG.tr0 hs
      replace ho := ho.tr0 hs
      replace hb7 := hb7.tr0 hs
      clear hs
      have d0 : gg 9 = .pointer (some ⟨bG, 3, none⟩) := hd 0 (dep_of (by kernel_rfl))
      have e9 := d0
      refine os_know 9 (.pointer (some ⟨bG, 3, none⟩)) e9 (by simp [undef]) ?_
      refine os_rv (r_ld1 (v := .slice _ _ _) Tryd.underlying31 rfl rfl (hbG.cell rfl)) ⟨Same.refl _ _, ?_, frsh_no⟩
      exact rfl
    | 2, _, hoq =>
      obtain rfl : _ = o := Option.some.inj hoq
      have hs0 := hs
      replace hB := hB.tr0 hs
      replace hbG := hbG.tr0 hs
      replace ho := ho.tr0 hs
      replace hb7 := hb7.tr0 hs
      clear hs
      refine os_rv (r_mv (v := .string _) rfl) ⟨Same.refl _ _, ?_, frsh_no⟩
      exact rfl
    | 3, _, hoq =>
      obtain rfl : _ = o := Option.some.inj hoq
      have hs0 := hs
      replace hB := hB.tr0 hs
      replace hbG := hbG.tr0 hs
      replace ho := ho.tr0 hs
      replace hb7 := hb7.tr0 hs
      clear hs
      refine os_rv (r_mv (v := .int _ _) rfl) ⟨Same.refl _ _, ?_, frsh_no⟩
      exact rfl
    | 4, _, hoq =>
      obtain rfl : _ = o := Option.some.inj hoq
      have hs0 := hs
      replace hB := hB.tr0 hs
      replace hbG := hbG.tr0 hs
      replace ho := ho.tr0 hs
      replace hb7 := hb7.tr0 hs
      clear hs
      refine os_rv (r_ldS Tryd.underlying78 rfl rfl hb7.range0 sz78) ⟨Same.refl _ _, ?_, frsh_no⟩
      exact rfl
    | 5, _, hoq =>
      obtain rfl : _ = o := Option.some.inj hoq
      have hs0 := hs
      replace hB := hB.tr0 hs
      replace hbG := hbG.tr0 hs
      replace ho := ho.tr0 hs
      replace hb7 := hb7.tr0 hs
      clear hs
      refine os_rv (r_mv (v := .slice _ _ _) rfl) ⟨Same.refl _ _, ?_, frsh_no⟩
      exact rfl
    | 6, _, hoq =>
      obtain rfl : _ = o := Option.some.inj hoq
      have hs0 := hs
      replace hB := hB.tr0 hs
      replace hbG := hbG.tr0 hs
      replace ho := ho.tr0 hs
      replace hb7 := hb7.tr0 hs
      clear hs
      have d5 : gg 14 = .slice R rs.length c := hd 5 (dep_of (by kernel_rfl))
      have e14 := d5
      refine os_know 14 (.slice R rs.length c) e14 (by simp [undef]) ?_
      refine os_cl fn28 (graphOf_any _ _ _ wx (hR.mono hB)) rfl (fun e' w2 hr => ?_)
      obtain ⟨⟨q15_0, rfl, hq15_0⟩, hs⟩ := hr
      exact ⟨_, rfl, Same.of_bel hs, ⟨_, rfl, (by first | rfl | assumption)⟩, frsh_no⟩
    | 7, _, hoq =>
      obtain rfl : _ = o := Option.some.inj hoq
      have hs0 := hs
      replace hB := hB.tr0 hs
      replace hbG := hbG.tr0 hs
      replace ho := ho.tr0 hs
      replace hb7 := hb7.tr0 hs
      clear hs
      have d2 : gg 11 = .string s := hd 2 (dep_of (by kernel_rfl))
      have e11 := d2
      have d3 : gg 12 = .int .i64 z := hd 3 (dep_of (by kernel_rfl))
      have e12 := d3
      have d4 : gg 13 = .agg #[x0, x1, x2, x3, x4, x5] := hd 4 (dep_of (by kernel_rfl))
      have e13 := d4
      have d6 : ∃ x0, gg 15 = .agg #[x0] ∧ x0.oneCell' = true := hd 6 (dep_of (by kernel_rfl))
      obtain ⟨q15_0, e15, hq15_0⟩ := d6
      refine os_know 11 (.string s) e11 (by simp [undef]) ?_
      refine os_know 12 (.int .i64 z) e12 (by simp [undef]) ?_
      refine os_know 13 (.agg #[x0, x1, x2, x3, x4, x5]) e13 (by simp [undef]) ?_
      refine os_know 15 (.agg #[q15_0]) e15 (by simp [undef]) ?_
      refine os_rv (r_bd4 (v0 := .string _) (v1 := .int _ _) (v2 := .agg _) (v3 := .agg _) (fun v0 v1 v2 v3 => #[v0, (cellOf v3 0), v1, (cellOf v2 0), (cellOf v2 1), (cellOf v2 2), (cellOf v2 3), (cellOf v2 4), (cellOf v2 5)]) rfl rfl rfl rfl (by kernel_rfl)) ⟨Same.refl _ _, ?_, frsh_no⟩
      exact ⟨_, _, _, _, _, _, _, _, _, rfl, (by first | rfl | assumption), (by first | rfl | assumption), (by first | rfl | assumption), (by first | rfl | assumption), (by first | rfl | assumption), (by first | rfl | assumption), (by first | rfl | assumption), (by first | rfl | assumption), (by first | rfl | assumption)⟩
    | 8, _, hoq =>
      obtain rfl : _ = o := Option.some.inj hoq
      have hs0 := hs
      replace hB := hB.tr0 hs
      replace hbG := hbG.tr0 hs
      replace ho := ho.tr0 hs
      replace hb7 := hb7.tr0 hs
      clear hs
      have d7 : ∃ x0 x1 x2 x3 x4 x5 x6 x7 x8, gg 16 = .agg #[x0, x1, x2, x3, x4, x5, x6, x7, x8] ∧ x0.oneCell' = true ∧ x1.oneCell' = true ∧ x2.oneCell' = true ∧ x3.oneCell' = true ∧ x4.oneCell' = true ∧ x5.oneCell' = true ∧ x6.oneCell' = true ∧ x7.oneCell' = true ∧ x8.oneCell' = true := hd 7 (dep_of (by kernel_rfl))
      obtain ⟨q16_0, q16_1, q16_2, q16_3, q16_4, q16_5, q16_6, q16_7, q16_8, e16, hq16_0, hq16_1, hq16_2, hq16_3, hq16_4, hq16_5, hq16_6, hq16_7, hq16_8⟩ := d7
      refine os_know 16 (.agg #[q16_0, q16_1, q16_2, q16_3, q16_4, q16_5, q16_6, q16_7, q16_8]) e16 (by simp [undef]) ?_
      refine os_wl (fun ops Q K => ?_)
      refine wl_bs (cs := #[_, _, _, _, _, _, _, _, _]) [(0, .agg _)] rfl Tryd.underlying31 sz84 ze84 (by decide) (by decide) (by kernel_rfl) rfl (fun b17 w2 hb17 hs hr => ?_)
      exact K _ _ ⟨hs, ⟨_, _, rfl, Nat.le_trans hs0.size hr, hb17, rfl, (by repeat (first | rfl | refine one_cons (by first | rfl | assumption) ?_))⟩, fun _ g hg => by cases hg; exact ⟨hr, hb17.lt⟩⟩
    | _ + 9, hix, _ => exact absurd hix (by omega)
  · intro gg w3 hs hR hdis
    have hs0 := hs
    replace hB := hB.tr0 hs
    replace hbG := hbG.tr0 hs
    replace ho := ho.tr0 hs
    replace hb7 := hb7.tr0 hs
    clear hs
    have d1 : gg 10 = .slice A k cap := hR 1 (by decide)
    have e10 := d1
    have d8 : ∃ b cs, gg 17 = .slice (some ⟨b, 0, none⟩) 1 1 ∧ w1.heap.size ≤ b ∧ Blk w3 b 84 cs ∧ cs.size = 9 ∧ cs.toList.all (·.oneCell') = true := hR 8 (by decide)
    obtain ⟨b17, cs17, e17, lo17, hb17, hsz17, hon17⟩ := d8
    have hbs : base ≤ w3.heap.size := Nat.le_trans hbase (Bel.size hB)
    have hS0 := (Same.of_bel hB).weak (Y := bG :: aL A) (by simp)
    have hsz2 := Bel.size hB
    refine wl_know 10 (.slice A k cap) e10 (by simp [undef]) ?_
    refine wl_know 17 (.slice (some ⟨b17, 0, none⟩) 1 1) e17 (by simp [undef]) ?_
    refine wl_app Tryd.underlying31 in84 rfl (by decide) ho hb17 rfl rfl hsz17 hon17 (by decide) (by omega) (by omega) hbs (fun g18 cap18 w4 ho18 hs hg => ?_)
    have ne_ho18_bG : g18 ≠ bG := fun e => by
      have hl := hbG.lt
      rcases hg with hg | hg
      · have h1 := ho.lt g18 (by rw [hg]; exact List.mem_singleton.2 rfl)
        (try have := or_ho_bG g18 (by rw [hg]; exact List.mem_singleton.2 rfl)); omega
      · omega
    have ne_ho18_b7 : g18 ≠ b7 := fun e => by
      have hl := hb7.lt
      rcases hg with hg | hg
      · have h1 := ho.lt g18 (by rw [hg]; exact List.mem_singleton.2 rfl)
        (try have := or_ho_b7 g18 (by rw [hg]; exact List.mem_singleton.2 rfl)); omega
      · omega
    replace hbG := hbG.tr hs (fun hx => by have := (ho.lt _ hx).1; (try have := or_ho_bG _ hx); omega)
    replace hb7 := hb7.tr hs (fun hx => by have := (ho.lt _ hx).1; (try have := or_ho_b7 _ hx); omega)
    have hS := hS0.trans (hs.weak (fun x hx => List.mem_cons_of_mem _ hx))
    refine wl (r_fa Tryd.underlying36 sz31 (by decide) rfl rfl rfl) ?_
    refine wl_st1 (v := .slice _ _ _) hbG rfl rfl sz31 (by first | decide | simp) rfl rfl (fun w5 hq hs => ?_)
    replace hb7 := hb7.tr1 hs (by omega)
    replace ho18 := ho18.tr1 hs (fun g hg => by have := (ho18.lt g hg).1; (try have := or_ho18_bG g hg); (try simp only [aL, List.mem_singleton] at hg); omega)
    replace hS := hS.trans (hs.weak (by simp))
    clear hs
    replace hbG := hq
    refine x_nil ?_
    refine fin0 (.inr rfl) rfl  ?_
    refine ⟨rfl, _, _, _, hbG, ho18, hS, ?_⟩
    rcases hg with hg | hg
    · left; rw [hg]; rfl
    · right; intro g hgm; cases List.mem_singleton.1 hgm; exact Nat.le_trans hsz2 hg
end Go.Proofs.YthhkbhapfcfdjaaDoor
