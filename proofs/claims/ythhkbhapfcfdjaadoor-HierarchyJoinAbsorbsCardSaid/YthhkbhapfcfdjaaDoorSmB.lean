/- Regions of the function Small, each at every world. -/
import Derived.Test.YthhkbhapfcfdjaaDoorSmA
namespace Go.Proofs.YthhkbhapfcfdjaaDoor
open Go.RowKit

theorem fn29 : callable Tryd.prog 29 = true := by kernel_rfl
theorem fn30 : callable Tryd.prog 30 = true := by kernel_rfl
set_option maxHeartbeats 1000000 in
theorem small_r9 {w wc wZ : World} {base Z0 b0 b1 b2 b3 b4 b5 b23 b93 capt cap : Nat} {At A : Option Addr} {p12 q12 p15 q15 : Value} {xs : List Value} (hB : Bel w wc) (hbs : base ≤ wc.heap.size) (hFr : FrSame Z0 wZ wc) (hb0 : Blk wc b0 36 #[.slice none 0 0, .slice none 0 0, .slice none 0 0, .slice none 0 0, .slice none 0 0]) (hb1 : Blk wc b1 70 #[.string ⟨#[101]⟩, .slice none 0 0]) (hb2 : Blk wc b2 70 #[.string ⟨#[116]⟩, .slice none 0 0]) (hb3 : Blk wc b3 70 #[p12, q12]) (hb4 : Blk wc b4 70 #[p15, q15]) (hb23 : Blk wc b23 63 (smallF.flatMap (fun f => [Value.string f.name, .int .i64 f.of, .int .i64 f.val])).toArray) (hb5 : Blk wc b5 36 #[.slice At 15 capt, .slice (some ⟨b23, 0, none⟩) 5 5, .slice (some ⟨b93, 0, none⟩) 6 6, .slice A 0 cap, .slice none 0 0]) (ho : Own wc base 84 9 A 0 cap xs) (hp12 : p12.oneCell' = true) (hq12 : q12.oneCell' = true) (hp15 : p15.oneCell' = true) (hq15 : q15.oneCell' = true) (z5 : b5 < Z0) (lo5 : w.heap.size ≤ b5) (o0 : b0 < b5) (o1 : b1 < b5) (o2 : b2 < b5) (o3 : b3 < b5) (o4 : b4 < b5) (o23 : b5 < b23) (hlo : w.heap.size ≤ base) (hFb : wZ.heap.size ≤ base) (hl0 : b0 < base) (hl1 : b1 < base) (hl2 : b2 < base) (hl3 : b3 < base) (hl4 : b4 < base) (hl5 : b5 < base) (hl23 : b23 < base)  (f : Fr) (Q : Exit → Act → World → Prop) (k7 : f 7 = .func (.func 29) #[] #[.pointer (some ⟨b5, 0, none⟩)]) : WC Tryd.prog (sl (sr (sr (sr (sr (sr (sr (sr (sr (sr (ob Tryd.f9.body))))))))))) (QRS 256 [96, 97, 98, 99, 100, 101] f (fun g w' => Bel w w' ∧ base ≤ w'.heap.size ∧ FrSame Z0 wZ w' ∧ Blk w' b0 36 #[.slice none 0 0, .slice none 0 0, .slice none 0 0, .slice none 0 0, .slice none 0 0] ∧ Blk w' b1 70 #[.string ⟨#[101]⟩, .slice none 0 0] ∧ Blk w' b2 70 #[.string ⟨#[116]⟩, .slice none 0 0] ∧ Blk w' b3 70 #[p12, q12] ∧ Blk w' b4 70 #[p15, q15] ∧ Blk w' b23 63 (smallF.flatMap (fun f => [Value.string f.name, .int .i64 f.of, .int .i64 f.val])).toArray ∧ ∃ A cap xs, Blk w' b5 36 #[.slice At 15 capt, .slice (some ⟨b23, 0, none⟩) 5 5, .slice (some ⟨b93, 0, none⟩) 6 6, .slice A 1 cap, .slice none 0 0] ∧ Own w' base 84 9 A 1 cap xs) Q) 256 f wc := by
  refine c_know 7 (.func (.func 29) #[] #[.pointer (some ⟨b5, 0, none⟩)]) k7 (by simp [undef]) ?_
  refine c_region ?_
  refine wl (r_mv (v := .func _ _ _) rfl) ?_
  refine wl_cl fn30 (quantified_any _ _ _ _) rfl (fun e' w1 hr => ?_)
  obtain ⟨⟨q97_0, q97_1, q97_2, q97_3, q97_4, q97_5, rfl, hq97_0, hq97_1, hq97_2, hq97_3, hq97_4, hq97_5⟩, hs⟩ := hr
  replace hs := Same.of_bel hs
  replace hB := hB.tr0 hs
  replace hbs := Nat.le_trans hbs (Same.size hs)
  replace hFr := hFr.of hs (by simp)
  replace hb0 := hb0.tr0 hs
  replace hb1 := hb1.tr0 hs
  replace hb2 := hb2.tr0 hs
  replace hb3 := hb3.tr0 hs
  replace hb4 := hb4.tr0 hs
  replace hb23 := hb23.tr0 hs
  replace hb5 := hb5.tr0 hs
  replace ho := ho.tr0 hs
  clear hs
  refine ⟨_, rfl, ?_⟩
  refine wl_bs (cs := #[_, _, _]) [(0, .int _ _), (1, .int _ _), (2, .int _ _)] rfl Tryd.underlying45 sz3 ze3 (by decide) (by decide) (by kernel_rfl) rfl (fun b98 w2 hb98 hs hr => ?_)
  have or_b0_b98 : b0 < b98 := Nat.lt_of_lt_of_le hb0.lt hr
  have or_b1_b98 : b1 < b98 := Nat.lt_of_lt_of_le hb1.lt hr
  have or_b2_b98 : b2 < b98 := Nat.lt_of_lt_of_le hb2.lt hr
  have or_b3_b98 : b3 < b98 := Nat.lt_of_lt_of_le hb3.lt hr
  have or_b4_b98 : b4 < b98 := Nat.lt_of_lt_of_le hb4.lt hr
  have or_b23_b98 : b23 < b98 := Nat.lt_of_lt_of_le hb23.lt hr
  have or_b5_b98 : b5 < b98 := Nat.lt_of_lt_of_le hb5.lt hr
  have or_ho_b98 := fun g hg => Nat.lt_of_lt_of_le (ho.lt g hg).2 hr
  have lo98 := Nat.le_trans (Bel.size hB) hr
  replace hB := hB.tr0 hs
  replace hbs := Nat.le_trans hbs (Same.size hs)
  replace hFr := hFr.of hs (by simp)
  replace hb0 := hb0.tr0 hs
  replace hb1 := hb1.tr0 hs
  replace hb2 := hb2.tr0 hs
  replace hb3 := hb3.tr0 hs
  replace hb4 := hb4.tr0 hs
  replace hb23 := hb23.tr0 hs
  replace hb5 := hb5.tr0 hs
  replace ho := ho.tr0 hs
  clear hs
  clear hr
  refine wl_bs (cs := #[_]) [(0, .int _ _)] rfl Tryd.underlying45 sz3 ze3 (by decide) (by decide) (by kernel_rfl) rfl (fun b99 w3 hb99 hs hr => ?_)
  have or_b0_b99 : b0 < b99 := Nat.lt_of_lt_of_le hb0.lt hr
  have or_b1_b99 : b1 < b99 := Nat.lt_of_lt_of_le hb1.lt hr
  have or_b2_b99 : b2 < b99 := Nat.lt_of_lt_of_le hb2.lt hr
  have or_b3_b99 : b3 < b99 := Nat.lt_of_lt_of_le hb3.lt hr
  have or_b4_b99 : b4 < b99 := Nat.lt_of_lt_of_le hb4.lt hr
  have or_b23_b99 : b23 < b99 := Nat.lt_of_lt_of_le hb23.lt hr
  have or_b5_b99 : b5 < b99 := Nat.lt_of_lt_of_le hb5.lt hr
  have or_ho_b99 := fun g hg => Nat.lt_of_lt_of_le (ho.lt g hg).2 hr
  have or_b98_b99 : b98 < b99 := Nat.lt_of_lt_of_le hb98.lt hr
  have lo99 := Nat.le_trans (Bel.size hB) hr
  replace hB := hB.tr0 hs
  replace hbs := Nat.le_trans hbs (Same.size hs)
  replace hFr := hFr.of hs (by simp)
  replace hb0 := hb0.tr0 hs
  replace hb1 := hb1.tr0 hs
  replace hb2 := hb2.tr0 hs
  replace hb3 := hb3.tr0 hs
  replace hb4 := hb4.tr0 hs
  replace hb23 := hb23.tr0 hs
  replace hb5 := hb5.tr0 hs
  replace ho := ho.tr0 hs
  replace hb98 := hb98.tr0 hs
  clear hs
  clear hr
  refine wl_bs (cs := #[_, _]) [(0, .slice _ _ _), (1, .slice _ _ _)] rfl Tryd.underlying82 sz45 ze45 (by decide) (by decide) (by kernel_rfl) rfl (fun b100 w4 hb100 hs hr => ?_)
  have or_b0_b100 : b0 < b100 := Nat.lt_of_lt_of_le hb0.lt hr
  have or_b1_b100 : b1 < b100 := Nat.lt_of_lt_of_le hb1.lt hr
  have or_b2_b100 : b2 < b100 := Nat.lt_of_lt_of_le hb2.lt hr
  have or_b3_b100 : b3 < b100 := Nat.lt_of_lt_of_le hb3.lt hr
  have or_b4_b100 : b4 < b100 := Nat.lt_of_lt_of_le hb4.lt hr
  have or_b23_b100 : b23 < b100 := Nat.lt_of_lt_of_le hb23.lt hr
  have or_b5_b100 : b5 < b100 := Nat.lt_of_lt_of_le hb5.lt hr
  have or_ho_b100 := fun g hg => Nat.lt_of_lt_of_le (ho.lt g hg).2 hr
  have or_b98_b100 : b98 < b100 := Nat.lt_of_lt_of_le hb98.lt hr
  have or_b99_b100 : b99 < b100 := Nat.lt_of_lt_of_le hb99.lt hr
  have lo100 := Nat.le_trans (Bel.size hB) hr
  replace hB := hB.tr0 hs
  replace hbs := Nat.le_trans hbs (Same.size hs)
  replace hFr := hFr.of hs (by simp)
  replace hb0 := hb0.tr0 hs
  replace hb1 := hb1.tr0 hs
  replace hb2 := hb2.tr0 hs
  replace hb3 := hb3.tr0 hs
  replace hb4 := hb4.tr0 hs
  replace hb23 := hb23.tr0 hs
  replace hb5 := hb5.tr0 hs
  replace ho := ho.tr0 hs
  replace hb98 := hb98.tr0 hs
  replace hb99 := hb99.tr0 hs
  clear hs
  clear hr
  refine wl_clv rfl fn29 (add_any _ _ _ _ _ _ _ _ (by first | rfl | assumption) (by first | rfl | assumption) (by first | rfl | assumption) (by first | rfl | assumption) (by first | rfl | assumption) (by first | rfl | assumption) _ _ [[10, 4, 1], [4]] _ _ base _ _ _ _ _ _ _ _ (rows_of_blk (rs := [[10, 4, 1], [4]]) hb100 (.cons ⟨_, _, rfl, ints_of_blk [10, 4, 1] hb98 (by decide), by decide, by decide⟩ (.cons ⟨_, _, rfl, ints_of_blk [4] hb99 (by decide), by decide, by decide⟩ .nil)) (by decide)) hb5 ho hbs hl5 (by decide)) rfl rfl (fun e' w5 hr => ?_)
  obtain ⟨rfl, A2, cap2, xs2, hb5n, hon, hS, hA2⟩ := hr
  replace hB := hB.tr hS (fun x hx => by
    rcases List.mem_cons.1 hx with e | hx
    · rw [e]; exact lo5
    · exact Nat.le_trans hlo (ho.lt _ hx).1)
  replace hbs := Nat.le_trans hbs hS.size
  replace hFr := hFr.of hS (fun x hx => by
    rcases List.mem_cons.1 hx with e | hx
    · exact .inl (by rw [e]; exact z5)
    · exact .inr (Nat.le_trans hFb (ho.lt _ hx).1))
  replace hb0 := hb0.tr hS (fun hx => by
    rcases List.mem_cons.1 hx with e | hx
    · omega
    · have := (ho.lt _ hx).1; omega)
  replace hb1 := hb1.tr hS (fun hx => by
    rcases List.mem_cons.1 hx with e | hx
    · omega
    · have := (ho.lt _ hx).1; omega)
  replace hb2 := hb2.tr hS (fun hx => by
    rcases List.mem_cons.1 hx with e | hx
    · omega
    · have := (ho.lt _ hx).1; omega)
  replace hb3 := hb3.tr hS (fun hx => by
    rcases List.mem_cons.1 hx with e | hx
    · omega
    · have := (ho.lt _ hx).1; omega)
  replace hb4 := hb4.tr hS (fun hx => by
    rcases List.mem_cons.1 hx with e | hx
    · omega
    · have := (ho.lt _ hx).1; omega)
  replace hb23 := hb23.tr hS (fun hx => by
    rcases List.mem_cons.1 hx with e | hx
    · omega
    · have := (ho.lt _ hx).1; omega)
  replace hb5 := hb5n
  replace ho := hon
  refine ⟨_, rfl, ?_⟩
  refine x_nil ?_
  refine e_R ⟨(by repeat (first | exact ag_refl | exact ag_ovr' | refine ag_upd rfl ?_ | refine ag_sub rfl ?_ | refine ag_kn (by assumption) ?_)), ?_⟩
  exact ⟨hB, hbs, hFr, hb0, hb1, hb2, hb3, hb4, hb23, _, _, _, hb5, ho⟩

set_option maxHeartbeats 1000000 in
theorem small_r10 {w wc wZ : World} {base Z0 b0 b1 b2 b3 b4 b5 b23 b93 capt cap : Nat} {At A : Option Addr} {p12 q12 p15 q15 : Value} {xs : List Value} (hB : Bel w wc) (hbs : base ≤ wc.heap.size) (hFr : FrSame Z0 wZ wc) (hb0 : Blk wc b0 36 #[.slice none 0 0, .slice none 0 0, .slice none 0 0, .slice none 0 0, .slice none 0 0]) (hb1 : Blk wc b1 70 #[.string ⟨#[101]⟩, .slice none 0 0]) (hb2 : Blk wc b2 70 #[.string ⟨#[116]⟩, .slice none 0 0]) (hb3 : Blk wc b3 70 #[p12, q12]) (hb4 : Blk wc b4 70 #[p15, q15]) (hb23 : Blk wc b23 63 (smallF.flatMap (fun f => [Value.string f.name, .int .i64 f.of, .int .i64 f.val])).toArray) (hb5 : Blk wc b5 36 #[.slice At 15 capt, .slice (some ⟨b23, 0, none⟩) 5 5, .slice (some ⟨b93, 0, none⟩) 6 6, .slice A 1 cap, .slice none 0 0]) (ho : Own wc base 84 9 A 1 cap xs) (hp12 : p12.oneCell' = true) (hq12 : q12.oneCell' = true) (hp15 : p15.oneCell' = true) (hq15 : q15.oneCell' = true) (z5 : b5 < Z0) (lo5 : w.heap.size ≤ b5) (o0 : b0 < b5) (o1 : b1 < b5) (o2 : b2 < b5) (o3 : b3 < b5) (o4 : b4 < b5) (o23 : b5 < b23) (hlo : w.heap.size ≤ base) (hFb : wZ.heap.size ≤ base) (hl0 : b0 < base) (hl1 : b1 < base) (hl2 : b2 < base) (hl3 : b3 < base) (hl4 : b4 < base) (hl5 : b5 < base) (hl23 : b23 < base)  (f : Fr) (Q : Exit → Act → World → Prop) (k7 : f 7 = .func (.func 29) #[] #[.pointer (some ⟨b5, 0, none⟩)]) : WC Tryd.prog (sl (sr (sr (sr (sr (sr (sr (sr (sr (sr (sr (ob Tryd.f9.body)))))))))))) (QRS 256 [102, 103, 104, 105, 106, 107] f (fun g w' => Bel w w' ∧ base ≤ w'.heap.size ∧ FrSame Z0 wZ w' ∧ Blk w' b0 36 #[.slice none 0 0, .slice none 0 0, .slice none 0 0, .slice none 0 0, .slice none 0 0] ∧ Blk w' b1 70 #[.string ⟨#[101]⟩, .slice none 0 0] ∧ Blk w' b2 70 #[.string ⟨#[116]⟩, .slice none 0 0] ∧ Blk w' b3 70 #[p12, q12] ∧ Blk w' b4 70 #[p15, q15] ∧ Blk w' b23 63 (smallF.flatMap (fun f => [Value.string f.name, .int .i64 f.of, .int .i64 f.val])).toArray ∧ ∃ A cap xs, Blk w' b5 36 #[.slice At 15 capt, .slice (some ⟨b23, 0, none⟩) 5 5, .slice (some ⟨b93, 0, none⟩) 6 6, .slice A 2 cap, .slice none 0 0] ∧ Own w' base 84 9 A 2 cap xs) Q) 256 f wc := by
  refine c_know 7 (.func (.func 29) #[] #[.pointer (some ⟨b5, 0, none⟩)]) k7 (by simp [undef]) ?_
  refine c_region ?_
  refine wl (r_mv (v := .func _ _ _) rfl) ?_
  refine wl_cl fn30 (quantified_any _ _ _ _) rfl (fun e' w1 hr => ?_)
  obtain ⟨⟨q103_0, q103_1, q103_2, q103_3, q103_4, q103_5, rfl, hq103_0, hq103_1, hq103_2, hq103_3, hq103_4, hq103_5⟩, hs⟩ := hr
  replace hs := Same.of_bel hs
  replace hB := hB.tr0 hs
  replace hbs := Nat.le_trans hbs (Same.size hs)
  replace hFr := hFr.of hs (by simp)
  replace hb0 := hb0.tr0 hs
  replace hb1 := hb1.tr0 hs
  replace hb2 := hb2.tr0 hs
  replace hb3 := hb3.tr0 hs
  replace hb4 := hb4.tr0 hs
  replace hb23 := hb23.tr0 hs
  replace hb5 := hb5.tr0 hs
  replace ho := ho.tr0 hs
  clear hs
  refine ⟨_, rfl, ?_⟩
  refine wl_bs (cs := #[_, _, _]) [(0, .int _ _), (1, .int _ _), (2, .int _ _)] rfl Tryd.underlying45 sz3 ze3 (by decide) (by decide) (by kernel_rfl) rfl (fun b104 w2 hb104 hs hr => ?_)
  have or_b0_b104 : b0 < b104 := Nat.lt_of_lt_of_le hb0.lt hr
  have or_b1_b104 : b1 < b104 := Nat.lt_of_lt_of_le hb1.lt hr
  have or_b2_b104 : b2 < b104 := Nat.lt_of_lt_of_le hb2.lt hr
  have or_b3_b104 : b3 < b104 := Nat.lt_of_lt_of_le hb3.lt hr
  have or_b4_b104 : b4 < b104 := Nat.lt_of_lt_of_le hb4.lt hr
  have or_b23_b104 : b23 < b104 := Nat.lt_of_lt_of_le hb23.lt hr
  have or_b5_b104 : b5 < b104 := Nat.lt_of_lt_of_le hb5.lt hr
  have or_ho_b104 := fun g hg => Nat.lt_of_lt_of_le (ho.lt g hg).2 hr
  have lo104 := Nat.le_trans (Bel.size hB) hr
  replace hB := hB.tr0 hs
  replace hbs := Nat.le_trans hbs (Same.size hs)
  replace hFr := hFr.of hs (by simp)
  replace hb0 := hb0.tr0 hs
  replace hb1 := hb1.tr0 hs
  replace hb2 := hb2.tr0 hs
  replace hb3 := hb3.tr0 hs
  replace hb4 := hb4.tr0 hs
  replace hb23 := hb23.tr0 hs
  replace hb5 := hb5.tr0 hs
  replace ho := ho.tr0 hs
  clear hs
  clear hr
  refine wl_bs (cs := #[_]) [(0, .int _ _)] rfl Tryd.underlying45 sz3 ze3 (by decide) (by decide) (by kernel_rfl) rfl (fun b105 w3 hb105 hs hr => ?_)
  have or_b0_b105 : b0 < b105 := Nat.lt_of_lt_of_le hb0.lt hr
  have or_b1_b105 : b1 < b105 := Nat.lt_of_lt_of_le hb1.lt hr
  have or_b2_b105 : b2 < b105 := Nat.lt_of_lt_of_le hb2.lt hr
  have or_b3_b105 : b3 < b105 := Nat.lt_of_lt_of_le hb3.lt hr
  have or_b4_b105 : b4 < b105 := Nat.lt_of_lt_of_le hb4.lt hr
  have or_b23_b105 : b23 < b105 := Nat.lt_of_lt_of_le hb23.lt hr
  have or_b5_b105 : b5 < b105 := Nat.lt_of_lt_of_le hb5.lt hr
  have or_ho_b105 := fun g hg => Nat.lt_of_lt_of_le (ho.lt g hg).2 hr
  have or_b104_b105 : b104 < b105 := Nat.lt_of_lt_of_le hb104.lt hr
  have lo105 := Nat.le_trans (Bel.size hB) hr
  replace hB := hB.tr0 hs
  replace hbs := Nat.le_trans hbs (Same.size hs)
  replace hFr := hFr.of hs (by simp)
  replace hb0 := hb0.tr0 hs
  replace hb1 := hb1.tr0 hs
  replace hb2 := hb2.tr0 hs
  replace hb3 := hb3.tr0 hs
  replace hb4 := hb4.tr0 hs
  replace hb23 := hb23.tr0 hs
  replace hb5 := hb5.tr0 hs
  replace ho := ho.tr0 hs
  replace hb104 := hb104.tr0 hs
  clear hs
  clear hr
  refine wl_bs (cs := #[_, _]) [(0, .slice _ _ _), (1, .slice _ _ _)] rfl Tryd.underlying82 sz45 ze45 (by decide) (by decide) (by kernel_rfl) rfl (fun b106 w4 hb106 hs hr => ?_)
  have or_b0_b106 : b0 < b106 := Nat.lt_of_lt_of_le hb0.lt hr
  have or_b1_b106 : b1 < b106 := Nat.lt_of_lt_of_le hb1.lt hr
  have or_b2_b106 : b2 < b106 := Nat.lt_of_lt_of_le hb2.lt hr
  have or_b3_b106 : b3 < b106 := Nat.lt_of_lt_of_le hb3.lt hr
  have or_b4_b106 : b4 < b106 := Nat.lt_of_lt_of_le hb4.lt hr
  have or_b23_b106 : b23 < b106 := Nat.lt_of_lt_of_le hb23.lt hr
  have or_b5_b106 : b5 < b106 := Nat.lt_of_lt_of_le hb5.lt hr
  have or_ho_b106 := fun g hg => Nat.lt_of_lt_of_le (ho.lt g hg).2 hr
  have or_b104_b106 : b104 < b106 := Nat.lt_of_lt_of_le hb104.lt hr
  have or_b105_b106 : b105 < b106 := Nat.lt_of_lt_of_le hb105.lt hr
  have lo106 := Nat.le_trans (Bel.size hB) hr
  replace hB := hB.tr0 hs
  replace hbs := Nat.le_trans hbs (Same.size hs)
  replace hFr := hFr.of hs (by simp)
  replace hb0 := hb0.tr0 hs
  replace hb1 := hb1.tr0 hs
  replace hb2 := hb2.tr0 hs
  replace hb3 := hb3.tr0 hs
  replace hb4 := hb4.tr0 hs
  replace hb23 := hb23.tr0 hs
  replace hb5 := hb5.tr0 hs
  replace ho := ho.tr0 hs
  replace hb104 := hb104.tr0 hs
  replace hb105 := hb105.tr0 hs
  clear hs
  clear hr
  refine wl_clv rfl fn29 (add_any _ _ _ _ _ _ _ _ (by first | rfl | assumption) (by first | rfl | assumption) (by first | rfl | assumption) (by first | rfl | assumption) (by first | rfl | assumption) (by first | rfl | assumption) _ _ [[10, 4, 1], [4]] _ _ base _ _ _ _ _ _ _ _ (rows_of_blk (rs := [[10, 4, 1], [4]]) hb106 (.cons ⟨_, _, rfl, ints_of_blk [10, 4, 1] hb104 (by decide), by decide, by decide⟩ (.cons ⟨_, _, rfl, ints_of_blk [4] hb105 (by decide), by decide, by decide⟩ .nil)) (by decide)) hb5 ho hbs hl5 (by decide)) rfl rfl (fun e' w5 hr => ?_)
  obtain ⟨rfl, A2, cap2, xs2, hb5n, hon, hS, hA2⟩ := hr
  replace hB := hB.tr hS (fun x hx => by
    rcases List.mem_cons.1 hx with e | hx
    · rw [e]; exact lo5
    · exact Nat.le_trans hlo (ho.lt _ hx).1)
  replace hbs := Nat.le_trans hbs hS.size
  replace hFr := hFr.of hS (fun x hx => by
    rcases List.mem_cons.1 hx with e | hx
    · exact .inl (by rw [e]; exact z5)
    · exact .inr (Nat.le_trans hFb (ho.lt _ hx).1))
  replace hb0 := hb0.tr hS (fun hx => by
    rcases List.mem_cons.1 hx with e | hx
    · omega
    · have := (ho.lt _ hx).1; omega)
  replace hb1 := hb1.tr hS (fun hx => by
    rcases List.mem_cons.1 hx with e | hx
    · omega
    · have := (ho.lt _ hx).1; omega)
  replace hb2 := hb2.tr hS (fun hx => by
    rcases List.mem_cons.1 hx with e | hx
    · omega
    · have := (ho.lt _ hx).1; omega)
  replace hb3 := hb3.tr hS (fun hx => by
    rcases List.mem_cons.1 hx with e | hx
    · omega
    · have := (ho.lt _ hx).1; omega)
  replace hb4 := hb4.tr hS (fun hx => by
    rcases List.mem_cons.1 hx with e | hx
    · omega
    · have := (ho.lt _ hx).1; omega)
  replace hb23 := hb23.tr hS (fun hx => by
    rcases List.mem_cons.1 hx with e | hx
    · omega
    · have := (ho.lt _ hx).1; omega)
  replace hb5 := hb5n
  replace ho := hon
  refine ⟨_, rfl, ?_⟩
  refine x_nil ?_
  refine e_R ⟨(by repeat (first | exact ag_refl | exact ag_ovr' | refine ag_upd rfl ?_ | refine ag_sub rfl ?_ | refine ag_kn (by assumption) ?_)), ?_⟩
  exact ⟨hB, hbs, hFr, hb0, hb1, hb2, hb3, hb4, hb23, _, _, _, hb5, ho⟩

set_option maxHeartbeats 1000000 in
theorem small_r11 {w wc wZ : World} {base Z0 b0 b1 b2 b3 b4 b5 b23 b93 capt cap : Nat} {At A : Option Addr} {p12 q12 p15 q15 : Value} {xs : List Value} (hB : Bel w wc) (hbs : base ≤ wc.heap.size) (hFr : FrSame Z0 wZ wc) (hb0 : Blk wc b0 36 #[.slice none 0 0, .slice none 0 0, .slice none 0 0, .slice none 0 0, .slice none 0 0]) (hb1 : Blk wc b1 70 #[.string ⟨#[101]⟩, .slice none 0 0]) (hb2 : Blk wc b2 70 #[.string ⟨#[116]⟩, .slice none 0 0]) (hb3 : Blk wc b3 70 #[p12, q12]) (hb4 : Blk wc b4 70 #[p15, q15]) (hb23 : Blk wc b23 63 (smallF.flatMap (fun f => [Value.string f.name, .int .i64 f.of, .int .i64 f.val])).toArray) (hb5 : Blk wc b5 36 #[.slice At 15 capt, .slice (some ⟨b23, 0, none⟩) 5 5, .slice (some ⟨b93, 0, none⟩) 6 6, .slice A 2 cap, .slice none 0 0]) (ho : Own wc base 84 9 A 2 cap xs) (hp12 : p12.oneCell' = true) (hq12 : q12.oneCell' = true) (hp15 : p15.oneCell' = true) (hq15 : q15.oneCell' = true) (z5 : b5 < Z0) (lo5 : w.heap.size ≤ b5) (o0 : b0 < b5) (o1 : b1 < b5) (o2 : b2 < b5) (o3 : b3 < b5) (o4 : b4 < b5) (o23 : b5 < b23) (hlo : w.heap.size ≤ base) (hFb : wZ.heap.size ≤ base) (hl0 : b0 < base) (hl1 : b1 < base) (hl2 : b2 < base) (hl3 : b3 < base) (hl4 : b4 < base) (hl5 : b5 < base) (hl23 : b23 < base)  (f : Fr) (Q : Exit → Act → World → Prop) (k7 : f 7 = .func (.func 29) #[] #[.pointer (some ⟨b5, 0, none⟩)]) : WC Tryd.prog (sl (sr (sr (sr (sr (sr (sr (sr (sr (sr (sr (sr (ob Tryd.f9.body))))))))))))) (QRS 256 [108, 109, 110, 111, 112] f (fun g w' => Bel w w' ∧ base ≤ w'.heap.size ∧ FrSame Z0 wZ w' ∧ Blk w' b0 36 #[.slice none 0 0, .slice none 0 0, .slice none 0 0, .slice none 0 0, .slice none 0 0] ∧ Blk w' b1 70 #[.string ⟨#[101]⟩, .slice none 0 0] ∧ Blk w' b2 70 #[.string ⟨#[116]⟩, .slice none 0 0] ∧ Blk w' b3 70 #[p12, q12] ∧ Blk w' b4 70 #[p15, q15] ∧ Blk w' b23 63 (smallF.flatMap (fun f => [Value.string f.name, .int .i64 f.of, .int .i64 f.val])).toArray ∧ ∃ A cap xs, Blk w' b5 36 #[.slice At 15 capt, .slice (some ⟨b23, 0, none⟩) 5 5, .slice (some ⟨b93, 0, none⟩) 6 6, .slice A 3 cap, .slice none 0 0] ∧ Own w' base 84 9 A 3 cap xs) Q) 256 f wc := by
  refine c_know 7 (.func (.func 29) #[] #[.pointer (some ⟨b5, 0, none⟩)]) k7 (by simp [undef]) ?_
  refine c_region ?_
  refine wl (r_mv (v := .func _ _ _) rfl) ?_
  refine wl_cl fn30 (quantified_any _ _ _ _) rfl (fun e' w1 hr => ?_)
  obtain ⟨⟨q109_0, q109_1, q109_2, q109_3, q109_4, q109_5, rfl, hq109_0, hq109_1, hq109_2, hq109_3, hq109_4, hq109_5⟩, hs⟩ := hr
  replace hs := Same.of_bel hs
  replace hB := hB.tr0 hs
  replace hbs := Nat.le_trans hbs (Same.size hs)
  replace hFr := hFr.of hs (by simp)
  replace hb0 := hb0.tr0 hs
  replace hb1 := hb1.tr0 hs
  replace hb2 := hb2.tr0 hs
  replace hb3 := hb3.tr0 hs
  replace hb4 := hb4.tr0 hs
  replace hb23 := hb23.tr0 hs
  replace hb5 := hb5.tr0 hs
  replace ho := ho.tr0 hs
  clear hs
  refine ⟨_, rfl, ?_⟩
  refine wl_bs (cs := #[_]) [(0, .int _ _)] rfl Tryd.underlying45 sz3 ze3 (by decide) (by decide) (by kernel_rfl) rfl (fun b110 w2 hb110 hs hr => ?_)
  have or_b0_b110 : b0 < b110 := Nat.lt_of_lt_of_le hb0.lt hr
  have or_b1_b110 : b1 < b110 := Nat.lt_of_lt_of_le hb1.lt hr
  have or_b2_b110 : b2 < b110 := Nat.lt_of_lt_of_le hb2.lt hr
  have or_b3_b110 : b3 < b110 := Nat.lt_of_lt_of_le hb3.lt hr
  have or_b4_b110 : b4 < b110 := Nat.lt_of_lt_of_le hb4.lt hr
  have or_b23_b110 : b23 < b110 := Nat.lt_of_lt_of_le hb23.lt hr
  have or_b5_b110 : b5 < b110 := Nat.lt_of_lt_of_le hb5.lt hr
  have or_ho_b110 := fun g hg => Nat.lt_of_lt_of_le (ho.lt g hg).2 hr
  have lo110 := Nat.le_trans (Bel.size hB) hr
  replace hB := hB.tr0 hs
  replace hbs := Nat.le_trans hbs (Same.size hs)
  replace hFr := hFr.of hs (by simp)
  replace hb0 := hb0.tr0 hs
  replace hb1 := hb1.tr0 hs
  replace hb2 := hb2.tr0 hs
  replace hb3 := hb3.tr0 hs
  replace hb4 := hb4.tr0 hs
  replace hb23 := hb23.tr0 hs
  replace hb5 := hb5.tr0 hs
  replace ho := ho.tr0 hs
  clear hs
  clear hr
  refine wl_bs (cs := #[_]) [(0, .slice _ _ _)] rfl Tryd.underlying82 sz45 ze45 (by decide) (by decide) (by kernel_rfl) rfl (fun b111 w3 hb111 hs hr => ?_)
  have or_b0_b111 : b0 < b111 := Nat.lt_of_lt_of_le hb0.lt hr
  have or_b1_b111 : b1 < b111 := Nat.lt_of_lt_of_le hb1.lt hr
  have or_b2_b111 : b2 < b111 := Nat.lt_of_lt_of_le hb2.lt hr
  have or_b3_b111 : b3 < b111 := Nat.lt_of_lt_of_le hb3.lt hr
  have or_b4_b111 : b4 < b111 := Nat.lt_of_lt_of_le hb4.lt hr
  have or_b23_b111 : b23 < b111 := Nat.lt_of_lt_of_le hb23.lt hr
  have or_b5_b111 : b5 < b111 := Nat.lt_of_lt_of_le hb5.lt hr
  have or_ho_b111 := fun g hg => Nat.lt_of_lt_of_le (ho.lt g hg).2 hr
  have or_b110_b111 : b110 < b111 := Nat.lt_of_lt_of_le hb110.lt hr
  have lo111 := Nat.le_trans (Bel.size hB) hr
  replace hB := hB.tr0 hs
  replace hbs := Nat.le_trans hbs (Same.size hs)
  replace hFr := hFr.of hs (by simp)
  replace hb0 := hb0.tr0 hs
  replace hb1 := hb1.tr0 hs
  replace hb2 := hb2.tr0 hs
  replace hb3 := hb3.tr0 hs
  replace hb4 := hb4.tr0 hs
  replace hb23 := hb23.tr0 hs
  replace hb5 := hb5.tr0 hs
  replace ho := ho.tr0 hs
  replace hb110 := hb110.tr0 hs
  clear hs
  clear hr
  refine wl_clv rfl fn29 (add_any _ _ _ _ _ _ _ _ (by first | rfl | assumption) (by first | rfl | assumption) (by first | rfl | assumption) (by first | rfl | assumption) (by first | rfl | assumption) (by first | rfl | assumption) _ _ [[10]] _ _ base _ _ _ _ _ _ _ _ (rows_of_blk (rs := [[10]]) hb111 (.cons ⟨_, _, rfl, ints_of_blk [10] hb110 (by decide), by decide, by decide⟩ .nil) (by decide)) hb5 ho hbs hl5 (by decide)) rfl rfl (fun e' w4 hr => ?_)
  obtain ⟨rfl, A2, cap2, xs2, hb5n, hon, hS, hA2⟩ := hr
  replace hB := hB.tr hS (fun x hx => by
    rcases List.mem_cons.1 hx with e | hx
    · rw [e]; exact lo5
    · exact Nat.le_trans hlo (ho.lt _ hx).1)
  replace hbs := Nat.le_trans hbs hS.size
  replace hFr := hFr.of hS (fun x hx => by
    rcases List.mem_cons.1 hx with e | hx
    · exact .inl (by rw [e]; exact z5)
    · exact .inr (Nat.le_trans hFb (ho.lt _ hx).1))
  replace hb0 := hb0.tr hS (fun hx => by
    rcases List.mem_cons.1 hx with e | hx
    · omega
    · have := (ho.lt _ hx).1; omega)
  replace hb1 := hb1.tr hS (fun hx => by
    rcases List.mem_cons.1 hx with e | hx
    · omega
    · have := (ho.lt _ hx).1; omega)
  replace hb2 := hb2.tr hS (fun hx => by
    rcases List.mem_cons.1 hx with e | hx
    · omega
    · have := (ho.lt _ hx).1; omega)
  replace hb3 := hb3.tr hS (fun hx => by
    rcases List.mem_cons.1 hx with e | hx
    · omega
    · have := (ho.lt _ hx).1; omega)
  replace hb4 := hb4.tr hS (fun hx => by
    rcases List.mem_cons.1 hx with e | hx
    · omega
    · have := (ho.lt _ hx).1; omega)
  replace hb23 := hb23.tr hS (fun hx => by
    rcases List.mem_cons.1 hx with e | hx
    · omega
    · have := (ho.lt _ hx).1; omega)
  replace hb5 := hb5n
  replace ho := hon
  refine ⟨_, rfl, ?_⟩
  refine x_nil ?_
  refine e_R ⟨(by repeat (first | exact ag_refl | exact ag_ovr' | refine ag_upd rfl ?_ | refine ag_sub rfl ?_ | refine ag_kn (by assumption) ?_)), ?_⟩
  exact ⟨hB, hbs, hFr, hb0, hb1, hb2, hb3, hb4, hb23, _, _, _, hb5, ho⟩

set_option maxHeartbeats 1000000 in
theorem small_r12 {w wc wZ : World} {base Z0 b0 b1 b2 b3 b4 b5 b23 b93 capt cap : Nat} {At A : Option Addr} {p12 q12 p15 q15 : Value} {xs : List Value} (hB : Bel w wc) (hbs : base ≤ wc.heap.size) (hFr : FrSame Z0 wZ wc) (hb0 : Blk wc b0 36 #[.slice none 0 0, .slice none 0 0, .slice none 0 0, .slice none 0 0, .slice none 0 0]) (hb1 : Blk wc b1 70 #[.string ⟨#[101]⟩, .slice none 0 0]) (hb2 : Blk wc b2 70 #[.string ⟨#[116]⟩, .slice none 0 0]) (hb3 : Blk wc b3 70 #[p12, q12]) (hb4 : Blk wc b4 70 #[p15, q15]) (hb23 : Blk wc b23 63 (smallF.flatMap (fun f => [Value.string f.name, .int .i64 f.of, .int .i64 f.val])).toArray) (hb5 : Blk wc b5 36 #[.slice At 15 capt, .slice (some ⟨b23, 0, none⟩) 5 5, .slice (some ⟨b93, 0, none⟩) 6 6, .slice A 3 cap, .slice none 0 0]) (ho : Own wc base 84 9 A 3 cap xs) (hp12 : p12.oneCell' = true) (hq12 : q12.oneCell' = true) (hp15 : p15.oneCell' = true) (hq15 : q15.oneCell' = true) (z5 : b5 < Z0) (lo5 : w.heap.size ≤ b5) (o0 : b0 < b5) (o1 : b1 < b5) (o2 : b2 < b5) (o3 : b3 < b5) (o4 : b4 < b5) (o23 : b5 < b23) (hlo : w.heap.size ≤ base) (hFb : wZ.heap.size ≤ base) (hl0 : b0 < base) (hl1 : b1 < base) (hl2 : b2 < base) (hl3 : b3 < base) (hl4 : b4 < base) (hl5 : b5 < base) (hl23 : b23 < base)  (f : Fr) (Q : Exit → Act → World → Prop) (k7 : f 7 = .func (.func 29) #[] #[.pointer (some ⟨b5, 0, none⟩)]) (k3 : f 3 = .pointer (some ⟨b3, 0, none⟩)) : WC Tryd.prog (sl (sr (sr (sr (sr (sr (sr (sr (sr (sr (sr (sr (sr (ob Tryd.f9.body)))))))))))))) (QRS 256 [113, 114, 115, 116, 117, 118, 119] f (fun g w' => Bel w w' ∧ base ≤ w'.heap.size ∧ FrSame Z0 wZ w' ∧ Blk w' b0 36 #[.slice none 0 0, .slice none 0 0, .slice none 0 0, .slice none 0 0, .slice none 0 0] ∧ Blk w' b1 70 #[.string ⟨#[101]⟩, .slice none 0 0] ∧ Blk w' b2 70 #[.string ⟨#[116]⟩, .slice none 0 0] ∧ Blk w' b3 70 #[p12, q12] ∧ Blk w' b4 70 #[p15, q15] ∧ Blk w' b23 63 (smallF.flatMap (fun f => [Value.string f.name, .int .i64 f.of, .int .i64 f.val])).toArray ∧ ∃ A cap xs, Blk w' b5 36 #[.slice At 15 capt, .slice (some ⟨b23, 0, none⟩) 5 5, .slice (some ⟨b93, 0, none⟩) 6 6, .slice A 4 cap, .slice none 0 0] ∧ Own w' base 84 9 A 4 cap xs) Q) 256 f wc := by
  refine c_know 7 (.func (.func 29) #[] #[.pointer (some ⟨b5, 0, none⟩)]) k7 (by simp [undef]) ?_
  refine c_know 3 (.pointer (some ⟨b3, 0, none⟩)) k3 (by simp [undef]) ?_
  refine c_region ?_
  refine wl (r_mv (v := .func _ _ _) rfl) ?_
  refine wl (r_ldS Tryd.underlying70 rfl rfl hb3.range0 sz70) ?_
  refine wl_cl fn31 (con_any _ _ _ (by first | rfl | assumption) (by first | rfl | assumption) _) rfl (fun e' w1 hr => ?_)
  obtain ⟨⟨q115_0, q115_1, q115_2, q115_3, q115_4, q115_5, rfl, hq115_0, hq115_1, hq115_2, hq115_3, hq115_4, hq115_5⟩, hs⟩ := hr
  replace hs := Same.of_bel hs
  replace hB := hB.tr0 hs
  replace hbs := Nat.le_trans hbs (Same.size hs)
  replace hFr := hFr.of hs (by simp)
  replace hb0 := hb0.tr0 hs
  replace hb1 := hb1.tr0 hs
  replace hb2 := hb2.tr0 hs
  replace hb3 := hb3.tr0 hs
  replace hb4 := hb4.tr0 hs
  replace hb23 := hb23.tr0 hs
  replace hb5 := hb5.tr0 hs
  replace ho := ho.tr0 hs
  clear hs
  refine ⟨_, rfl, ?_⟩
  refine wl_bs (cs := #[_, _, _]) [(0, .int _ _), (1, .int _ _), (2, .int _ _)] rfl Tryd.underlying45 sz3 ze3 (by decide) (by decide) (by kernel_rfl) rfl (fun b116 w2 hb116 hs hr => ?_)
  have or_b0_b116 : b0 < b116 := Nat.lt_of_lt_of_le hb0.lt hr
  have or_b1_b116 : b1 < b116 := Nat.lt_of_lt_of_le hb1.lt hr
  have or_b2_b116 : b2 < b116 := Nat.lt_of_lt_of_le hb2.lt hr
  have or_b3_b116 : b3 < b116 := Nat.lt_of_lt_of_le hb3.lt hr
  have or_b4_b116 : b4 < b116 := Nat.lt_of_lt_of_le hb4.lt hr
  have or_b23_b116 : b23 < b116 := Nat.lt_of_lt_of_le hb23.lt hr
  have or_b5_b116 : b5 < b116 := Nat.lt_of_lt_of_le hb5.lt hr
  have or_ho_b116 := fun g hg => Nat.lt_of_lt_of_le (ho.lt g hg).2 hr
  have lo116 := Nat.le_trans (Bel.size hB) hr
  replace hB := hB.tr0 hs
  replace hbs := Nat.le_trans hbs (Same.size hs)
  replace hFr := hFr.of hs (by simp)
  replace hb0 := hb0.tr0 hs
  replace hb1 := hb1.tr0 hs
  replace hb2 := hb2.tr0 hs
  replace hb3 := hb3.tr0 hs
  replace hb4 := hb4.tr0 hs
  replace hb23 := hb23.tr0 hs
  replace hb5 := hb5.tr0 hs
  replace ho := ho.tr0 hs
  clear hs
  clear hr
  refine wl_bs (cs := #[_]) [(0, .int _ _)] rfl Tryd.underlying45 sz3 ze3 (by decide) (by decide) (by kernel_rfl) rfl (fun b117 w3 hb117 hs hr => ?_)
  have or_b0_b117 : b0 < b117 := Nat.lt_of_lt_of_le hb0.lt hr
  have or_b1_b117 : b1 < b117 := Nat.lt_of_lt_of_le hb1.lt hr
  have or_b2_b117 : b2 < b117 := Nat.lt_of_lt_of_le hb2.lt hr
  have or_b3_b117 : b3 < b117 := Nat.lt_of_lt_of_le hb3.lt hr
  have or_b4_b117 : b4 < b117 := Nat.lt_of_lt_of_le hb4.lt hr
  have or_b23_b117 : b23 < b117 := Nat.lt_of_lt_of_le hb23.lt hr
  have or_b5_b117 : b5 < b117 := Nat.lt_of_lt_of_le hb5.lt hr
  have or_ho_b117 := fun g hg => Nat.lt_of_lt_of_le (ho.lt g hg).2 hr
  have or_b116_b117 : b116 < b117 := Nat.lt_of_lt_of_le hb116.lt hr
  have lo117 := Nat.le_trans (Bel.size hB) hr
  replace hB := hB.tr0 hs
  replace hbs := Nat.le_trans hbs (Same.size hs)
  replace hFr := hFr.of hs (by simp)
  replace hb0 := hb0.tr0 hs
  replace hb1 := hb1.tr0 hs
  replace hb2 := hb2.tr0 hs
  replace hb3 := hb3.tr0 hs
  replace hb4 := hb4.tr0 hs
  replace hb23 := hb23.tr0 hs
  replace hb5 := hb5.tr0 hs
  replace ho := ho.tr0 hs
  replace hb116 := hb116.tr0 hs
  clear hs
  clear hr
  refine wl_bs (cs := #[_, _]) [(0, .slice _ _ _), (1, .slice _ _ _)] rfl Tryd.underlying82 sz45 ze45 (by decide) (by decide) (by kernel_rfl) rfl (fun b118 w4 hb118 hs hr => ?_)
  have or_b0_b118 : b0 < b118 := Nat.lt_of_lt_of_le hb0.lt hr
  have or_b1_b118 : b1 < b118 := Nat.lt_of_lt_of_le hb1.lt hr
  have or_b2_b118 : b2 < b118 := Nat.lt_of_lt_of_le hb2.lt hr
  have or_b3_b118 : b3 < b118 := Nat.lt_of_lt_of_le hb3.lt hr
  have or_b4_b118 : b4 < b118 := Nat.lt_of_lt_of_le hb4.lt hr
  have or_b23_b118 : b23 < b118 := Nat.lt_of_lt_of_le hb23.lt hr
  have or_b5_b118 : b5 < b118 := Nat.lt_of_lt_of_le hb5.lt hr
  have or_ho_b118 := fun g hg => Nat.lt_of_lt_of_le (ho.lt g hg).2 hr
  have or_b116_b118 : b116 < b118 := Nat.lt_of_lt_of_le hb116.lt hr
  have or_b117_b118 : b117 < b118 := Nat.lt_of_lt_of_le hb117.lt hr
  have lo118 := Nat.le_trans (Bel.size hB) hr
  replace hB := hB.tr0 hs
  replace hbs := Nat.le_trans hbs (Same.size hs)
  replace hFr := hFr.of hs (by simp)
  replace hb0 := hb0.tr0 hs
  replace hb1 := hb1.tr0 hs
  replace hb2 := hb2.tr0 hs
  replace hb3 := hb3.tr0 hs
  replace hb4 := hb4.tr0 hs
  replace hb23 := hb23.tr0 hs
  replace hb5 := hb5.tr0 hs
  replace ho := ho.tr0 hs
  replace hb116 := hb116.tr0 hs
  replace hb117 := hb117.tr0 hs
  clear hs
  clear hr
  refine wl_clv rfl fn29 (add_any _ _ _ _ _ _ _ _ (by first | rfl | assumption) (by first | rfl | assumption) (by first | rfl | assumption) (by first | rfl | assumption) (by first | rfl | assumption) (by first | rfl | assumption) _ _ [[9, 4, 1], [4]] _ _ base _ _ _ _ _ _ _ _ (rows_of_blk (rs := [[9, 4, 1], [4]]) hb118 (.cons ⟨_, _, rfl, ints_of_blk [9, 4, 1] hb116 (by decide), by decide, by decide⟩ (.cons ⟨_, _, rfl, ints_of_blk [4] hb117 (by decide), by decide, by decide⟩ .nil)) (by decide)) hb5 ho hbs hl5 (by decide)) rfl rfl (fun e' w5 hr => ?_)
  obtain ⟨rfl, A2, cap2, xs2, hb5n, hon, hS, hA2⟩ := hr
  replace hB := hB.tr hS (fun x hx => by
    rcases List.mem_cons.1 hx with e | hx
    · rw [e]; exact lo5
    · exact Nat.le_trans hlo (ho.lt _ hx).1)
  replace hbs := Nat.le_trans hbs hS.size
  replace hFr := hFr.of hS (fun x hx => by
    rcases List.mem_cons.1 hx with e | hx
    · exact .inl (by rw [e]; exact z5)
    · exact .inr (Nat.le_trans hFb (ho.lt _ hx).1))
  replace hb0 := hb0.tr hS (fun hx => by
    rcases List.mem_cons.1 hx with e | hx
    · omega
    · have := (ho.lt _ hx).1; omega)
  replace hb1 := hb1.tr hS (fun hx => by
    rcases List.mem_cons.1 hx with e | hx
    · omega
    · have := (ho.lt _ hx).1; omega)
  replace hb2 := hb2.tr hS (fun hx => by
    rcases List.mem_cons.1 hx with e | hx
    · omega
    · have := (ho.lt _ hx).1; omega)
  replace hb3 := hb3.tr hS (fun hx => by
    rcases List.mem_cons.1 hx with e | hx
    · omega
    · have := (ho.lt _ hx).1; omega)
  replace hb4 := hb4.tr hS (fun hx => by
    rcases List.mem_cons.1 hx with e | hx
    · omega
    · have := (ho.lt _ hx).1; omega)
  replace hb23 := hb23.tr hS (fun hx => by
    rcases List.mem_cons.1 hx with e | hx
    · omega
    · have := (ho.lt _ hx).1; omega)
  replace hb5 := hb5n
  replace ho := hon
  refine ⟨_, rfl, ?_⟩
  refine x_nil ?_
  refine e_R ⟨(by repeat (first | exact ag_refl | exact ag_ovr' | refine ag_upd rfl ?_ | refine ag_sub rfl ?_ | refine ag_kn (by assumption) ?_)), ?_⟩
  exact ⟨hB, hbs, hFr, hb0, hb1, hb2, hb3, hb4, hb23, _, _, _, hb5, ho⟩

set_option maxHeartbeats 1000000 in
theorem small_r13 {w wc wZ : World} {base Z0 b0 b1 b2 b3 b4 b5 b23 b93 capt cap : Nat} {At A : Option Addr} {p12 q12 p15 q15 : Value} {xs : List Value} (hB : Bel w wc) (hbs : base ≤ wc.heap.size) (hFr : FrSame Z0 wZ wc) (hb0 : Blk wc b0 36 #[.slice none 0 0, .slice none 0 0, .slice none 0 0, .slice none 0 0, .slice none 0 0]) (hb1 : Blk wc b1 70 #[.string ⟨#[101]⟩, .slice none 0 0]) (hb2 : Blk wc b2 70 #[.string ⟨#[116]⟩, .slice none 0 0]) (hb3 : Blk wc b3 70 #[p12, q12]) (hb4 : Blk wc b4 70 #[p15, q15]) (hb23 : Blk wc b23 63 (smallF.flatMap (fun f => [Value.string f.name, .int .i64 f.of, .int .i64 f.val])).toArray) (hb5 : Blk wc b5 36 #[.slice At 15 capt, .slice (some ⟨b23, 0, none⟩) 5 5, .slice (some ⟨b93, 0, none⟩) 6 6, .slice A 4 cap, .slice none 0 0]) (ho : Own wc base 84 9 A 4 cap xs) (hp12 : p12.oneCell' = true) (hq12 : q12.oneCell' = true) (hp15 : p15.oneCell' = true) (hq15 : q15.oneCell' = true) (z5 : b5 < Z0) (lo5 : w.heap.size ≤ b5) (o0 : b0 < b5) (o1 : b1 < b5) (o2 : b2 < b5) (o3 : b3 < b5) (o4 : b4 < b5) (o23 : b5 < b23) (hlo : w.heap.size ≤ base) (hFb : wZ.heap.size ≤ base) (hl0 : b0 < base) (hl1 : b1 < base) (hl2 : b2 < base) (hl3 : b3 < base) (hl4 : b4 < base) (hl5 : b5 < base) (hl23 : b23 < base)  (f : Fr) (Q : Exit → Act → World → Prop) (k7 : f 7 = .func (.func 29) #[] #[.pointer (some ⟨b5, 0, none⟩)]) (k3 : f 3 = .pointer (some ⟨b3, 0, none⟩)) : WC Tryd.prog (sl (sr (sr (sr (sr (sr (sr (sr (sr (sr (sr (sr (sr (sr (ob Tryd.f9.body))))))))))))))) (QRS 256 [120, 121, 122, 123, 124, 125, 126] f (fun g w' => Bel w w' ∧ base ≤ w'.heap.size ∧ FrSame Z0 wZ w' ∧ Blk w' b0 36 #[.slice none 0 0, .slice none 0 0, .slice none 0 0, .slice none 0 0, .slice none 0 0] ∧ Blk w' b1 70 #[.string ⟨#[101]⟩, .slice none 0 0] ∧ Blk w' b2 70 #[.string ⟨#[116]⟩, .slice none 0 0] ∧ Blk w' b3 70 #[p12, q12] ∧ Blk w' b4 70 #[p15, q15] ∧ Blk w' b23 63 (smallF.flatMap (fun f => [Value.string f.name, .int .i64 f.of, .int .i64 f.val])).toArray ∧ ∃ A cap xs, Blk w' b5 36 #[.slice At 15 capt, .slice (some ⟨b23, 0, none⟩) 5 5, .slice (some ⟨b93, 0, none⟩) 6 6, .slice A 5 cap, .slice none 0 0] ∧ Own w' base 84 9 A 5 cap xs) Q) 256 f wc := by
  refine c_know 7 (.func (.func 29) #[] #[.pointer (some ⟨b5, 0, none⟩)]) k7 (by simp [undef]) ?_
  refine c_know 3 (.pointer (some ⟨b3, 0, none⟩)) k3 (by simp [undef]) ?_
  refine c_region ?_
  refine wl (r_mv (v := .func _ _ _) rfl) ?_
  refine wl (r_ldS Tryd.underlying70 rfl rfl hb3.range0 sz70) ?_
  refine wl_cl fn31 (con_any _ _ _ (by first | rfl | assumption) (by first | rfl | assumption) _) rfl (fun e' w1 hr => ?_)
  obtain ⟨⟨q122_0, q122_1, q122_2, q122_3, q122_4, q122_5, rfl, hq122_0, hq122_1, hq122_2, hq122_3, hq122_4, hq122_5⟩, hs⟩ := hr
  replace hs := Same.of_bel hs
  replace hB := hB.tr0 hs
  replace hbs := Nat.le_trans hbs (Same.size hs)
  replace hFr := hFr.of hs (by simp)
  replace hb0 := hb0.tr0 hs
  replace hb1 := hb1.tr0 hs
  replace hb2 := hb2.tr0 hs
  replace hb3 := hb3.tr0 hs
  replace hb4 := hb4.tr0 hs
  replace hb23 := hb23.tr0 hs
  replace hb5 := hb5.tr0 hs
  replace ho := ho.tr0 hs
  clear hs
  refine ⟨_, rfl, ?_⟩
  refine wl_bs (cs := #[_, _, _]) [(0, .int _ _), (1, .int _ _), (2, .int _ _)] rfl Tryd.underlying45 sz3 ze3 (by decide) (by decide) (by kernel_rfl) rfl (fun b123 w2 hb123 hs hr => ?_)
  have or_b0_b123 : b0 < b123 := Nat.lt_of_lt_of_le hb0.lt hr
  have or_b1_b123 : b1 < b123 := Nat.lt_of_lt_of_le hb1.lt hr
  have or_b2_b123 : b2 < b123 := Nat.lt_of_lt_of_le hb2.lt hr
  have or_b3_b123 : b3 < b123 := Nat.lt_of_lt_of_le hb3.lt hr
  have or_b4_b123 : b4 < b123 := Nat.lt_of_lt_of_le hb4.lt hr
  have or_b23_b123 : b23 < b123 := Nat.lt_of_lt_of_le hb23.lt hr
  have or_b5_b123 : b5 < b123 := Nat.lt_of_lt_of_le hb5.lt hr
  have or_ho_b123 := fun g hg => Nat.lt_of_lt_of_le (ho.lt g hg).2 hr
  have lo123 := Nat.le_trans (Bel.size hB) hr
  replace hB := hB.tr0 hs
  replace hbs := Nat.le_trans hbs (Same.size hs)
  replace hFr := hFr.of hs (by simp)
  replace hb0 := hb0.tr0 hs
  replace hb1 := hb1.tr0 hs
  replace hb2 := hb2.tr0 hs
  replace hb3 := hb3.tr0 hs
  replace hb4 := hb4.tr0 hs
  replace hb23 := hb23.tr0 hs
  replace hb5 := hb5.tr0 hs
  replace ho := ho.tr0 hs
  clear hs
  clear hr
  refine wl_bs (cs := #[_]) [(0, .int _ _)] rfl Tryd.underlying45 sz3 ze3 (by decide) (by decide) (by kernel_rfl) rfl (fun b124 w3 hb124 hs hr => ?_)
  have or_b0_b124 : b0 < b124 := Nat.lt_of_lt_of_le hb0.lt hr
  have or_b1_b124 : b1 < b124 := Nat.lt_of_lt_of_le hb1.lt hr
  have or_b2_b124 : b2 < b124 := Nat.lt_of_lt_of_le hb2.lt hr
  have or_b3_b124 : b3 < b124 := Nat.lt_of_lt_of_le hb3.lt hr
  have or_b4_b124 : b4 < b124 := Nat.lt_of_lt_of_le hb4.lt hr
  have or_b23_b124 : b23 < b124 := Nat.lt_of_lt_of_le hb23.lt hr
  have or_b5_b124 : b5 < b124 := Nat.lt_of_lt_of_le hb5.lt hr
  have or_ho_b124 := fun g hg => Nat.lt_of_lt_of_le (ho.lt g hg).2 hr
  have or_b123_b124 : b123 < b124 := Nat.lt_of_lt_of_le hb123.lt hr
  have lo124 := Nat.le_trans (Bel.size hB) hr
  replace hB := hB.tr0 hs
  replace hbs := Nat.le_trans hbs (Same.size hs)
  replace hFr := hFr.of hs (by simp)
  replace hb0 := hb0.tr0 hs
  replace hb1 := hb1.tr0 hs
  replace hb2 := hb2.tr0 hs
  replace hb3 := hb3.tr0 hs
  replace hb4 := hb4.tr0 hs
  replace hb23 := hb23.tr0 hs
  replace hb5 := hb5.tr0 hs
  replace ho := ho.tr0 hs
  replace hb123 := hb123.tr0 hs
  clear hs
  clear hr
  refine wl_bs (cs := #[_, _]) [(0, .slice _ _ _), (1, .slice _ _ _)] rfl Tryd.underlying82 sz45 ze45 (by decide) (by decide) (by kernel_rfl) rfl (fun b125 w4 hb125 hs hr => ?_)
  have or_b0_b125 : b0 < b125 := Nat.lt_of_lt_of_le hb0.lt hr
  have or_b1_b125 : b1 < b125 := Nat.lt_of_lt_of_le hb1.lt hr
  have or_b2_b125 : b2 < b125 := Nat.lt_of_lt_of_le hb2.lt hr
  have or_b3_b125 : b3 < b125 := Nat.lt_of_lt_of_le hb3.lt hr
  have or_b4_b125 : b4 < b125 := Nat.lt_of_lt_of_le hb4.lt hr
  have or_b23_b125 : b23 < b125 := Nat.lt_of_lt_of_le hb23.lt hr
  have or_b5_b125 : b5 < b125 := Nat.lt_of_lt_of_le hb5.lt hr
  have or_ho_b125 := fun g hg => Nat.lt_of_lt_of_le (ho.lt g hg).2 hr
  have or_b123_b125 : b123 < b125 := Nat.lt_of_lt_of_le hb123.lt hr
  have or_b124_b125 : b124 < b125 := Nat.lt_of_lt_of_le hb124.lt hr
  have lo125 := Nat.le_trans (Bel.size hB) hr
  replace hB := hB.tr0 hs
  replace hbs := Nat.le_trans hbs (Same.size hs)
  replace hFr := hFr.of hs (by simp)
  replace hb0 := hb0.tr0 hs
  replace hb1 := hb1.tr0 hs
  replace hb2 := hb2.tr0 hs
  replace hb3 := hb3.tr0 hs
  replace hb4 := hb4.tr0 hs
  replace hb23 := hb23.tr0 hs
  replace hb5 := hb5.tr0 hs
  replace ho := ho.tr0 hs
  replace hb123 := hb123.tr0 hs
  replace hb124 := hb124.tr0 hs
  clear hs
  clear hr
  refine wl_clv rfl fn29 (add_any _ _ _ _ _ _ _ _ (by first | rfl | assumption) (by first | rfl | assumption) (by first | rfl | assumption) (by first | rfl | assumption) (by first | rfl | assumption) (by first | rfl | assumption) _ _ [[9, 4, 1], [5]] _ _ base _ _ _ _ _ _ _ _ (rows_of_blk (rs := [[9, 4, 1], [5]]) hb125 (.cons ⟨_, _, rfl, ints_of_blk [9, 4, 1] hb123 (by decide), by decide, by decide⟩ (.cons ⟨_, _, rfl, ints_of_blk [5] hb124 (by decide), by decide, by decide⟩ .nil)) (by decide)) hb5 ho hbs hl5 (by decide)) rfl rfl (fun e' w5 hr => ?_)
  obtain ⟨rfl, A2, cap2, xs2, hb5n, hon, hS, hA2⟩ := hr
  replace hB := hB.tr hS (fun x hx => by
    rcases List.mem_cons.1 hx with e | hx
    · rw [e]; exact lo5
    · exact Nat.le_trans hlo (ho.lt _ hx).1)
  replace hbs := Nat.le_trans hbs hS.size
  replace hFr := hFr.of hS (fun x hx => by
    rcases List.mem_cons.1 hx with e | hx
    · exact .inl (by rw [e]; exact z5)
    · exact .inr (Nat.le_trans hFb (ho.lt _ hx).1))
  replace hb0 := hb0.tr hS (fun hx => by
    rcases List.mem_cons.1 hx with e | hx
    · omega
    · have := (ho.lt _ hx).1; omega)
  replace hb1 := hb1.tr hS (fun hx => by
    rcases List.mem_cons.1 hx with e | hx
    · omega
    · have := (ho.lt _ hx).1; omega)
  replace hb2 := hb2.tr hS (fun hx => by
    rcases List.mem_cons.1 hx with e | hx
    · omega
    · have := (ho.lt _ hx).1; omega)
  replace hb3 := hb3.tr hS (fun hx => by
    rcases List.mem_cons.1 hx with e | hx
    · omega
    · have := (ho.lt _ hx).1; omega)
  replace hb4 := hb4.tr hS (fun hx => by
    rcases List.mem_cons.1 hx with e | hx
    · omega
    · have := (ho.lt _ hx).1; omega)
  replace hb23 := hb23.tr hS (fun hx => by
    rcases List.mem_cons.1 hx with e | hx
    · omega
    · have := (ho.lt _ hx).1; omega)
  replace hb5 := hb5n
  replace ho := hon
  refine ⟨_, rfl, ?_⟩
  refine x_nil ?_
  refine e_R ⟨(by repeat (first | exact ag_refl | exact ag_ovr' | refine ag_upd rfl ?_ | refine ag_sub rfl ?_ | refine ag_kn (by assumption) ?_)), ?_⟩
  exact ⟨hB, hbs, hFr, hb0, hb1, hb2, hb3, hb4, hb23, _, _, _, hb5, ho⟩

set_option maxHeartbeats 1000000 in
theorem small_r14 {w wc wZ : World} {base Z0 b0 b1 b2 b3 b4 b5 b23 b93 capt cap : Nat} {At A : Option Addr} {p12 q12 p15 q15 : Value} {xs : List Value} (hB : Bel w wc) (hbs : base ≤ wc.heap.size) (hFr : FrSame Z0 wZ wc) (hb0 : Blk wc b0 36 #[.slice none 0 0, .slice none 0 0, .slice none 0 0, .slice none 0 0, .slice none 0 0]) (hb1 : Blk wc b1 70 #[.string ⟨#[101]⟩, .slice none 0 0]) (hb2 : Blk wc b2 70 #[.string ⟨#[116]⟩, .slice none 0 0]) (hb3 : Blk wc b3 70 #[p12, q12]) (hb4 : Blk wc b4 70 #[p15, q15]) (hb23 : Blk wc b23 63 (smallF.flatMap (fun f => [Value.string f.name, .int .i64 f.of, .int .i64 f.val])).toArray) (hb5 : Blk wc b5 36 #[.slice At 15 capt, .slice (some ⟨b23, 0, none⟩) 5 5, .slice (some ⟨b93, 0, none⟩) 6 6, .slice A 5 cap, .slice none 0 0]) (ho : Own wc base 84 9 A 5 cap xs) (hp12 : p12.oneCell' = true) (hq12 : q12.oneCell' = true) (hp15 : p15.oneCell' = true) (hq15 : q15.oneCell' = true) (z5 : b5 < Z0) (lo5 : w.heap.size ≤ b5) (o0 : b0 < b5) (o1 : b1 < b5) (o2 : b2 < b5) (o3 : b3 < b5) (o4 : b4 < b5) (o23 : b5 < b23) (hlo : w.heap.size ≤ base) (hFb : wZ.heap.size ≤ base) (hl0 : b0 < base) (hl1 : b1 < base) (hl2 : b2 < base) (hl3 : b3 < base) (hl4 : b4 < base) (hl5 : b5 < base) (hl23 : b23 < base)  (f : Fr) (Q : Exit → Act → World → Prop) (k7 : f 7 = .func (.func 29) #[] #[.pointer (some ⟨b5, 0, none⟩)]) (k3 : f 3 = .pointer (some ⟨b3, 0, none⟩)) : WC Tryd.prog (sl (sr (sr (sr (sr (sr (sr (sr (sr (sr (sr (sr (sr (sr (sr (ob Tryd.f9.body)))))))))))))))) (QRS 256 [127, 128, 129, 130, 131, 132, 133] f (fun g w' => Bel w w' ∧ base ≤ w'.heap.size ∧ FrSame Z0 wZ w' ∧ Blk w' b0 36 #[.slice none 0 0, .slice none 0 0, .slice none 0 0, .slice none 0 0, .slice none 0 0] ∧ Blk w' b1 70 #[.string ⟨#[101]⟩, .slice none 0 0] ∧ Blk w' b2 70 #[.string ⟨#[116]⟩, .slice none 0 0] ∧ Blk w' b3 70 #[p12, q12] ∧ Blk w' b4 70 #[p15, q15] ∧ Blk w' b23 63 (smallF.flatMap (fun f => [Value.string f.name, .int .i64 f.of, .int .i64 f.val])).toArray ∧ ∃ A cap xs, Blk w' b5 36 #[.slice At 15 capt, .slice (some ⟨b23, 0, none⟩) 5 5, .slice (some ⟨b93, 0, none⟩) 6 6, .slice A 6 cap, .slice none 0 0] ∧ Own w' base 84 9 A 6 cap xs) Q) 256 f wc := by
  refine c_know 7 (.func (.func 29) #[] #[.pointer (some ⟨b5, 0, none⟩)]) k7 (by simp [undef]) ?_
  refine c_know 3 (.pointer (some ⟨b3, 0, none⟩)) k3 (by simp [undef]) ?_
  refine c_region ?_
  refine wl (r_mv (v := .func _ _ _) rfl) ?_
  refine wl (r_ldS Tryd.underlying70 rfl rfl hb3.range0 sz70) ?_
  refine wl_cl fn31 (con_any _ _ _ (by first | rfl | assumption) (by first | rfl | assumption) _) rfl (fun e' w1 hr => ?_)
  obtain ⟨⟨q129_0, q129_1, q129_2, q129_3, q129_4, q129_5, rfl, hq129_0, hq129_1, hq129_2, hq129_3, hq129_4, hq129_5⟩, hs⟩ := hr
  replace hs := Same.of_bel hs
  replace hB := hB.tr0 hs
  replace hbs := Nat.le_trans hbs (Same.size hs)
  replace hFr := hFr.of hs (by simp)
  replace hb0 := hb0.tr0 hs
  replace hb1 := hb1.tr0 hs
  replace hb2 := hb2.tr0 hs
  replace hb3 := hb3.tr0 hs
  replace hb4 := hb4.tr0 hs
  replace hb23 := hb23.tr0 hs
  replace hb5 := hb5.tr0 hs
  replace ho := ho.tr0 hs
  clear hs
  refine ⟨_, rfl, ?_⟩
  refine wl_bs (cs := #[_, _, _]) [(0, .int _ _), (1, .int _ _), (2, .int _ _)] rfl Tryd.underlying45 sz3 ze3 (by decide) (by decide) (by kernel_rfl) rfl (fun b130 w2 hb130 hs hr => ?_)
  have or_b0_b130 : b0 < b130 := Nat.lt_of_lt_of_le hb0.lt hr
  have or_b1_b130 : b1 < b130 := Nat.lt_of_lt_of_le hb1.lt hr
  have or_b2_b130 : b2 < b130 := Nat.lt_of_lt_of_le hb2.lt hr
  have or_b3_b130 : b3 < b130 := Nat.lt_of_lt_of_le hb3.lt hr
  have or_b4_b130 : b4 < b130 := Nat.lt_of_lt_of_le hb4.lt hr
  have or_b23_b130 : b23 < b130 := Nat.lt_of_lt_of_le hb23.lt hr
  have or_b5_b130 : b5 < b130 := Nat.lt_of_lt_of_le hb5.lt hr
  have or_ho_b130 := fun g hg => Nat.lt_of_lt_of_le (ho.lt g hg).2 hr
  have lo130 := Nat.le_trans (Bel.size hB) hr
  replace hB := hB.tr0 hs
  replace hbs := Nat.le_trans hbs (Same.size hs)
  replace hFr := hFr.of hs (by simp)
  replace hb0 := hb0.tr0 hs
  replace hb1 := hb1.tr0 hs
  replace hb2 := hb2.tr0 hs
  replace hb3 := hb3.tr0 hs
  replace hb4 := hb4.tr0 hs
  replace hb23 := hb23.tr0 hs
  replace hb5 := hb5.tr0 hs
  replace ho := ho.tr0 hs
  clear hs
  clear hr
  refine wl_bs (cs := #[_]) [(0, .int _ _)] rfl Tryd.underlying45 sz3 ze3 (by decide) (by decide) (by kernel_rfl) rfl (fun b131 w3 hb131 hs hr => ?_)
  have or_b0_b131 : b0 < b131 := Nat.lt_of_lt_of_le hb0.lt hr
  have or_b1_b131 : b1 < b131 := Nat.lt_of_lt_of_le hb1.lt hr
  have or_b2_b131 : b2 < b131 := Nat.lt_of_lt_of_le hb2.lt hr
  have or_b3_b131 : b3 < b131 := Nat.lt_of_lt_of_le hb3.lt hr
  have or_b4_b131 : b4 < b131 := Nat.lt_of_lt_of_le hb4.lt hr
  have or_b23_b131 : b23 < b131 := Nat.lt_of_lt_of_le hb23.lt hr
  have or_b5_b131 : b5 < b131 := Nat.lt_of_lt_of_le hb5.lt hr
  have or_ho_b131 := fun g hg => Nat.lt_of_lt_of_le (ho.lt g hg).2 hr
  have or_b130_b131 : b130 < b131 := Nat.lt_of_lt_of_le hb130.lt hr
  have lo131 := Nat.le_trans (Bel.size hB) hr
  replace hB := hB.tr0 hs
  replace hbs := Nat.le_trans hbs (Same.size hs)
  replace hFr := hFr.of hs (by simp)
  replace hb0 := hb0.tr0 hs
  replace hb1 := hb1.tr0 hs
  replace hb2 := hb2.tr0 hs
  replace hb3 := hb3.tr0 hs
  replace hb4 := hb4.tr0 hs
  replace hb23 := hb23.tr0 hs
  replace hb5 := hb5.tr0 hs
  replace ho := ho.tr0 hs
  replace hb130 := hb130.tr0 hs
  clear hs
  clear hr
  refine wl_bs (cs := #[_, _]) [(0, .slice _ _ _), (1, .slice _ _ _)] rfl Tryd.underlying82 sz45 ze45 (by decide) (by decide) (by kernel_rfl) rfl (fun b132 w4 hb132 hs hr => ?_)
  have or_b0_b132 : b0 < b132 := Nat.lt_of_lt_of_le hb0.lt hr
  have or_b1_b132 : b1 < b132 := Nat.lt_of_lt_of_le hb1.lt hr
  have or_b2_b132 : b2 < b132 := Nat.lt_of_lt_of_le hb2.lt hr
  have or_b3_b132 : b3 < b132 := Nat.lt_of_lt_of_le hb3.lt hr
  have or_b4_b132 : b4 < b132 := Nat.lt_of_lt_of_le hb4.lt hr
  have or_b23_b132 : b23 < b132 := Nat.lt_of_lt_of_le hb23.lt hr
  have or_b5_b132 : b5 < b132 := Nat.lt_of_lt_of_le hb5.lt hr
  have or_ho_b132 := fun g hg => Nat.lt_of_lt_of_le (ho.lt g hg).2 hr
  have or_b130_b132 : b130 < b132 := Nat.lt_of_lt_of_le hb130.lt hr
  have or_b131_b132 : b131 < b132 := Nat.lt_of_lt_of_le hb131.lt hr
  have lo132 := Nat.le_trans (Bel.size hB) hr
  replace hB := hB.tr0 hs
  replace hbs := Nat.le_trans hbs (Same.size hs)
  replace hFr := hFr.of hs (by simp)
  replace hb0 := hb0.tr0 hs
  replace hb1 := hb1.tr0 hs
  replace hb2 := hb2.tr0 hs
  replace hb3 := hb3.tr0 hs
  replace hb4 := hb4.tr0 hs
  replace hb23 := hb23.tr0 hs
  replace hb5 := hb5.tr0 hs
  replace ho := ho.tr0 hs
  replace hb130 := hb130.tr0 hs
  replace hb131 := hb131.tr0 hs
  clear hs
  clear hr
  refine wl_clv rfl fn29 (add_any _ _ _ _ _ _ _ _ (by first | rfl | assumption) (by first | rfl | assumption) (by first | rfl | assumption) (by first | rfl | assumption) (by first | rfl | assumption) (by first | rfl | assumption) _ _ [[9, 4, 1], [4]] _ _ base _ _ _ _ _ _ _ _ (rows_of_blk (rs := [[9, 4, 1], [4]]) hb132 (.cons ⟨_, _, rfl, ints_of_blk [9, 4, 1] hb130 (by decide), by decide, by decide⟩ (.cons ⟨_, _, rfl, ints_of_blk [4] hb131 (by decide), by decide, by decide⟩ .nil)) (by decide)) hb5 ho hbs hl5 (by decide)) rfl rfl (fun e' w5 hr => ?_)
  obtain ⟨rfl, A2, cap2, xs2, hb5n, hon, hS, hA2⟩ := hr
  replace hB := hB.tr hS (fun x hx => by
    rcases List.mem_cons.1 hx with e | hx
    · rw [e]; exact lo5
    · exact Nat.le_trans hlo (ho.lt _ hx).1)
  replace hbs := Nat.le_trans hbs hS.size
  replace hFr := hFr.of hS (fun x hx => by
    rcases List.mem_cons.1 hx with e | hx
    · exact .inl (by rw [e]; exact z5)
    · exact .inr (Nat.le_trans hFb (ho.lt _ hx).1))
  replace hb0 := hb0.tr hS (fun hx => by
    rcases List.mem_cons.1 hx with e | hx
    · omega
    · have := (ho.lt _ hx).1; omega)
  replace hb1 := hb1.tr hS (fun hx => by
    rcases List.mem_cons.1 hx with e | hx
    · omega
    · have := (ho.lt _ hx).1; omega)
  replace hb2 := hb2.tr hS (fun hx => by
    rcases List.mem_cons.1 hx with e | hx
    · omega
    · have := (ho.lt _ hx).1; omega)
  replace hb3 := hb3.tr hS (fun hx => by
    rcases List.mem_cons.1 hx with e | hx
    · omega
    · have := (ho.lt _ hx).1; omega)
  replace hb4 := hb4.tr hS (fun hx => by
    rcases List.mem_cons.1 hx with e | hx
    · omega
    · have := (ho.lt _ hx).1; omega)
  replace hb23 := hb23.tr hS (fun hx => by
    rcases List.mem_cons.1 hx with e | hx
    · omega
    · have := (ho.lt _ hx).1; omega)
  replace hb5 := hb5n
  replace ho := hon
  refine ⟨_, rfl, ?_⟩
  refine x_nil ?_
  refine e_R ⟨(by repeat (first | exact ag_refl | exact ag_ovr' | refine ag_upd rfl ?_ | refine ag_sub rfl ?_ | refine ag_kn (by assumption) ?_)), ?_⟩
  exact ⟨hB, hbs, hFr, hb0, hb1, hb2, hb3, hb4, hb23, _, _, _, hb5, ho⟩

set_option maxHeartbeats 1000000 in
theorem small_r15 {w wc wZ : World} {base Z0 b0 b1 b2 b3 b4 b5 b23 b93 capt cap : Nat} {At A : Option Addr} {p12 q12 p15 q15 : Value} {xs : List Value} (hB : Bel w wc) (hbs : base ≤ wc.heap.size) (hFr : FrSame Z0 wZ wc) (hb0 : Blk wc b0 36 #[.slice none 0 0, .slice none 0 0, .slice none 0 0, .slice none 0 0, .slice none 0 0]) (hb1 : Blk wc b1 70 #[.string ⟨#[101]⟩, .slice none 0 0]) (hb2 : Blk wc b2 70 #[.string ⟨#[116]⟩, .slice none 0 0]) (hb3 : Blk wc b3 70 #[p12, q12]) (hb4 : Blk wc b4 70 #[p15, q15]) (hb23 : Blk wc b23 63 (smallF.flatMap (fun f => [Value.string f.name, .int .i64 f.of, .int .i64 f.val])).toArray) (hb5 : Blk wc b5 36 #[.slice At 15 capt, .slice (some ⟨b23, 0, none⟩) 5 5, .slice (some ⟨b93, 0, none⟩) 6 6, .slice A 6 cap, .slice none 0 0]) (ho : Own wc base 84 9 A 6 cap xs) (hp12 : p12.oneCell' = true) (hq12 : q12.oneCell' = true) (hp15 : p15.oneCell' = true) (hq15 : q15.oneCell' = true) (z5 : b5 < Z0) (lo5 : w.heap.size ≤ b5) (o0 : b0 < b5) (o1 : b1 < b5) (o2 : b2 < b5) (o3 : b3 < b5) (o4 : b4 < b5) (o23 : b5 < b23) (hlo : w.heap.size ≤ base) (hFb : wZ.heap.size ≤ base) (hl0 : b0 < base) (hl1 : b1 < base) (hl2 : b2 < base) (hl3 : b3 < base) (hl4 : b4 < base) (hl5 : b5 < base) (hl23 : b23 < base)  (f : Fr) (Q : Exit → Act → World → Prop) (k7 : f 7 = .func (.func 29) #[] #[.pointer (some ⟨b5, 0, none⟩)]) (k3 : f 3 = .pointer (some ⟨b3, 0, none⟩)) : WC Tryd.prog (sl (sr (sr (sr (sr (sr (sr (sr (sr (sr (sr (sr (sr (sr (sr (sr (ob Tryd.f9.body))))))))))))))))) (QRS 256 [134, 135, 136, 137, 138, 139, 140] f (fun g w' => Bel w w' ∧ base ≤ w'.heap.size ∧ FrSame Z0 wZ w' ∧ Blk w' b0 36 #[.slice none 0 0, .slice none 0 0, .slice none 0 0, .slice none 0 0, .slice none 0 0] ∧ Blk w' b1 70 #[.string ⟨#[101]⟩, .slice none 0 0] ∧ Blk w' b2 70 #[.string ⟨#[116]⟩, .slice none 0 0] ∧ Blk w' b3 70 #[p12, q12] ∧ Blk w' b4 70 #[p15, q15] ∧ Blk w' b23 63 (smallF.flatMap (fun f => [Value.string f.name, .int .i64 f.of, .int .i64 f.val])).toArray ∧ ∃ A cap xs, Blk w' b5 36 #[.slice At 15 capt, .slice (some ⟨b23, 0, none⟩) 5 5, .slice (some ⟨b93, 0, none⟩) 6 6, .slice A 7 cap, .slice none 0 0] ∧ Own w' base 84 9 A 7 cap xs) Q) 256 f wc := by
  refine c_know 7 (.func (.func 29) #[] #[.pointer (some ⟨b5, 0, none⟩)]) k7 (by simp [undef]) ?_
  refine c_know 3 (.pointer (some ⟨b3, 0, none⟩)) k3 (by simp [undef]) ?_
  refine c_region ?_
  refine wl (r_mv (v := .func _ _ _) rfl) ?_
  refine wl (r_ldS Tryd.underlying70 rfl rfl hb3.range0 sz70) ?_
  refine wl_cl fn31 (con_any _ _ _ (by first | rfl | assumption) (by first | rfl | assumption) _) rfl (fun e' w1 hr => ?_)
  obtain ⟨⟨q136_0, q136_1, q136_2, q136_3, q136_4, q136_5, rfl, hq136_0, hq136_1, hq136_2, hq136_3, hq136_4, hq136_5⟩, hs⟩ := hr
  replace hs := Same.of_bel hs
  replace hB := hB.tr0 hs
  replace hbs := Nat.le_trans hbs (Same.size hs)
  replace hFr := hFr.of hs (by simp)
  replace hb0 := hb0.tr0 hs
  replace hb1 := hb1.tr0 hs
  replace hb2 := hb2.tr0 hs
  replace hb3 := hb3.tr0 hs
  replace hb4 := hb4.tr0 hs
  replace hb23 := hb23.tr0 hs
  replace hb5 := hb5.tr0 hs
  replace ho := ho.tr0 hs
  clear hs
  refine ⟨_, rfl, ?_⟩
  refine wl_bs (cs := #[_, _, _]) [(0, .int _ _), (1, .int _ _), (2, .int _ _)] rfl Tryd.underlying45 sz3 ze3 (by decide) (by decide) (by kernel_rfl) rfl (fun b137 w2 hb137 hs hr => ?_)
  have or_b0_b137 : b0 < b137 := Nat.lt_of_lt_of_le hb0.lt hr
  have or_b1_b137 : b1 < b137 := Nat.lt_of_lt_of_le hb1.lt hr
  have or_b2_b137 : b2 < b137 := Nat.lt_of_lt_of_le hb2.lt hr
  have or_b3_b137 : b3 < b137 := Nat.lt_of_lt_of_le hb3.lt hr
  have or_b4_b137 : b4 < b137 := Nat.lt_of_lt_of_le hb4.lt hr
  have or_b23_b137 : b23 < b137 := Nat.lt_of_lt_of_le hb23.lt hr
  have or_b5_b137 : b5 < b137 := Nat.lt_of_lt_of_le hb5.lt hr
  have or_ho_b137 := fun g hg => Nat.lt_of_lt_of_le (ho.lt g hg).2 hr
  have lo137 := Nat.le_trans (Bel.size hB) hr
  replace hB := hB.tr0 hs
  replace hbs := Nat.le_trans hbs (Same.size hs)
  replace hFr := hFr.of hs (by simp)
  replace hb0 := hb0.tr0 hs
  replace hb1 := hb1.tr0 hs
  replace hb2 := hb2.tr0 hs
  replace hb3 := hb3.tr0 hs
  replace hb4 := hb4.tr0 hs
  replace hb23 := hb23.tr0 hs
  replace hb5 := hb5.tr0 hs
  replace ho := ho.tr0 hs
  clear hs
  clear hr
  refine wl_bs (cs := #[_]) [(0, .int _ _)] rfl Tryd.underlying45 sz3 ze3 (by decide) (by decide) (by kernel_rfl) rfl (fun b138 w3 hb138 hs hr => ?_)
  have or_b0_b138 : b0 < b138 := Nat.lt_of_lt_of_le hb0.lt hr
  have or_b1_b138 : b1 < b138 := Nat.lt_of_lt_of_le hb1.lt hr
  have or_b2_b138 : b2 < b138 := Nat.lt_of_lt_of_le hb2.lt hr
  have or_b3_b138 : b3 < b138 := Nat.lt_of_lt_of_le hb3.lt hr
  have or_b4_b138 : b4 < b138 := Nat.lt_of_lt_of_le hb4.lt hr
  have or_b23_b138 : b23 < b138 := Nat.lt_of_lt_of_le hb23.lt hr
  have or_b5_b138 : b5 < b138 := Nat.lt_of_lt_of_le hb5.lt hr
  have or_ho_b138 := fun g hg => Nat.lt_of_lt_of_le (ho.lt g hg).2 hr
  have or_b137_b138 : b137 < b138 := Nat.lt_of_lt_of_le hb137.lt hr
  have lo138 := Nat.le_trans (Bel.size hB) hr
  replace hB := hB.tr0 hs
  replace hbs := Nat.le_trans hbs (Same.size hs)
  replace hFr := hFr.of hs (by simp)
  replace hb0 := hb0.tr0 hs
  replace hb1 := hb1.tr0 hs
  replace hb2 := hb2.tr0 hs
  replace hb3 := hb3.tr0 hs
  replace hb4 := hb4.tr0 hs
  replace hb23 := hb23.tr0 hs
  replace hb5 := hb5.tr0 hs
  replace ho := ho.tr0 hs
  replace hb137 := hb137.tr0 hs
  clear hs
  clear hr
  refine wl_bs (cs := #[_, _]) [(0, .slice _ _ _), (1, .slice _ _ _)] rfl Tryd.underlying82 sz45 ze45 (by decide) (by decide) (by kernel_rfl) rfl (fun b139 w4 hb139 hs hr => ?_)
  have or_b0_b139 : b0 < b139 := Nat.lt_of_lt_of_le hb0.lt hr
  have or_b1_b139 : b1 < b139 := Nat.lt_of_lt_of_le hb1.lt hr
  have or_b2_b139 : b2 < b139 := Nat.lt_of_lt_of_le hb2.lt hr
  have or_b3_b139 : b3 < b139 := Nat.lt_of_lt_of_le hb3.lt hr
  have or_b4_b139 : b4 < b139 := Nat.lt_of_lt_of_le hb4.lt hr
  have or_b23_b139 : b23 < b139 := Nat.lt_of_lt_of_le hb23.lt hr
  have or_b5_b139 : b5 < b139 := Nat.lt_of_lt_of_le hb5.lt hr
  have or_ho_b139 := fun g hg => Nat.lt_of_lt_of_le (ho.lt g hg).2 hr
  have or_b137_b139 : b137 < b139 := Nat.lt_of_lt_of_le hb137.lt hr
  have or_b138_b139 : b138 < b139 := Nat.lt_of_lt_of_le hb138.lt hr
  have lo139 := Nat.le_trans (Bel.size hB) hr
  replace hB := hB.tr0 hs
  replace hbs := Nat.le_trans hbs (Same.size hs)
  replace hFr := hFr.of hs (by simp)
  replace hb0 := hb0.tr0 hs
  replace hb1 := hb1.tr0 hs
  replace hb2 := hb2.tr0 hs
  replace hb3 := hb3.tr0 hs
  replace hb4 := hb4.tr0 hs
  replace hb23 := hb23.tr0 hs
  replace hb5 := hb5.tr0 hs
  replace ho := ho.tr0 hs
  replace hb137 := hb137.tr0 hs
  replace hb138 := hb138.tr0 hs
  clear hs
  clear hr
  refine wl_clv rfl fn29 (add_any _ _ _ _ _ _ _ _ (by first | rfl | assumption) (by first | rfl | assumption) (by first | rfl | assumption) (by first | rfl | assumption) (by first | rfl | assumption) (by first | rfl | assumption) _ _ [[9, 4, 1], [5]] _ _ base _ _ _ _ _ _ _ _ (rows_of_blk (rs := [[9, 4, 1], [5]]) hb139 (.cons ⟨_, _, rfl, ints_of_blk [9, 4, 1] hb137 (by decide), by decide, by decide⟩ (.cons ⟨_, _, rfl, ints_of_blk [5] hb138 (by decide), by decide, by decide⟩ .nil)) (by decide)) hb5 ho hbs hl5 (by decide)) rfl rfl (fun e' w5 hr => ?_)
  obtain ⟨rfl, A2, cap2, xs2, hb5n, hon, hS, hA2⟩ := hr
  replace hB := hB.tr hS (fun x hx => by
    rcases List.mem_cons.1 hx with e | hx
    · rw [e]; exact lo5
    · exact Nat.le_trans hlo (ho.lt _ hx).1)
  replace hbs := Nat.le_trans hbs hS.size
  replace hFr := hFr.of hS (fun x hx => by
    rcases List.mem_cons.1 hx with e | hx
    · exact .inl (by rw [e]; exact z5)
    · exact .inr (Nat.le_trans hFb (ho.lt _ hx).1))
  replace hb0 := hb0.tr hS (fun hx => by
    rcases List.mem_cons.1 hx with e | hx
    · omega
    · have := (ho.lt _ hx).1; omega)
  replace hb1 := hb1.tr hS (fun hx => by
    rcases List.mem_cons.1 hx with e | hx
    · omega
    · have := (ho.lt _ hx).1; omega)
  replace hb2 := hb2.tr hS (fun hx => by
    rcases List.mem_cons.1 hx with e | hx
    · omega
    · have := (ho.lt _ hx).1; omega)
  replace hb3 := hb3.tr hS (fun hx => by
    rcases List.mem_cons.1 hx with e | hx
    · omega
    · have := (ho.lt _ hx).1; omega)
  replace hb4 := hb4.tr hS (fun hx => by
    rcases List.mem_cons.1 hx with e | hx
    · omega
    · have := (ho.lt _ hx).1; omega)
  replace hb23 := hb23.tr hS (fun hx => by
    rcases List.mem_cons.1 hx with e | hx
    · omega
    · have := (ho.lt _ hx).1; omega)
  replace hb5 := hb5n
  replace ho := hon
  refine ⟨_, rfl, ?_⟩
  refine x_nil ?_
  refine e_R ⟨(by repeat (first | exact ag_refl | exact ag_ovr' | refine ag_upd rfl ?_ | refine ag_sub rfl ?_ | refine ag_kn (by assumption) ?_)), ?_⟩
  exact ⟨hB, hbs, hFr, hb0, hb1, hb2, hb3, hb4, hb23, _, _, _, hb5, ho⟩

set_option maxHeartbeats 1000000 in
theorem small_r16 {w wc wZ : World} {base Z0 b0 b1 b2 b3 b4 b5 b23 b93 capt cap : Nat} {At A : Option Addr} {p12 q12 p15 q15 : Value} {xs : List Value} (hB : Bel w wc) (hbs : base ≤ wc.heap.size) (hFr : FrSame Z0 wZ wc) (hb0 : Blk wc b0 36 #[.slice none 0 0, .slice none 0 0, .slice none 0 0, .slice none 0 0, .slice none 0 0]) (hb1 : Blk wc b1 70 #[.string ⟨#[101]⟩, .slice none 0 0]) (hb2 : Blk wc b2 70 #[.string ⟨#[116]⟩, .slice none 0 0]) (hb3 : Blk wc b3 70 #[p12, q12]) (hb4 : Blk wc b4 70 #[p15, q15]) (hb23 : Blk wc b23 63 (smallF.flatMap (fun f => [Value.string f.name, .int .i64 f.of, .int .i64 f.val])).toArray) (hb5 : Blk wc b5 36 #[.slice At 15 capt, .slice (some ⟨b23, 0, none⟩) 5 5, .slice (some ⟨b93, 0, none⟩) 6 6, .slice A 7 cap, .slice none 0 0]) (ho : Own wc base 84 9 A 7 cap xs) (hp12 : p12.oneCell' = true) (hq12 : q12.oneCell' = true) (hp15 : p15.oneCell' = true) (hq15 : q15.oneCell' = true) (z5 : b5 < Z0) (lo5 : w.heap.size ≤ b5) (o0 : b0 < b5) (o1 : b1 < b5) (o2 : b2 < b5) (o3 : b3 < b5) (o4 : b4 < b5) (o23 : b5 < b23) (hlo : w.heap.size ≤ base) (hFb : wZ.heap.size ≤ base) (hl0 : b0 < base) (hl1 : b1 < base) (hl2 : b2 < base) (hl3 : b3 < base) (hl4 : b4 < base) (hl5 : b5 < base) (hl23 : b23 < base)  (f : Fr) (Q : Exit → Act → World → Prop) (k7 : f 7 = .func (.func 29) #[] #[.pointer (some ⟨b5, 0, none⟩)]) (k3 : f 3 = .pointer (some ⟨b3, 0, none⟩)) : WC Tryd.prog (sl (sr (sr (sr (sr (sr (sr (sr (sr (sr (sr (sr (sr (sr (sr (sr (sr (ob Tryd.f9.body)))))))))))))))))) (QRS 256 [141, 142, 143, 144, 145, 146, 147] f (fun g w' => Bel w w' ∧ base ≤ w'.heap.size ∧ FrSame Z0 wZ w' ∧ Blk w' b0 36 #[.slice none 0 0, .slice none 0 0, .slice none 0 0, .slice none 0 0, .slice none 0 0] ∧ Blk w' b1 70 #[.string ⟨#[101]⟩, .slice none 0 0] ∧ Blk w' b2 70 #[.string ⟨#[116]⟩, .slice none 0 0] ∧ Blk w' b3 70 #[p12, q12] ∧ Blk w' b4 70 #[p15, q15] ∧ Blk w' b23 63 (smallF.flatMap (fun f => [Value.string f.name, .int .i64 f.of, .int .i64 f.val])).toArray ∧ ∃ A cap xs, Blk w' b5 36 #[.slice At 15 capt, .slice (some ⟨b23, 0, none⟩) 5 5, .slice (some ⟨b93, 0, none⟩) 6 6, .slice A 8 cap, .slice none 0 0] ∧ Own w' base 84 9 A 8 cap xs) Q) 256 f wc := by
  refine c_know 7 (.func (.func 29) #[] #[.pointer (some ⟨b5, 0, none⟩)]) k7 (by simp [undef]) ?_
  refine c_know 3 (.pointer (some ⟨b3, 0, none⟩)) k3 (by simp [undef]) ?_
  refine c_region ?_
  refine wl (r_mv (v := .func _ _ _) rfl) ?_
  refine wl (r_ldS Tryd.underlying70 rfl rfl hb3.range0 sz70) ?_
  refine wl_cl fn31 (con_any _ _ _ (by first | rfl | assumption) (by first | rfl | assumption) _) rfl (fun e' w1 hr => ?_)
  obtain ⟨⟨q143_0, q143_1, q143_2, q143_3, q143_4, q143_5, rfl, hq143_0, hq143_1, hq143_2, hq143_3, hq143_4, hq143_5⟩, hs⟩ := hr
  replace hs := Same.of_bel hs
  replace hB := hB.tr0 hs
  replace hbs := Nat.le_trans hbs (Same.size hs)
  replace hFr := hFr.of hs (by simp)
  replace hb0 := hb0.tr0 hs
  replace hb1 := hb1.tr0 hs
  replace hb2 := hb2.tr0 hs
  replace hb3 := hb3.tr0 hs
  replace hb4 := hb4.tr0 hs
  replace hb23 := hb23.tr0 hs
  replace hb5 := hb5.tr0 hs
  replace ho := ho.tr0 hs
  clear hs
  refine ⟨_, rfl, ?_⟩
  refine wl_bs (cs := #[_, _, _]) [(0, .int _ _), (1, .int _ _), (2, .int _ _)] rfl Tryd.underlying45 sz3 ze3 (by decide) (by decide) (by kernel_rfl) rfl (fun b144 w2 hb144 hs hr => ?_)
  have or_b0_b144 : b0 < b144 := Nat.lt_of_lt_of_le hb0.lt hr
  have or_b1_b144 : b1 < b144 := Nat.lt_of_lt_of_le hb1.lt hr
  have or_b2_b144 : b2 < b144 := Nat.lt_of_lt_of_le hb2.lt hr
  have or_b3_b144 : b3 < b144 := Nat.lt_of_lt_of_le hb3.lt hr
  have or_b4_b144 : b4 < b144 := Nat.lt_of_lt_of_le hb4.lt hr
  have or_b23_b144 : b23 < b144 := Nat.lt_of_lt_of_le hb23.lt hr
  have or_b5_b144 : b5 < b144 := Nat.lt_of_lt_of_le hb5.lt hr
  have or_ho_b144 := fun g hg => Nat.lt_of_lt_of_le (ho.lt g hg).2 hr
  have lo144 := Nat.le_trans (Bel.size hB) hr
  replace hB := hB.tr0 hs
  replace hbs := Nat.le_trans hbs (Same.size hs)
  replace hFr := hFr.of hs (by simp)
  replace hb0 := hb0.tr0 hs
  replace hb1 := hb1.tr0 hs
  replace hb2 := hb2.tr0 hs
  replace hb3 := hb3.tr0 hs
  replace hb4 := hb4.tr0 hs
  replace hb23 := hb23.tr0 hs
  replace hb5 := hb5.tr0 hs
  replace ho := ho.tr0 hs
  clear hs
  clear hr
  refine wl_bs (cs := #[_]) [(0, .int _ _)] rfl Tryd.underlying45 sz3 ze3 (by decide) (by decide) (by kernel_rfl) rfl (fun b145 w3 hb145 hs hr => ?_)
  have or_b0_b145 : b0 < b145 := Nat.lt_of_lt_of_le hb0.lt hr
  have or_b1_b145 : b1 < b145 := Nat.lt_of_lt_of_le hb1.lt hr
  have or_b2_b145 : b2 < b145 := Nat.lt_of_lt_of_le hb2.lt hr
  have or_b3_b145 : b3 < b145 := Nat.lt_of_lt_of_le hb3.lt hr
  have or_b4_b145 : b4 < b145 := Nat.lt_of_lt_of_le hb4.lt hr
  have or_b23_b145 : b23 < b145 := Nat.lt_of_lt_of_le hb23.lt hr
  have or_b5_b145 : b5 < b145 := Nat.lt_of_lt_of_le hb5.lt hr
  have or_ho_b145 := fun g hg => Nat.lt_of_lt_of_le (ho.lt g hg).2 hr
  have or_b144_b145 : b144 < b145 := Nat.lt_of_lt_of_le hb144.lt hr
  have lo145 := Nat.le_trans (Bel.size hB) hr
  replace hB := hB.tr0 hs
  replace hbs := Nat.le_trans hbs (Same.size hs)
  replace hFr := hFr.of hs (by simp)
  replace hb0 := hb0.tr0 hs
  replace hb1 := hb1.tr0 hs
  replace hb2 := hb2.tr0 hs
  replace hb3 := hb3.tr0 hs
  replace hb4 := hb4.tr0 hs
  replace hb23 := hb23.tr0 hs
  replace hb5 := hb5.tr0 hs
  replace ho := ho.tr0 hs
  replace hb144 := hb144.tr0 hs
  clear hs
  clear hr
  refine wl_bs (cs := #[_, _]) [(0, .slice _ _ _), (1, .slice _ _ _)] rfl Tryd.underlying82 sz45 ze45 (by decide) (by decide) (by kernel_rfl) rfl (fun b146 w4 hb146 hs hr => ?_)
  have or_b0_b146 : b0 < b146 := Nat.lt_of_lt_of_le hb0.lt hr
  have or_b1_b146 : b1 < b146 := Nat.lt_of_lt_of_le hb1.lt hr
  have or_b2_b146 : b2 < b146 := Nat.lt_of_lt_of_le hb2.lt hr
  have or_b3_b146 : b3 < b146 := Nat.lt_of_lt_of_le hb3.lt hr
  have or_b4_b146 : b4 < b146 := Nat.lt_of_lt_of_le hb4.lt hr
  have or_b23_b146 : b23 < b146 := Nat.lt_of_lt_of_le hb23.lt hr
  have or_b5_b146 : b5 < b146 := Nat.lt_of_lt_of_le hb5.lt hr
  have or_ho_b146 := fun g hg => Nat.lt_of_lt_of_le (ho.lt g hg).2 hr
  have or_b144_b146 : b144 < b146 := Nat.lt_of_lt_of_le hb144.lt hr
  have or_b145_b146 : b145 < b146 := Nat.lt_of_lt_of_le hb145.lt hr
  have lo146 := Nat.le_trans (Bel.size hB) hr
  replace hB := hB.tr0 hs
  replace hbs := Nat.le_trans hbs (Same.size hs)
  replace hFr := hFr.of hs (by simp)
  replace hb0 := hb0.tr0 hs
  replace hb1 := hb1.tr0 hs
  replace hb2 := hb2.tr0 hs
  replace hb3 := hb3.tr0 hs
  replace hb4 := hb4.tr0 hs
  replace hb23 := hb23.tr0 hs
  replace hb5 := hb5.tr0 hs
  replace ho := ho.tr0 hs
  replace hb144 := hb144.tr0 hs
  replace hb145 := hb145.tr0 hs
  clear hs
  clear hr
  refine wl_clv rfl fn29 (add_any _ _ _ _ _ _ _ _ (by first | rfl | assumption) (by first | rfl | assumption) (by first | rfl | assumption) (by first | rfl | assumption) (by first | rfl | assumption) (by first | rfl | assumption) _ _ [[9, 4, 1], [4]] _ _ base _ _ _ _ _ _ _ _ (rows_of_blk (rs := [[9, 4, 1], [4]]) hb146 (.cons ⟨_, _, rfl, ints_of_blk [9, 4, 1] hb144 (by decide), by decide, by decide⟩ (.cons ⟨_, _, rfl, ints_of_blk [4] hb145 (by decide), by decide, by decide⟩ .nil)) (by decide)) hb5 ho hbs hl5 (by decide)) rfl rfl (fun e' w5 hr => ?_)
  obtain ⟨rfl, A2, cap2, xs2, hb5n, hon, hS, hA2⟩ := hr
  replace hB := hB.tr hS (fun x hx => by
    rcases List.mem_cons.1 hx with e | hx
    · rw [e]; exact lo5
    · exact Nat.le_trans hlo (ho.lt _ hx).1)
  replace hbs := Nat.le_trans hbs hS.size
  replace hFr := hFr.of hS (fun x hx => by
    rcases List.mem_cons.1 hx with e | hx
    · exact .inl (by rw [e]; exact z5)
    · exact .inr (Nat.le_trans hFb (ho.lt _ hx).1))
  replace hb0 := hb0.tr hS (fun hx => by
    rcases List.mem_cons.1 hx with e | hx
    · omega
    · have := (ho.lt _ hx).1; omega)
  replace hb1 := hb1.tr hS (fun hx => by
    rcases List.mem_cons.1 hx with e | hx
    · omega
    · have := (ho.lt _ hx).1; omega)
  replace hb2 := hb2.tr hS (fun hx => by
    rcases List.mem_cons.1 hx with e | hx
    · omega
    · have := (ho.lt _ hx).1; omega)
  replace hb3 := hb3.tr hS (fun hx => by
    rcases List.mem_cons.1 hx with e | hx
    · omega
    · have := (ho.lt _ hx).1; omega)
  replace hb4 := hb4.tr hS (fun hx => by
    rcases List.mem_cons.1 hx with e | hx
    · omega
    · have := (ho.lt _ hx).1; omega)
  replace hb23 := hb23.tr hS (fun hx => by
    rcases List.mem_cons.1 hx with e | hx
    · omega
    · have := (ho.lt _ hx).1; omega)
  replace hb5 := hb5n
  replace ho := hon
  refine ⟨_, rfl, ?_⟩
  refine x_nil ?_
  refine e_R ⟨(by repeat (first | exact ag_refl | exact ag_ovr' | refine ag_upd rfl ?_ | refine ag_sub rfl ?_ | refine ag_kn (by assumption) ?_)), ?_⟩
  exact ⟨hB, hbs, hFr, hb0, hb1, hb2, hb3, hb4, hb23, _, _, _, hb5, ho⟩

set_option maxHeartbeats 1000000 in
theorem small_r17 {w wc wZ : World} {base Z0 b0 b1 b2 b3 b4 b5 b23 b93 capt cap : Nat} {At A : Option Addr} {p12 q12 p15 q15 : Value} {xs : List Value} (hB : Bel w wc) (hbs : base ≤ wc.heap.size) (hFr : FrSame Z0 wZ wc) (hb0 : Blk wc b0 36 #[.slice none 0 0, .slice none 0 0, .slice none 0 0, .slice none 0 0, .slice none 0 0]) (hb1 : Blk wc b1 70 #[.string ⟨#[101]⟩, .slice none 0 0]) (hb2 : Blk wc b2 70 #[.string ⟨#[116]⟩, .slice none 0 0]) (hb3 : Blk wc b3 70 #[p12, q12]) (hb4 : Blk wc b4 70 #[p15, q15]) (hb23 : Blk wc b23 63 (smallF.flatMap (fun f => [Value.string f.name, .int .i64 f.of, .int .i64 f.val])).toArray) (hb5 : Blk wc b5 36 #[.slice At 15 capt, .slice (some ⟨b23, 0, none⟩) 5 5, .slice (some ⟨b93, 0, none⟩) 6 6, .slice A 8 cap, .slice none 0 0]) (ho : Own wc base 84 9 A 8 cap xs) (hp12 : p12.oneCell' = true) (hq12 : q12.oneCell' = true) (hp15 : p15.oneCell' = true) (hq15 : q15.oneCell' = true) (z5 : b5 < Z0) (lo5 : w.heap.size ≤ b5) (o0 : b0 < b5) (o1 : b1 < b5) (o2 : b2 < b5) (o3 : b3 < b5) (o4 : b4 < b5) (o23 : b5 < b23) (hlo : w.heap.size ≤ base) (hFb : wZ.heap.size ≤ base) (hl0 : b0 < base) (hl1 : b1 < base) (hl2 : b2 < base) (hl3 : b3 < base) (hl4 : b4 < base) (hl5 : b5 < base) (hl23 : b23 < base)  (f : Fr) (Q : Exit → Act → World → Prop) (k7 : f 7 = .func (.func 29) #[] #[.pointer (some ⟨b5, 0, none⟩)]) (k3 : f 3 = .pointer (some ⟨b3, 0, none⟩)) : WC Tryd.prog (sl (sr (sr (sr (sr (sr (sr (sr (sr (sr (sr (sr (sr (sr (sr (sr (sr (sr (ob Tryd.f9.body))))))))))))))))))) (QRS 256 [148, 149, 150, 151, 152, 153, 154] f (fun g w' => Bel w w' ∧ base ≤ w'.heap.size ∧ FrSame Z0 wZ w' ∧ Blk w' b0 36 #[.slice none 0 0, .slice none 0 0, .slice none 0 0, .slice none 0 0, .slice none 0 0] ∧ Blk w' b1 70 #[.string ⟨#[101]⟩, .slice none 0 0] ∧ Blk w' b2 70 #[.string ⟨#[116]⟩, .slice none 0 0] ∧ Blk w' b3 70 #[p12, q12] ∧ Blk w' b4 70 #[p15, q15] ∧ Blk w' b23 63 (smallF.flatMap (fun f => [Value.string f.name, .int .i64 f.of, .int .i64 f.val])).toArray ∧ ∃ A cap xs, Blk w' b5 36 #[.slice At 15 capt, .slice (some ⟨b23, 0, none⟩) 5 5, .slice (some ⟨b93, 0, none⟩) 6 6, .slice A 9 cap, .slice none 0 0] ∧ Own w' base 84 9 A 9 cap xs) Q) 256 f wc := by
  refine c_know 7 (.func (.func 29) #[] #[.pointer (some ⟨b5, 0, none⟩)]) k7 (by simp [undef]) ?_
  refine c_know 3 (.pointer (some ⟨b3, 0, none⟩)) k3 (by simp [undef]) ?_
  refine c_region ?_
  refine wl (r_mv (v := .func _ _ _) rfl) ?_
  refine wl (r_ldS Tryd.underlying70 rfl rfl hb3.range0 sz70) ?_
  refine wl_cl fn31 (con_any _ _ _ (by first | rfl | assumption) (by first | rfl | assumption) _) rfl (fun e' w1 hr => ?_)
  obtain ⟨⟨q150_0, q150_1, q150_2, q150_3, q150_4, q150_5, rfl, hq150_0, hq150_1, hq150_2, hq150_3, hq150_4, hq150_5⟩, hs⟩ := hr
  replace hs := Same.of_bel hs
  replace hB := hB.tr0 hs
  replace hbs := Nat.le_trans hbs (Same.size hs)
  replace hFr := hFr.of hs (by simp)
  replace hb0 := hb0.tr0 hs
  replace hb1 := hb1.tr0 hs
  replace hb2 := hb2.tr0 hs
  replace hb3 := hb3.tr0 hs
  replace hb4 := hb4.tr0 hs
  replace hb23 := hb23.tr0 hs
  replace hb5 := hb5.tr0 hs
  replace ho := ho.tr0 hs
  clear hs
  refine ⟨_, rfl, ?_⟩
  refine wl_bs (cs := #[_, _, _]) [(0, .int _ _), (1, .int _ _), (2, .int _ _)] rfl Tryd.underlying45 sz3 ze3 (by decide) (by decide) (by kernel_rfl) rfl (fun b151 w2 hb151 hs hr => ?_)
  have or_b0_b151 : b0 < b151 := Nat.lt_of_lt_of_le hb0.lt hr
  have or_b1_b151 : b1 < b151 := Nat.lt_of_lt_of_le hb1.lt hr
  have or_b2_b151 : b2 < b151 := Nat.lt_of_lt_of_le hb2.lt hr
  have or_b3_b151 : b3 < b151 := Nat.lt_of_lt_of_le hb3.lt hr
  have or_b4_b151 : b4 < b151 := Nat.lt_of_lt_of_le hb4.lt hr
  have or_b23_b151 : b23 < b151 := Nat.lt_of_lt_of_le hb23.lt hr
  have or_b5_b151 : b5 < b151 := Nat.lt_of_lt_of_le hb5.lt hr
  have or_ho_b151 := fun g hg => Nat.lt_of_lt_of_le (ho.lt g hg).2 hr
  have lo151 := Nat.le_trans (Bel.size hB) hr
  replace hB := hB.tr0 hs
  replace hbs := Nat.le_trans hbs (Same.size hs)
  replace hFr := hFr.of hs (by simp)
  replace hb0 := hb0.tr0 hs
  replace hb1 := hb1.tr0 hs
  replace hb2 := hb2.tr0 hs
  replace hb3 := hb3.tr0 hs
  replace hb4 := hb4.tr0 hs
  replace hb23 := hb23.tr0 hs
  replace hb5 := hb5.tr0 hs
  replace ho := ho.tr0 hs
  clear hs
  clear hr
  refine wl_bs (cs := #[_]) [(0, .int _ _)] rfl Tryd.underlying45 sz3 ze3 (by decide) (by decide) (by kernel_rfl) rfl (fun b152 w3 hb152 hs hr => ?_)
  have or_b0_b152 : b0 < b152 := Nat.lt_of_lt_of_le hb0.lt hr
  have or_b1_b152 : b1 < b152 := Nat.lt_of_lt_of_le hb1.lt hr
  have or_b2_b152 : b2 < b152 := Nat.lt_of_lt_of_le hb2.lt hr
  have or_b3_b152 : b3 < b152 := Nat.lt_of_lt_of_le hb3.lt hr
  have or_b4_b152 : b4 < b152 := Nat.lt_of_lt_of_le hb4.lt hr
  have or_b23_b152 : b23 < b152 := Nat.lt_of_lt_of_le hb23.lt hr
  have or_b5_b152 : b5 < b152 := Nat.lt_of_lt_of_le hb5.lt hr
  have or_ho_b152 := fun g hg => Nat.lt_of_lt_of_le (ho.lt g hg).2 hr
  have or_b151_b152 : b151 < b152 := Nat.lt_of_lt_of_le hb151.lt hr
  have lo152 := Nat.le_trans (Bel.size hB) hr
  replace hB := hB.tr0 hs
  replace hbs := Nat.le_trans hbs (Same.size hs)
  replace hFr := hFr.of hs (by simp)
  replace hb0 := hb0.tr0 hs
  replace hb1 := hb1.tr0 hs
  replace hb2 := hb2.tr0 hs
  replace hb3 := hb3.tr0 hs
  replace hb4 := hb4.tr0 hs
  replace hb23 := hb23.tr0 hs
  replace hb5 := hb5.tr0 hs
  replace ho := ho.tr0 hs
  replace hb151 := hb151.tr0 hs
  clear hs
  clear hr
  refine wl_bs (cs := #[_, _]) [(0, .slice _ _ _), (1, .slice _ _ _)] rfl Tryd.underlying82 sz45 ze45 (by decide) (by decide) (by kernel_rfl) rfl (fun b153 w4 hb153 hs hr => ?_)
  have or_b0_b153 : b0 < b153 := Nat.lt_of_lt_of_le hb0.lt hr
  have or_b1_b153 : b1 < b153 := Nat.lt_of_lt_of_le hb1.lt hr
  have or_b2_b153 : b2 < b153 := Nat.lt_of_lt_of_le hb2.lt hr
  have or_b3_b153 : b3 < b153 := Nat.lt_of_lt_of_le hb3.lt hr
  have or_b4_b153 : b4 < b153 := Nat.lt_of_lt_of_le hb4.lt hr
  have or_b23_b153 : b23 < b153 := Nat.lt_of_lt_of_le hb23.lt hr
  have or_b5_b153 : b5 < b153 := Nat.lt_of_lt_of_le hb5.lt hr
  have or_ho_b153 := fun g hg => Nat.lt_of_lt_of_le (ho.lt g hg).2 hr
  have or_b151_b153 : b151 < b153 := Nat.lt_of_lt_of_le hb151.lt hr
  have or_b152_b153 : b152 < b153 := Nat.lt_of_lt_of_le hb152.lt hr
  have lo153 := Nat.le_trans (Bel.size hB) hr
  replace hB := hB.tr0 hs
  replace hbs := Nat.le_trans hbs (Same.size hs)
  replace hFr := hFr.of hs (by simp)
  replace hb0 := hb0.tr0 hs
  replace hb1 := hb1.tr0 hs
  replace hb2 := hb2.tr0 hs
  replace hb3 := hb3.tr0 hs
  replace hb4 := hb4.tr0 hs
  replace hb23 := hb23.tr0 hs
  replace hb5 := hb5.tr0 hs
  replace ho := ho.tr0 hs
  replace hb151 := hb151.tr0 hs
  replace hb152 := hb152.tr0 hs
  clear hs
  clear hr
  refine wl_clv rfl fn29 (add_any _ _ _ _ _ _ _ _ (by first | rfl | assumption) (by first | rfl | assumption) (by first | rfl | assumption) (by first | rfl | assumption) (by first | rfl | assumption) (by first | rfl | assumption) _ _ [[9, 4, 1], [5]] _ _ base _ _ _ _ _ _ _ _ (rows_of_blk (rs := [[9, 4, 1], [5]]) hb153 (.cons ⟨_, _, rfl, ints_of_blk [9, 4, 1] hb151 (by decide), by decide, by decide⟩ (.cons ⟨_, _, rfl, ints_of_blk [5] hb152 (by decide), by decide, by decide⟩ .nil)) (by decide)) hb5 ho hbs hl5 (by decide)) rfl rfl (fun e' w5 hr => ?_)
  obtain ⟨rfl, A2, cap2, xs2, hb5n, hon, hS, hA2⟩ := hr
  replace hB := hB.tr hS (fun x hx => by
    rcases List.mem_cons.1 hx with e | hx
    · rw [e]; exact lo5
    · exact Nat.le_trans hlo (ho.lt _ hx).1)
  replace hbs := Nat.le_trans hbs hS.size
  replace hFr := hFr.of hS (fun x hx => by
    rcases List.mem_cons.1 hx with e | hx
    · exact .inl (by rw [e]; exact z5)
    · exact .inr (Nat.le_trans hFb (ho.lt _ hx).1))
  replace hb0 := hb0.tr hS (fun hx => by
    rcases List.mem_cons.1 hx with e | hx
    · omega
    · have := (ho.lt _ hx).1; omega)
  replace hb1 := hb1.tr hS (fun hx => by
    rcases List.mem_cons.1 hx with e | hx
    · omega
    · have := (ho.lt _ hx).1; omega)
  replace hb2 := hb2.tr hS (fun hx => by
    rcases List.mem_cons.1 hx with e | hx
    · omega
    · have := (ho.lt _ hx).1; omega)
  replace hb3 := hb3.tr hS (fun hx => by
    rcases List.mem_cons.1 hx with e | hx
    · omega
    · have := (ho.lt _ hx).1; omega)
  replace hb4 := hb4.tr hS (fun hx => by
    rcases List.mem_cons.1 hx with e | hx
    · omega
    · have := (ho.lt _ hx).1; omega)
  replace hb23 := hb23.tr hS (fun hx => by
    rcases List.mem_cons.1 hx with e | hx
    · omega
    · have := (ho.lt _ hx).1; omega)
  replace hb5 := hb5n
  replace ho := hon
  refine ⟨_, rfl, ?_⟩
  refine x_nil ?_
  refine e_R ⟨(by repeat (first | exact ag_refl | exact ag_ovr' | refine ag_upd rfl ?_ | refine ag_sub rfl ?_ | refine ag_kn (by assumption) ?_)), ?_⟩
  exact ⟨hB, hbs, hFr, hb0, hb1, hb2, hb3, hb4, hb23, _, _, _, hb5, ho⟩

set_option maxHeartbeats 1000000 in
theorem small_r18 {w wc wZ : World} {base Z0 b0 b1 b2 b3 b4 b5 b23 b93 capt cap : Nat} {At A : Option Addr} {p12 q12 p15 q15 : Value} {xs : List Value} (hB : Bel w wc) (hbs : base ≤ wc.heap.size) (hFr : FrSame Z0 wZ wc) (hb0 : Blk wc b0 36 #[.slice none 0 0, .slice none 0 0, .slice none 0 0, .slice none 0 0, .slice none 0 0]) (hb1 : Blk wc b1 70 #[.string ⟨#[101]⟩, .slice none 0 0]) (hb2 : Blk wc b2 70 #[.string ⟨#[116]⟩, .slice none 0 0]) (hb3 : Blk wc b3 70 #[p12, q12]) (hb4 : Blk wc b4 70 #[p15, q15]) (hb23 : Blk wc b23 63 (smallF.flatMap (fun f => [Value.string f.name, .int .i64 f.of, .int .i64 f.val])).toArray) (hb5 : Blk wc b5 36 #[.slice At 15 capt, .slice (some ⟨b23, 0, none⟩) 5 5, .slice (some ⟨b93, 0, none⟩) 6 6, .slice A 9 cap, .slice none 0 0]) (ho : Own wc base 84 9 A 9 cap xs) (hp12 : p12.oneCell' = true) (hq12 : q12.oneCell' = true) (hp15 : p15.oneCell' = true) (hq15 : q15.oneCell' = true) (z5 : b5 < Z0) (lo5 : w.heap.size ≤ b5) (o0 : b0 < b5) (o1 : b1 < b5) (o2 : b2 < b5) (o3 : b3 < b5) (o4 : b4 < b5) (o23 : b5 < b23) (hlo : w.heap.size ≤ base) (hFb : wZ.heap.size ≤ base) (hl0 : b0 < base) (hl1 : b1 < base) (hl2 : b2 < base) (hl3 : b3 < base) (hl4 : b4 < base) (hl5 : b5 < base) (hl23 : b23 < base)  (f : Fr) (Q : Exit → Act → World → Prop) (k7 : f 7 = .func (.func 29) #[] #[.pointer (some ⟨b5, 0, none⟩)]) (k3 : f 3 = .pointer (some ⟨b3, 0, none⟩)) : WC Tryd.prog (sl (sr (sr (sr (sr (sr (sr (sr (sr (sr (sr (sr (sr (sr (sr (sr (sr (sr (sr (ob Tryd.f9.body)))))))))))))))))))) (QRS 256 [155, 156, 157, 158, 159, 160, 161] f (fun g w' => Bel w w' ∧ base ≤ w'.heap.size ∧ FrSame Z0 wZ w' ∧ Blk w' b0 36 #[.slice none 0 0, .slice none 0 0, .slice none 0 0, .slice none 0 0, .slice none 0 0] ∧ Blk w' b1 70 #[.string ⟨#[101]⟩, .slice none 0 0] ∧ Blk w' b2 70 #[.string ⟨#[116]⟩, .slice none 0 0] ∧ Blk w' b3 70 #[p12, q12] ∧ Blk w' b4 70 #[p15, q15] ∧ Blk w' b23 63 (smallF.flatMap (fun f => [Value.string f.name, .int .i64 f.of, .int .i64 f.val])).toArray ∧ ∃ A cap xs, Blk w' b5 36 #[.slice At 15 capt, .slice (some ⟨b23, 0, none⟩) 5 5, .slice (some ⟨b93, 0, none⟩) 6 6, .slice A 10 cap, .slice none 0 0] ∧ Own w' base 84 9 A 10 cap xs) Q) 256 f wc := by
  refine c_know 7 (.func (.func 29) #[] #[.pointer (some ⟨b5, 0, none⟩)]) k7 (by simp [undef]) ?_
  refine c_know 3 (.pointer (some ⟨b3, 0, none⟩)) k3 (by simp [undef]) ?_
  refine c_region ?_
  refine wl (r_mv (v := .func _ _ _) rfl) ?_
  refine wl (r_ldS Tryd.underlying70 rfl rfl hb3.range0 sz70) ?_
  refine wl_cl fn31 (con_any _ _ _ (by first | rfl | assumption) (by first | rfl | assumption) _) rfl (fun e' w1 hr => ?_)
  obtain ⟨⟨q157_0, q157_1, q157_2, q157_3, q157_4, q157_5, rfl, hq157_0, hq157_1, hq157_2, hq157_3, hq157_4, hq157_5⟩, hs⟩ := hr
  replace hs := Same.of_bel hs
  replace hB := hB.tr0 hs
  replace hbs := Nat.le_trans hbs (Same.size hs)
  replace hFr := hFr.of hs (by simp)
  replace hb0 := hb0.tr0 hs
  replace hb1 := hb1.tr0 hs
  replace hb2 := hb2.tr0 hs
  replace hb3 := hb3.tr0 hs
  replace hb4 := hb4.tr0 hs
  replace hb23 := hb23.tr0 hs
  replace hb5 := hb5.tr0 hs
  replace ho := ho.tr0 hs
  clear hs
  refine ⟨_, rfl, ?_⟩
  refine wl_bs (cs := #[_, _, _]) [(0, .int _ _), (1, .int _ _), (2, .int _ _)] rfl Tryd.underlying45 sz3 ze3 (by decide) (by decide) (by kernel_rfl) rfl (fun b158 w2 hb158 hs hr => ?_)
  have or_b0_b158 : b0 < b158 := Nat.lt_of_lt_of_le hb0.lt hr
  have or_b1_b158 : b1 < b158 := Nat.lt_of_lt_of_le hb1.lt hr
  have or_b2_b158 : b2 < b158 := Nat.lt_of_lt_of_le hb2.lt hr
  have or_b3_b158 : b3 < b158 := Nat.lt_of_lt_of_le hb3.lt hr
  have or_b4_b158 : b4 < b158 := Nat.lt_of_lt_of_le hb4.lt hr
  have or_b23_b158 : b23 < b158 := Nat.lt_of_lt_of_le hb23.lt hr
  have or_b5_b158 : b5 < b158 := Nat.lt_of_lt_of_le hb5.lt hr
  have or_ho_b158 := fun g hg => Nat.lt_of_lt_of_le (ho.lt g hg).2 hr
  have lo158 := Nat.le_trans (Bel.size hB) hr
  replace hB := hB.tr0 hs
  replace hbs := Nat.le_trans hbs (Same.size hs)
  replace hFr := hFr.of hs (by simp)
  replace hb0 := hb0.tr0 hs
  replace hb1 := hb1.tr0 hs
  replace hb2 := hb2.tr0 hs
  replace hb3 := hb3.tr0 hs
  replace hb4 := hb4.tr0 hs
  replace hb23 := hb23.tr0 hs
  replace hb5 := hb5.tr0 hs
  replace ho := ho.tr0 hs
  clear hs
  clear hr
  refine wl_bs (cs := #[_]) [(0, .int _ _)] rfl Tryd.underlying45 sz3 ze3 (by decide) (by decide) (by kernel_rfl) rfl (fun b159 w3 hb159 hs hr => ?_)
  have or_b0_b159 : b0 < b159 := Nat.lt_of_lt_of_le hb0.lt hr
  have or_b1_b159 : b1 < b159 := Nat.lt_of_lt_of_le hb1.lt hr
  have or_b2_b159 : b2 < b159 := Nat.lt_of_lt_of_le hb2.lt hr
  have or_b3_b159 : b3 < b159 := Nat.lt_of_lt_of_le hb3.lt hr
  have or_b4_b159 : b4 < b159 := Nat.lt_of_lt_of_le hb4.lt hr
  have or_b23_b159 : b23 < b159 := Nat.lt_of_lt_of_le hb23.lt hr
  have or_b5_b159 : b5 < b159 := Nat.lt_of_lt_of_le hb5.lt hr
  have or_ho_b159 := fun g hg => Nat.lt_of_lt_of_le (ho.lt g hg).2 hr
  have or_b158_b159 : b158 < b159 := Nat.lt_of_lt_of_le hb158.lt hr
  have lo159 := Nat.le_trans (Bel.size hB) hr
  replace hB := hB.tr0 hs
  replace hbs := Nat.le_trans hbs (Same.size hs)
  replace hFr := hFr.of hs (by simp)
  replace hb0 := hb0.tr0 hs
  replace hb1 := hb1.tr0 hs
  replace hb2 := hb2.tr0 hs
  replace hb3 := hb3.tr0 hs
  replace hb4 := hb4.tr0 hs
  replace hb23 := hb23.tr0 hs
  replace hb5 := hb5.tr0 hs
  replace ho := ho.tr0 hs
  replace hb158 := hb158.tr0 hs
  clear hs
  clear hr
  refine wl_bs (cs := #[_, _]) [(0, .slice _ _ _), (1, .slice _ _ _)] rfl Tryd.underlying82 sz45 ze45 (by decide) (by decide) (by kernel_rfl) rfl (fun b160 w4 hb160 hs hr => ?_)
  have or_b0_b160 : b0 < b160 := Nat.lt_of_lt_of_le hb0.lt hr
  have or_b1_b160 : b1 < b160 := Nat.lt_of_lt_of_le hb1.lt hr
  have or_b2_b160 : b2 < b160 := Nat.lt_of_lt_of_le hb2.lt hr
  have or_b3_b160 : b3 < b160 := Nat.lt_of_lt_of_le hb3.lt hr
  have or_b4_b160 : b4 < b160 := Nat.lt_of_lt_of_le hb4.lt hr
  have or_b23_b160 : b23 < b160 := Nat.lt_of_lt_of_le hb23.lt hr
  have or_b5_b160 : b5 < b160 := Nat.lt_of_lt_of_le hb5.lt hr
  have or_ho_b160 := fun g hg => Nat.lt_of_lt_of_le (ho.lt g hg).2 hr
  have or_b158_b160 : b158 < b160 := Nat.lt_of_lt_of_le hb158.lt hr
  have or_b159_b160 : b159 < b160 := Nat.lt_of_lt_of_le hb159.lt hr
  have lo160 := Nat.le_trans (Bel.size hB) hr
  replace hB := hB.tr0 hs
  replace hbs := Nat.le_trans hbs (Same.size hs)
  replace hFr := hFr.of hs (by simp)
  replace hb0 := hb0.tr0 hs
  replace hb1 := hb1.tr0 hs
  replace hb2 := hb2.tr0 hs
  replace hb3 := hb3.tr0 hs
  replace hb4 := hb4.tr0 hs
  replace hb23 := hb23.tr0 hs
  replace hb5 := hb5.tr0 hs
  replace ho := ho.tr0 hs
  replace hb158 := hb158.tr0 hs
  replace hb159 := hb159.tr0 hs
  clear hs
  clear hr
  refine wl_clv rfl fn29 (add_any _ _ _ _ _ _ _ _ (by first | rfl | assumption) (by first | rfl | assumption) (by first | rfl | assumption) (by first | rfl | assumption) (by first | rfl | assumption) (by first | rfl | assumption) _ _ [[11, 4, 1], [4]] _ _ base _ _ _ _ _ _ _ _ (rows_of_blk (rs := [[11, 4, 1], [4]]) hb160 (.cons ⟨_, _, rfl, ints_of_blk [11, 4, 1] hb158 (by decide), by decide, by decide⟩ (.cons ⟨_, _, rfl, ints_of_blk [4] hb159 (by decide), by decide, by decide⟩ .nil)) (by decide)) hb5 ho hbs hl5 (by decide)) rfl rfl (fun e' w5 hr => ?_)
  obtain ⟨rfl, A2, cap2, xs2, hb5n, hon, hS, hA2⟩ := hr
  replace hB := hB.tr hS (fun x hx => by
    rcases List.mem_cons.1 hx with e | hx
    · rw [e]; exact lo5
    · exact Nat.le_trans hlo (ho.lt _ hx).1)
  replace hbs := Nat.le_trans hbs hS.size
  replace hFr := hFr.of hS (fun x hx => by
    rcases List.mem_cons.1 hx with e | hx
    · exact .inl (by rw [e]; exact z5)
    · exact .inr (Nat.le_trans hFb (ho.lt _ hx).1))
  replace hb0 := hb0.tr hS (fun hx => by
    rcases List.mem_cons.1 hx with e | hx
    · omega
    · have := (ho.lt _ hx).1; omega)
  replace hb1 := hb1.tr hS (fun hx => by
    rcases List.mem_cons.1 hx with e | hx
    · omega
    · have := (ho.lt _ hx).1; omega)
  replace hb2 := hb2.tr hS (fun hx => by
    rcases List.mem_cons.1 hx with e | hx
    · omega
    · have := (ho.lt _ hx).1; omega)
  replace hb3 := hb3.tr hS (fun hx => by
    rcases List.mem_cons.1 hx with e | hx
    · omega
    · have := (ho.lt _ hx).1; omega)
  replace hb4 := hb4.tr hS (fun hx => by
    rcases List.mem_cons.1 hx with e | hx
    · omega
    · have := (ho.lt _ hx).1; omega)
  replace hb23 := hb23.tr hS (fun hx => by
    rcases List.mem_cons.1 hx with e | hx
    · omega
    · have := (ho.lt _ hx).1; omega)
  replace hb5 := hb5n
  replace ho := hon
  refine ⟨_, rfl, ?_⟩
  refine x_nil ?_
  refine e_R ⟨(by repeat (first | exact ag_refl | exact ag_ovr' | refine ag_upd rfl ?_ | refine ag_sub rfl ?_ | refine ag_kn (by assumption) ?_)), ?_⟩
  exact ⟨hB, hbs, hFr, hb0, hb1, hb2, hb3, hb4, hb23, _, _, _, hb5, ho⟩

set_option maxHeartbeats 1000000 in
theorem small_r19 {w wc wZ : World} {base Z0 b0 b1 b2 b3 b4 b5 b23 b93 capt cap : Nat} {At A : Option Addr} {p12 q12 p15 q15 : Value} {xs : List Value} (hB : Bel w wc) (hbs : base ≤ wc.heap.size) (hFr : FrSame Z0 wZ wc) (hb0 : Blk wc b0 36 #[.slice none 0 0, .slice none 0 0, .slice none 0 0, .slice none 0 0, .slice none 0 0]) (hb1 : Blk wc b1 70 #[.string ⟨#[101]⟩, .slice none 0 0]) (hb2 : Blk wc b2 70 #[.string ⟨#[116]⟩, .slice none 0 0]) (hb3 : Blk wc b3 70 #[p12, q12]) (hb4 : Blk wc b4 70 #[p15, q15]) (hb23 : Blk wc b23 63 (smallF.flatMap (fun f => [Value.string f.name, .int .i64 f.of, .int .i64 f.val])).toArray) (hb5 : Blk wc b5 36 #[.slice At 15 capt, .slice (some ⟨b23, 0, none⟩) 5 5, .slice (some ⟨b93, 0, none⟩) 6 6, .slice A 10 cap, .slice none 0 0]) (ho : Own wc base 84 9 A 10 cap xs) (hp12 : p12.oneCell' = true) (hq12 : q12.oneCell' = true) (hp15 : p15.oneCell' = true) (hq15 : q15.oneCell' = true) (z5 : b5 < Z0) (lo5 : w.heap.size ≤ b5) (o0 : b0 < b5) (o1 : b1 < b5) (o2 : b2 < b5) (o3 : b3 < b5) (o4 : b4 < b5) (o23 : b5 < b23) (hlo : w.heap.size ≤ base) (hFb : wZ.heap.size ≤ base) (hl0 : b0 < base) (hl1 : b1 < base) (hl2 : b2 < base) (hl3 : b3 < base) (hl4 : b4 < base) (hl5 : b5 < base) (hl23 : b23 < base)  (f : Fr) (Q : Exit → Act → World → Prop) (k7 : f 7 = .func (.func 29) #[] #[.pointer (some ⟨b5, 0, none⟩)]) (k3 : f 3 = .pointer (some ⟨b3, 0, none⟩)) : WC Tryd.prog (sl (sr (sr (sr (sr (sr (sr (sr (sr (sr (sr (sr (sr (sr (sr (sr (sr (sr (sr (sr (ob Tryd.f9.body))))))))))))))))))))) (QRS 256 [162, 163, 164, 165, 166, 167, 168] f (fun g w' => Bel w w' ∧ base ≤ w'.heap.size ∧ FrSame Z0 wZ w' ∧ Blk w' b0 36 #[.slice none 0 0, .slice none 0 0, .slice none 0 0, .slice none 0 0, .slice none 0 0] ∧ Blk w' b1 70 #[.string ⟨#[101]⟩, .slice none 0 0] ∧ Blk w' b2 70 #[.string ⟨#[116]⟩, .slice none 0 0] ∧ Blk w' b3 70 #[p12, q12] ∧ Blk w' b4 70 #[p15, q15] ∧ Blk w' b23 63 (smallF.flatMap (fun f => [Value.string f.name, .int .i64 f.of, .int .i64 f.val])).toArray ∧ ∃ A cap xs, Blk w' b5 36 #[.slice At 15 capt, .slice (some ⟨b23, 0, none⟩) 5 5, .slice (some ⟨b93, 0, none⟩) 6 6, .slice A 11 cap, .slice none 0 0] ∧ Own w' base 84 9 A 11 cap xs) Q) 256 f wc := by
  refine c_know 7 (.func (.func 29) #[] #[.pointer (some ⟨b5, 0, none⟩)]) k7 (by simp [undef]) ?_
  refine c_know 3 (.pointer (some ⟨b3, 0, none⟩)) k3 (by simp [undef]) ?_
  refine c_region ?_
  refine wl (r_mv (v := .func _ _ _) rfl) ?_
  refine wl (r_ldS Tryd.underlying70 rfl rfl hb3.range0 sz70) ?_
  refine wl_cl fn31 (con_any _ _ _ (by first | rfl | assumption) (by first | rfl | assumption) _) rfl (fun e' w1 hr => ?_)
  obtain ⟨⟨q164_0, q164_1, q164_2, q164_3, q164_4, q164_5, rfl, hq164_0, hq164_1, hq164_2, hq164_3, hq164_4, hq164_5⟩, hs⟩ := hr
  replace hs := Same.of_bel hs
  replace hB := hB.tr0 hs
  replace hbs := Nat.le_trans hbs (Same.size hs)
  replace hFr := hFr.of hs (by simp)
  replace hb0 := hb0.tr0 hs
  replace hb1 := hb1.tr0 hs
  replace hb2 := hb2.tr0 hs
  replace hb3 := hb3.tr0 hs
  replace hb4 := hb4.tr0 hs
  replace hb23 := hb23.tr0 hs
  replace hb5 := hb5.tr0 hs
  replace ho := ho.tr0 hs
  clear hs
  refine ⟨_, rfl, ?_⟩
  refine wl_bs (cs := #[_, _, _]) [(0, .int _ _), (1, .int _ _), (2, .int _ _)] rfl Tryd.underlying45 sz3 ze3 (by decide) (by decide) (by kernel_rfl) rfl (fun b165 w2 hb165 hs hr => ?_)
  have or_b0_b165 : b0 < b165 := Nat.lt_of_lt_of_le hb0.lt hr
  have or_b1_b165 : b1 < b165 := Nat.lt_of_lt_of_le hb1.lt hr
  have or_b2_b165 : b2 < b165 := Nat.lt_of_lt_of_le hb2.lt hr
  have or_b3_b165 : b3 < b165 := Nat.lt_of_lt_of_le hb3.lt hr
  have or_b4_b165 : b4 < b165 := Nat.lt_of_lt_of_le hb4.lt hr
  have or_b23_b165 : b23 < b165 := Nat.lt_of_lt_of_le hb23.lt hr
  have or_b5_b165 : b5 < b165 := Nat.lt_of_lt_of_le hb5.lt hr
  have or_ho_b165 := fun g hg => Nat.lt_of_lt_of_le (ho.lt g hg).2 hr
  have lo165 := Nat.le_trans (Bel.size hB) hr
  replace hB := hB.tr0 hs
  replace hbs := Nat.le_trans hbs (Same.size hs)
  replace hFr := hFr.of hs (by simp)
  replace hb0 := hb0.tr0 hs
  replace hb1 := hb1.tr0 hs
  replace hb2 := hb2.tr0 hs
  replace hb3 := hb3.tr0 hs
  replace hb4 := hb4.tr0 hs
  replace hb23 := hb23.tr0 hs
  replace hb5 := hb5.tr0 hs
  replace ho := ho.tr0 hs
  clear hs
  clear hr
  refine wl_bs (cs := #[_]) [(0, .int _ _)] rfl Tryd.underlying45 sz3 ze3 (by decide) (by decide) (by kernel_rfl) rfl (fun b166 w3 hb166 hs hr => ?_)
  have or_b0_b166 : b0 < b166 := Nat.lt_of_lt_of_le hb0.lt hr
  have or_b1_b166 : b1 < b166 := Nat.lt_of_lt_of_le hb1.lt hr
  have or_b2_b166 : b2 < b166 := Nat.lt_of_lt_of_le hb2.lt hr
  have or_b3_b166 : b3 < b166 := Nat.lt_of_lt_of_le hb3.lt hr
  have or_b4_b166 : b4 < b166 := Nat.lt_of_lt_of_le hb4.lt hr
  have or_b23_b166 : b23 < b166 := Nat.lt_of_lt_of_le hb23.lt hr
  have or_b5_b166 : b5 < b166 := Nat.lt_of_lt_of_le hb5.lt hr
  have or_ho_b166 := fun g hg => Nat.lt_of_lt_of_le (ho.lt g hg).2 hr
  have or_b165_b166 : b165 < b166 := Nat.lt_of_lt_of_le hb165.lt hr
  have lo166 := Nat.le_trans (Bel.size hB) hr
  replace hB := hB.tr0 hs
  replace hbs := Nat.le_trans hbs (Same.size hs)
  replace hFr := hFr.of hs (by simp)
  replace hb0 := hb0.tr0 hs
  replace hb1 := hb1.tr0 hs
  replace hb2 := hb2.tr0 hs
  replace hb3 := hb3.tr0 hs
  replace hb4 := hb4.tr0 hs
  replace hb23 := hb23.tr0 hs
  replace hb5 := hb5.tr0 hs
  replace ho := ho.tr0 hs
  replace hb165 := hb165.tr0 hs
  clear hs
  clear hr
  refine wl_bs (cs := #[_, _]) [(0, .slice _ _ _), (1, .slice _ _ _)] rfl Tryd.underlying82 sz45 ze45 (by decide) (by decide) (by kernel_rfl) rfl (fun b167 w4 hb167 hs hr => ?_)
  have or_b0_b167 : b0 < b167 := Nat.lt_of_lt_of_le hb0.lt hr
  have or_b1_b167 : b1 < b167 := Nat.lt_of_lt_of_le hb1.lt hr
  have or_b2_b167 : b2 < b167 := Nat.lt_of_lt_of_le hb2.lt hr
  have or_b3_b167 : b3 < b167 := Nat.lt_of_lt_of_le hb3.lt hr
  have or_b4_b167 : b4 < b167 := Nat.lt_of_lt_of_le hb4.lt hr
  have or_b23_b167 : b23 < b167 := Nat.lt_of_lt_of_le hb23.lt hr
  have or_b5_b167 : b5 < b167 := Nat.lt_of_lt_of_le hb5.lt hr
  have or_ho_b167 := fun g hg => Nat.lt_of_lt_of_le (ho.lt g hg).2 hr
  have or_b165_b167 : b165 < b167 := Nat.lt_of_lt_of_le hb165.lt hr
  have or_b166_b167 : b166 < b167 := Nat.lt_of_lt_of_le hb166.lt hr
  have lo167 := Nat.le_trans (Bel.size hB) hr
  replace hB := hB.tr0 hs
  replace hbs := Nat.le_trans hbs (Same.size hs)
  replace hFr := hFr.of hs (by simp)
  replace hb0 := hb0.tr0 hs
  replace hb1 := hb1.tr0 hs
  replace hb2 := hb2.tr0 hs
  replace hb3 := hb3.tr0 hs
  replace hb4 := hb4.tr0 hs
  replace hb23 := hb23.tr0 hs
  replace hb5 := hb5.tr0 hs
  replace ho := ho.tr0 hs
  replace hb165 := hb165.tr0 hs
  replace hb166 := hb166.tr0 hs
  clear hs
  clear hr
  refine wl_clv rfl fn29 (add_any _ _ _ _ _ _ _ _ (by first | rfl | assumption) (by first | rfl | assumption) (by first | rfl | assumption) (by first | rfl | assumption) (by first | rfl | assumption) (by first | rfl | assumption) _ _ [[11, 4, 1], [5]] _ _ base _ _ _ _ _ _ _ _ (rows_of_blk (rs := [[11, 4, 1], [5]]) hb167 (.cons ⟨_, _, rfl, ints_of_blk [11, 4, 1] hb165 (by decide), by decide, by decide⟩ (.cons ⟨_, _, rfl, ints_of_blk [5] hb166 (by decide), by decide, by decide⟩ .nil)) (by decide)) hb5 ho hbs hl5 (by decide)) rfl rfl (fun e' w5 hr => ?_)
  obtain ⟨rfl, A2, cap2, xs2, hb5n, hon, hS, hA2⟩ := hr
  replace hB := hB.tr hS (fun x hx => by
    rcases List.mem_cons.1 hx with e | hx
    · rw [e]; exact lo5
    · exact Nat.le_trans hlo (ho.lt _ hx).1)
  replace hbs := Nat.le_trans hbs hS.size
  replace hFr := hFr.of hS (fun x hx => by
    rcases List.mem_cons.1 hx with e | hx
    · exact .inl (by rw [e]; exact z5)
    · exact .inr (Nat.le_trans hFb (ho.lt _ hx).1))
  replace hb0 := hb0.tr hS (fun hx => by
    rcases List.mem_cons.1 hx with e | hx
    · omega
    · have := (ho.lt _ hx).1; omega)
  replace hb1 := hb1.tr hS (fun hx => by
    rcases List.mem_cons.1 hx with e | hx
    · omega
    · have := (ho.lt _ hx).1; omega)
  replace hb2 := hb2.tr hS (fun hx => by
    rcases List.mem_cons.1 hx with e | hx
    · omega
    · have := (ho.lt _ hx).1; omega)
  replace hb3 := hb3.tr hS (fun hx => by
    rcases List.mem_cons.1 hx with e | hx
    · omega
    · have := (ho.lt _ hx).1; omega)
  replace hb4 := hb4.tr hS (fun hx => by
    rcases List.mem_cons.1 hx with e | hx
    · omega
    · have := (ho.lt _ hx).1; omega)
  replace hb23 := hb23.tr hS (fun hx => by
    rcases List.mem_cons.1 hx with e | hx
    · omega
    · have := (ho.lt _ hx).1; omega)
  replace hb5 := hb5n
  replace ho := hon
  refine ⟨_, rfl, ?_⟩
  refine x_nil ?_
  refine e_R ⟨(by repeat (first | exact ag_refl | exact ag_ovr' | refine ag_upd rfl ?_ | refine ag_sub rfl ?_ | refine ag_kn (by assumption) ?_)), ?_⟩
  exact ⟨hB, hbs, hFr, hb0, hb1, hb2, hb3, hb4, hb23, _, _, _, hb5, ho⟩
end Go.Proofs.YthhkbhapfcfdjaaDoor
