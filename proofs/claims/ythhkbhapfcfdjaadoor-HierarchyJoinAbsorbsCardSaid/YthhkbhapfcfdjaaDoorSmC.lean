/- Regions of the function Small, each at every world. -/
import Derived.Test.YthhkbhapfcfdjaaDoorSmB
namespace Go.Proofs.YthhkbhapfcfdjaaDoor
open Go.RowKit


set_option maxHeartbeats 1000000 in
theorem small_r20 {w wc wZ : World} {base Z0 b0 b1 b2 b3 b4 b5 b23 b93 capt cap : Nat} {At A : Option Addr} {p12 q12 p15 q15 : Value} {xs : List Value} (hB : Bel w wc) (hbs : base ≤ wc.heap.size) (hFr : FrSame Z0 wZ wc) (hb0 : Blk wc b0 36 #[.slice none 0 0, .slice none 0 0, .slice none 0 0, .slice none 0 0, .slice none 0 0]) (hb1 : Blk wc b1 70 #[.string ⟨#[101]⟩, .slice none 0 0]) (hb2 : Blk wc b2 70 #[.string ⟨#[116]⟩, .slice none 0 0]) (hb3 : Blk wc b3 70 #[p12, q12]) (hb4 : Blk wc b4 70 #[p15, q15]) (hb23 : Blk wc b23 63 (smallF.flatMap (fun f => [Value.string f.name, .int .i64 f.of, .int .i64 f.val])).toArray) (hb5 : Blk wc b5 36 #[.slice At 15 capt, .slice (some ⟨b23, 0, none⟩) 5 5, .slice (some ⟨b93, 0, none⟩) 6 6, .slice A 11 cap, .slice none 0 0]) (ho : Own wc base 84 9 A 11 cap xs) (hp12 : p12.oneCell' = true) (hq12 : q12.oneCell' = true) (hp15 : p15.oneCell' = true) (hq15 : q15.oneCell' = true) (z5 : b5 < Z0) (lo5 : w.heap.size ≤ b5) (o0 : b0 < b5) (o1 : b1 < b5) (o2 : b2 < b5) (o3 : b3 < b5) (o4 : b4 < b5) (o23 : b5 < b23) (hlo : w.heap.size ≤ base) (hFb : wZ.heap.size ≤ base) (hl0 : b0 < base) (hl1 : b1 < base) (hl2 : b2 < base) (hl3 : b3 < base) (hl4 : b4 < base) (hl5 : b5 < base) (hl23 : b23 < base)  (f : Fr) (Q : Exit → Act → World → Prop) (k7 : f 7 = .func (.func 29) #[] #[.pointer (some ⟨b5, 0, none⟩)]) (k3 : f 3 = .pointer (some ⟨b3, 0, none⟩)) : WC Tryd.prog (sl (sr (sr (sr (sr (sr (sr (sr (sr (sr (sr (sr (sr (sr (sr (sr (sr (sr (sr (sr (sr (ob Tryd.f9.body)))))))))))))))))))))) (QRS 256 [169, 170, 171, 172, 173, 174, 175] f (fun g w' => Bel w w' ∧ base ≤ w'.heap.size ∧ FrSame Z0 wZ w' ∧ Blk w' b0 36 #[.slice none 0 0, .slice none 0 0, .slice none 0 0, .slice none 0 0, .slice none 0 0] ∧ Blk w' b1 70 #[.string ⟨#[101]⟩, .slice none 0 0] ∧ Blk w' b2 70 #[.string ⟨#[116]⟩, .slice none 0 0] ∧ Blk w' b3 70 #[p12, q12] ∧ Blk w' b4 70 #[p15, q15] ∧ Blk w' b23 63 (smallF.flatMap (fun f => [Value.string f.name, .int .i64 f.of, .int .i64 f.val])).toArray ∧ ∃ A cap xs, Blk w' b5 36 #[.slice At 15 capt, .slice (some ⟨b23, 0, none⟩) 5 5, .slice (some ⟨b93, 0, none⟩) 6 6, .slice A 12 cap, .slice none 0 0] ∧ Own w' base 84 9 A 12 cap xs) Q) 256 f wc := by
  refine c_know 7 (.func (.func 29) #[] #[.pointer (some ⟨b5, 0, none⟩)]) k7 (by simp [undef]) ?_
  refine c_know 3 (.pointer (some ⟨b3, 0, none⟩)) k3 (by simp [undef]) ?_
  refine c_region ?_
  refine wl (r_mv (v := .func _ _ _) rfl) ?_
  refine wl (r_ldS Tryd.underlying70 rfl rfl hb3.range0 sz70) ?_
  refine wl_cl fn31 (con_any _ _ _ (by first | rfl | assumption) (by first | rfl | assumption) _) rfl (fun e' w1 hr => ?_)
  obtain ⟨⟨q171_0, q171_1, q171_2, q171_3, q171_4, q171_5, rfl, hq171_0, hq171_1, hq171_2, hq171_3, hq171_4, hq171_5⟩, hs⟩ := hr
  replace hs := Same.of_bel hs
  replace hB := hB.tr0 hs
  replace hbs := Nat.le_trans hbs (Same.size hs)
  replace hFr := hFr.of hs (by simp)
  replace hb0 := hb0.tr0 hs
  replace hb1 := hb1.tr0 hs
  replace hb2 := hb2.tr0 hs
  replace hb3 := hb3.tr0 hs
  replace hb4 := hb4.tr0 hs
  replace hb23 := hb23.tr0 hs
  replace hb5 := hb5.tr0 hs
  replace ho := ho.tr0 hs
  clear hs
  refine ⟨_, rfl, ?_⟩
  refine wl_bs (cs := #[_, _, _]) [(0, .int _ _), (1, .int _ _), (2, .int _ _)] rfl Tryd.underlying45 sz3 ze3 (by decide) (by decide) (by kernel_rfl) rfl (fun b172 w2 hb172 hs hr => ?_)
  have or_b0_b172 : b0 < b172 := Nat.lt_of_lt_of_le hb0.lt hr
  have or_b1_b172 : b1 < b172 := Nat.lt_of_lt_of_le hb1.lt hr
  have or_b2_b172 : b2 < b172 := Nat.lt_of_lt_of_le hb2.lt hr
  have or_b3_b172 : b3 < b172 := Nat.lt_of_lt_of_le hb3.lt hr
  have or_b4_b172 : b4 < b172 := Nat.lt_of_lt_of_le hb4.lt hr
  have or_b23_b172 : b23 < b172 := Nat.lt_of_lt_of_le hb23.lt hr
  have or_b5_b172 : b5 < b172 := Nat.lt_of_lt_of_le hb5.lt hr
  have or_ho_b172 := fun g hg => Nat.lt_of_lt_of_le (ho.lt g hg).2 hr
  have lo172 := Nat.le_trans (Bel.size hB) hr
  replace hB := hB.tr0 hs
  replace hbs := Nat.le_trans hbs (Same.size hs)
  replace hFr := hFr.of hs (by simp)
  replace hb0 := hb0.tr0 hs
  replace hb1 := hb1.tr0 hs
  replace hb2 := hb2.tr0 hs
  replace hb3 := hb3.tr0 hs
  replace hb4 := hb4.tr0 hs
  replace hb23 := hb23.tr0 hs
  replace hb5 := hb5.tr0 hs
  replace ho := ho.tr0 hs
  clear hs
  clear hr
  refine wl_bs (cs := #[_]) [(0, .int _ _)] rfl Tryd.underlying45 sz3 ze3 (by decide) (by decide) (by kernel_rfl) rfl (fun b173 w3 hb173 hs hr => ?_)
  have or_b0_b173 : b0 < b173 := Nat.lt_of_lt_of_le hb0.lt hr
  have or_b1_b173 : b1 < b173 := Nat.lt_of_lt_of_le hb1.lt hr
  have or_b2_b173 : b2 < b173 := Nat.lt_of_lt_of_le hb2.lt hr
  have or_b3_b173 : b3 < b173 := Nat.lt_of_lt_of_le hb3.lt hr
  have or_b4_b173 : b4 < b173 := Nat.lt_of_lt_of_le hb4.lt hr
  have or_b23_b173 : b23 < b173 := Nat.lt_of_lt_of_le hb23.lt hr
  have or_b5_b173 : b5 < b173 := Nat.lt_of_lt_of_le hb5.lt hr
  have or_ho_b173 := fun g hg => Nat.lt_of_lt_of_le (ho.lt g hg).2 hr
  have or_b172_b173 : b172 < b173 := Nat.lt_of_lt_of_le hb172.lt hr
  have lo173 := Nat.le_trans (Bel.size hB) hr
  replace hB := hB.tr0 hs
  replace hbs := Nat.le_trans hbs (Same.size hs)
  replace hFr := hFr.of hs (by simp)
  replace hb0 := hb0.tr0 hs
  replace hb1 := hb1.tr0 hs
  replace hb2 := hb2.tr0 hs
  replace hb3 := hb3.tr0 hs
  replace hb4 := hb4.tr0 hs
  replace hb23 := hb23.tr0 hs
  replace hb5 := hb5.tr0 hs
  replace ho := ho.tr0 hs
  replace hb172 := hb172.tr0 hs
  clear hs
  clear hr
  refine wl_bs (cs := #[_, _]) [(0, .slice _ _ _), (1, .slice _ _ _)] rfl Tryd.underlying82 sz45 ze45 (by decide) (by decide) (by kernel_rfl) rfl (fun b174 w4 hb174 hs hr => ?_)
  have or_b0_b174 : b0 < b174 := Nat.lt_of_lt_of_le hb0.lt hr
  have or_b1_b174 : b1 < b174 := Nat.lt_of_lt_of_le hb1.lt hr
  have or_b2_b174 : b2 < b174 := Nat.lt_of_lt_of_le hb2.lt hr
  have or_b3_b174 : b3 < b174 := Nat.lt_of_lt_of_le hb3.lt hr
  have or_b4_b174 : b4 < b174 := Nat.lt_of_lt_of_le hb4.lt hr
  have or_b23_b174 : b23 < b174 := Nat.lt_of_lt_of_le hb23.lt hr
  have or_b5_b174 : b5 < b174 := Nat.lt_of_lt_of_le hb5.lt hr
  have or_ho_b174 := fun g hg => Nat.lt_of_lt_of_le (ho.lt g hg).2 hr
  have or_b172_b174 : b172 < b174 := Nat.lt_of_lt_of_le hb172.lt hr
  have or_b173_b174 : b173 < b174 := Nat.lt_of_lt_of_le hb173.lt hr
  have lo174 := Nat.le_trans (Bel.size hB) hr
  replace hB := hB.tr0 hs
  replace hbs := Nat.le_trans hbs (Same.size hs)
  replace hFr := hFr.of hs (by simp)
  replace hb0 := hb0.tr0 hs
  replace hb1 := hb1.tr0 hs
  replace hb2 := hb2.tr0 hs
  replace hb3 := hb3.tr0 hs
  replace hb4 := hb4.tr0 hs
  replace hb23 := hb23.tr0 hs
  replace hb5 := hb5.tr0 hs
  replace ho := ho.tr0 hs
  replace hb172 := hb172.tr0 hs
  replace hb173 := hb173.tr0 hs
  clear hs
  clear hr
  refine wl_clv rfl fn29 (add_any _ _ _ _ _ _ _ _ (by first | rfl | assumption) (by first | rfl | assumption) (by first | rfl | assumption) (by first | rfl | assumption) (by first | rfl | assumption) (by first | rfl | assumption) _ _ [[11, 4, 1], [4]] _ _ base _ _ _ _ _ _ _ _ (rows_of_blk (rs := [[11, 4, 1], [4]]) hb174 (.cons ⟨_, _, rfl, ints_of_blk [11, 4, 1] hb172 (by decide), by decide, by decide⟩ (.cons ⟨_, _, rfl, ints_of_blk [4] hb173 (by decide), by decide, by decide⟩ .nil)) (by decide)) hb5 ho hbs hl5 (by decide)) rfl rfl (fun e' w5 hr => ?_)
  obtain ⟨rfl, A2, cap2, xs2, hb5n, hon, hS, hA2⟩ := hr
  replace hB := hB.tr hS (fun x hx => by
    rcases List.mem_cons.1 hx with e | hx
    · rw [e]; exact lo5
    · exact Nat.le_trans hlo (ho.lt _ hx).1)
  replace hbs := Nat.le_trans hbs hS.size
  replace hFr := hFr.of hS (fun x hx => by
    rcases List.mem_cons.1 hx with e | hx
    · exact .inl (by rw [e]; exact z5)
    · exact .inr (Nat.le_trans hFb (ho.lt _ hx).1))
  replace hb0 := hb0.tr hS (fun hx => by
    rcases List.mem_cons.1 hx with e | hx
    · omega
    · have := (ho.lt _ hx).1; omega)
  replace hb1 := hb1.tr hS (fun hx => by
    rcases List.mem_cons.1 hx with e | hx
    · omega
    · have := (ho.lt _ hx).1; omega)
  replace hb2 := hb2.tr hS (fun hx => by
    rcases List.mem_cons.1 hx with e | hx
    · omega
    · have := (ho.lt _ hx).1; omega)
  replace hb3 := hb3.tr hS (fun hx => by
    rcases List.mem_cons.1 hx with e | hx
    · omega
    · have := (ho.lt _ hx).1; omega)
  replace hb4 := hb4.tr hS (fun hx => by
    rcases List.mem_cons.1 hx with e | hx
    · omega
    · have := (ho.lt _ hx).1; omega)
  replace hb23 := hb23.tr hS (fun hx => by
    rcases List.mem_cons.1 hx with e | hx
    · omega
    · have := (ho.lt _ hx).1; omega)
  replace hb5 := hb5n
  replace ho := hon
  refine ⟨_, rfl, ?_⟩
  refine x_nil ?_
  refine e_R ⟨(by repeat (first | exact ag_refl | exact ag_ovr' | refine ag_upd rfl ?_ | refine ag_sub rfl ?_ | refine ag_kn (by assumption) ?_)), ?_⟩
  exact ⟨hB, hbs, hFr, hb0, hb1, hb2, hb3, hb4, hb23, _, _, _, hb5, ho⟩

set_option maxHeartbeats 1000000 in
theorem small_r21 {w wc wZ : World} {base Z0 b0 b1 b2 b3 b4 b5 b23 b93 capt cap : Nat} {At A : Option Addr} {p12 q12 p15 q15 : Value} {xs : List Value} (hB : Bel w wc) (hbs : base ≤ wc.heap.size) (hFr : FrSame Z0 wZ wc) (hb0 : Blk wc b0 36 #[.slice none 0 0, .slice none 0 0, .slice none 0 0, .slice none 0 0, .slice none 0 0]) (hb1 : Blk wc b1 70 #[.string ⟨#[101]⟩, .slice none 0 0]) (hb2 : Blk wc b2 70 #[.string ⟨#[116]⟩, .slice none 0 0]) (hb3 : Blk wc b3 70 #[p12, q12]) (hb4 : Blk wc b4 70 #[p15, q15]) (hb23 : Blk wc b23 63 (smallF.flatMap (fun f => [Value.string f.name, .int .i64 f.of, .int .i64 f.val])).toArray) (hb5 : Blk wc b5 36 #[.slice At 15 capt, .slice (some ⟨b23, 0, none⟩) 5 5, .slice (some ⟨b93, 0, none⟩) 6 6, .slice A 12 cap, .slice none 0 0]) (ho : Own wc base 84 9 A 12 cap xs) (hp12 : p12.oneCell' = true) (hq12 : q12.oneCell' = true) (hp15 : p15.oneCell' = true) (hq15 : q15.oneCell' = true) (z5 : b5 < Z0) (lo5 : w.heap.size ≤ b5) (o0 : b0 < b5) (o1 : b1 < b5) (o2 : b2 < b5) (o3 : b3 < b5) (o4 : b4 < b5) (o23 : b5 < b23) (hlo : w.heap.size ≤ base) (hFb : wZ.heap.size ≤ base) (hl0 : b0 < base) (hl1 : b1 < base) (hl2 : b2 < base) (hl3 : b3 < base) (hl4 : b4 < base) (hl5 : b5 < base) (hl23 : b23 < base)  (f : Fr) (Q : Exit → Act → World → Prop) (k7 : f 7 = .func (.func 29) #[] #[.pointer (some ⟨b5, 0, none⟩)]) (k3 : f 3 = .pointer (some ⟨b3, 0, none⟩)) : WC Tryd.prog (sl (sr (sr (sr (sr (sr (sr (sr (sr (sr (sr (sr (sr (sr (sr (sr (sr (sr (sr (sr (sr (sr (ob Tryd.f9.body))))))))))))))))))))))) (QRS 256 [176, 177, 178, 179, 180, 181, 182] f (fun g w' => Bel w w' ∧ base ≤ w'.heap.size ∧ FrSame Z0 wZ w' ∧ Blk w' b0 36 #[.slice none 0 0, .slice none 0 0, .slice none 0 0, .slice none 0 0, .slice none 0 0] ∧ Blk w' b1 70 #[.string ⟨#[101]⟩, .slice none 0 0] ∧ Blk w' b2 70 #[.string ⟨#[116]⟩, .slice none 0 0] ∧ Blk w' b3 70 #[p12, q12] ∧ Blk w' b4 70 #[p15, q15] ∧ Blk w' b23 63 (smallF.flatMap (fun f => [Value.string f.name, .int .i64 f.of, .int .i64 f.val])).toArray ∧ ∃ A cap xs, Blk w' b5 36 #[.slice At 15 capt, .slice (some ⟨b23, 0, none⟩) 5 5, .slice (some ⟨b93, 0, none⟩) 6 6, .slice A 13 cap, .slice none 0 0] ∧ Own w' base 84 9 A 13 cap xs) Q) 256 f wc := by
  refine c_know 7 (.func (.func 29) #[] #[.pointer (some ⟨b5, 0, none⟩)]) k7 (by simp [undef]) ?_
  refine c_know 3 (.pointer (some ⟨b3, 0, none⟩)) k3 (by simp [undef]) ?_
  refine c_region ?_
  refine wl (r_mv (v := .func _ _ _) rfl) ?_
  refine wl (r_ldS Tryd.underlying70 rfl rfl hb3.range0 sz70) ?_
  refine wl_cl fn31 (con_any _ _ _ (by first | rfl | assumption) (by first | rfl | assumption) _) rfl (fun e' w1 hr => ?_)
  obtain ⟨⟨q178_0, q178_1, q178_2, q178_3, q178_4, q178_5, rfl, hq178_0, hq178_1, hq178_2, hq178_3, hq178_4, hq178_5⟩, hs⟩ := hr
  replace hs := Same.of_bel hs
  replace hB := hB.tr0 hs
  replace hbs := Nat.le_trans hbs (Same.size hs)
  replace hFr := hFr.of hs (by simp)
  replace hb0 := hb0.tr0 hs
  replace hb1 := hb1.tr0 hs
  replace hb2 := hb2.tr0 hs
  replace hb3 := hb3.tr0 hs
  replace hb4 := hb4.tr0 hs
  replace hb23 := hb23.tr0 hs
  replace hb5 := hb5.tr0 hs
  replace ho := ho.tr0 hs
  clear hs
  refine ⟨_, rfl, ?_⟩
  refine wl_bs (cs := #[_, _, _]) [(0, .int _ _), (1, .int _ _), (2, .int _ _)] rfl Tryd.underlying45 sz3 ze3 (by decide) (by decide) (by kernel_rfl) rfl (fun b179 w2 hb179 hs hr => ?_)
  have or_b0_b179 : b0 < b179 := Nat.lt_of_lt_of_le hb0.lt hr
  have or_b1_b179 : b1 < b179 := Nat.lt_of_lt_of_le hb1.lt hr
  have or_b2_b179 : b2 < b179 := Nat.lt_of_lt_of_le hb2.lt hr
  have or_b3_b179 : b3 < b179 := Nat.lt_of_lt_of_le hb3.lt hr
  have or_b4_b179 : b4 < b179 := Nat.lt_of_lt_of_le hb4.lt hr
  have or_b23_b179 : b23 < b179 := Nat.lt_of_lt_of_le hb23.lt hr
  have or_b5_b179 : b5 < b179 := Nat.lt_of_lt_of_le hb5.lt hr
  have or_ho_b179 := fun g hg => Nat.lt_of_lt_of_le (ho.lt g hg).2 hr
  have lo179 := Nat.le_trans (Bel.size hB) hr
  replace hB := hB.tr0 hs
  replace hbs := Nat.le_trans hbs (Same.size hs)
  replace hFr := hFr.of hs (by simp)
  replace hb0 := hb0.tr0 hs
  replace hb1 := hb1.tr0 hs
  replace hb2 := hb2.tr0 hs
  replace hb3 := hb3.tr0 hs
  replace hb4 := hb4.tr0 hs
  replace hb23 := hb23.tr0 hs
  replace hb5 := hb5.tr0 hs
  replace ho := ho.tr0 hs
  clear hs
  clear hr
  refine wl_bs (cs := #[_]) [(0, .int _ _)] rfl Tryd.underlying45 sz3 ze3 (by decide) (by decide) (by kernel_rfl) rfl (fun b180 w3 hb180 hs hr => ?_)
  have or_b0_b180 : b0 < b180 := Nat.lt_of_lt_of_le hb0.lt hr
  have or_b1_b180 : b1 < b180 := Nat.lt_of_lt_of_le hb1.lt hr
  have or_b2_b180 : b2 < b180 := Nat.lt_of_lt_of_le hb2.lt hr
  have or_b3_b180 : b3 < b180 := Nat.lt_of_lt_of_le hb3.lt hr
  have or_b4_b180 : b4 < b180 := Nat.lt_of_lt_of_le hb4.lt hr
  have or_b23_b180 : b23 < b180 := Nat.lt_of_lt_of_le hb23.lt hr
  have or_b5_b180 : b5 < b180 := Nat.lt_of_lt_of_le hb5.lt hr
  have or_ho_b180 := fun g hg => Nat.lt_of_lt_of_le (ho.lt g hg).2 hr
  have or_b179_b180 : b179 < b180 := Nat.lt_of_lt_of_le hb179.lt hr
  have lo180 := Nat.le_trans (Bel.size hB) hr
  replace hB := hB.tr0 hs
  replace hbs := Nat.le_trans hbs (Same.size hs)
  replace hFr := hFr.of hs (by simp)
  replace hb0 := hb0.tr0 hs
  replace hb1 := hb1.tr0 hs
  replace hb2 := hb2.tr0 hs
  replace hb3 := hb3.tr0 hs
  replace hb4 := hb4.tr0 hs
  replace hb23 := hb23.tr0 hs
  replace hb5 := hb5.tr0 hs
  replace ho := ho.tr0 hs
  replace hb179 := hb179.tr0 hs
  clear hs
  clear hr
  refine wl_bs (cs := #[_, _]) [(0, .slice _ _ _), (1, .slice _ _ _)] rfl Tryd.underlying82 sz45 ze45 (by decide) (by decide) (by kernel_rfl) rfl (fun b181 w4 hb181 hs hr => ?_)
  have or_b0_b181 : b0 < b181 := Nat.lt_of_lt_of_le hb0.lt hr
  have or_b1_b181 : b1 < b181 := Nat.lt_of_lt_of_le hb1.lt hr
  have or_b2_b181 : b2 < b181 := Nat.lt_of_lt_of_le hb2.lt hr
  have or_b3_b181 : b3 < b181 := Nat.lt_of_lt_of_le hb3.lt hr
  have or_b4_b181 : b4 < b181 := Nat.lt_of_lt_of_le hb4.lt hr
  have or_b23_b181 : b23 < b181 := Nat.lt_of_lt_of_le hb23.lt hr
  have or_b5_b181 : b5 < b181 := Nat.lt_of_lt_of_le hb5.lt hr
  have or_ho_b181 := fun g hg => Nat.lt_of_lt_of_le (ho.lt g hg).2 hr
  have or_b179_b181 : b179 < b181 := Nat.lt_of_lt_of_le hb179.lt hr
  have or_b180_b181 : b180 < b181 := Nat.lt_of_lt_of_le hb180.lt hr
  have lo181 := Nat.le_trans (Bel.size hB) hr
  replace hB := hB.tr0 hs
  replace hbs := Nat.le_trans hbs (Same.size hs)
  replace hFr := hFr.of hs (by simp)
  replace hb0 := hb0.tr0 hs
  replace hb1 := hb1.tr0 hs
  replace hb2 := hb2.tr0 hs
  replace hb3 := hb3.tr0 hs
  replace hb4 := hb4.tr0 hs
  replace hb23 := hb23.tr0 hs
  replace hb5 := hb5.tr0 hs
  replace ho := ho.tr0 hs
  replace hb179 := hb179.tr0 hs
  replace hb180 := hb180.tr0 hs
  clear hs
  clear hr
  refine wl_clv rfl fn29 (add_any _ _ _ _ _ _ _ _ (by first | rfl | assumption) (by first | rfl | assumption) (by first | rfl | assumption) (by first | rfl | assumption) (by first | rfl | assumption) (by first | rfl | assumption) _ _ [[11, 4, 1], [5]] _ _ base _ _ _ _ _ _ _ _ (rows_of_blk (rs := [[11, 4, 1], [5]]) hb181 (.cons ⟨_, _, rfl, ints_of_blk [11, 4, 1] hb179 (by decide), by decide, by decide⟩ (.cons ⟨_, _, rfl, ints_of_blk [5] hb180 (by decide), by decide, by decide⟩ .nil)) (by decide)) hb5 ho hbs hl5 (by decide)) rfl rfl (fun e' w5 hr => ?_)
  obtain ⟨rfl, A2, cap2, xs2, hb5n, hon, hS, hA2⟩ := hr
  replace hB := hB.tr hS (fun x hx => by
    rcases List.mem_cons.1 hx with e | hx
    · rw [e]; exact lo5
    · exact Nat.le_trans hlo (ho.lt _ hx).1)
  replace hbs := Nat.le_trans hbs hS.size
  replace hFr := hFr.of hS (fun x hx => by
    rcases List.mem_cons.1 hx with e | hx
    · exact .inl (by rw [e]; exact z5)
    · exact .inr (Nat.le_trans hFb (ho.lt _ hx).1))
  replace hb0 := hb0.tr hS (fun hx => by
    rcases List.mem_cons.1 hx with e | hx
    · omega
    · have := (ho.lt _ hx).1; omega)
  replace hb1 := hb1.tr hS (fun hx => by
    rcases List.mem_cons.1 hx with e | hx
    · omega
    · have := (ho.lt _ hx).1; omega)
  replace hb2 := hb2.tr hS (fun hx => by
    rcases List.mem_cons.1 hx with e | hx
    · omega
    · have := (ho.lt _ hx).1; omega)
  replace hb3 := hb3.tr hS (fun hx => by
    rcases List.mem_cons.1 hx with e | hx
    · omega
    · have := (ho.lt _ hx).1; omega)
  replace hb4 := hb4.tr hS (fun hx => by
    rcases List.mem_cons.1 hx with e | hx
    · omega
    · have := (ho.lt _ hx).1; omega)
  replace hb23 := hb23.tr hS (fun hx => by
    rcases List.mem_cons.1 hx with e | hx
    · omega
    · have := (ho.lt _ hx).1; omega)
  replace hb5 := hb5n
  replace ho := hon
  refine ⟨_, rfl, ?_⟩
  refine x_nil ?_
  refine e_R ⟨(by repeat (first | exact ag_refl | exact ag_ovr' | refine ag_upd rfl ?_ | refine ag_sub rfl ?_ | refine ag_kn (by assumption) ?_)), ?_⟩
  exact ⟨hB, hbs, hFr, hb0, hb1, hb2, hb3, hb4, hb23, _, _, _, hb5, ho⟩

set_option maxHeartbeats 1000000 in
theorem small_r22 {w wc wZ : World} {base Z0 b0 b1 b2 b3 b4 b5 b23 b93 capt cap : Nat} {At A : Option Addr} {p12 q12 p15 q15 : Value} {xs : List Value} (hB : Bel w wc) (hbs : base ≤ wc.heap.size) (hFr : FrSame Z0 wZ wc) (hb0 : Blk wc b0 36 #[.slice none 0 0, .slice none 0 0, .slice none 0 0, .slice none 0 0, .slice none 0 0]) (hb1 : Blk wc b1 70 #[.string ⟨#[101]⟩, .slice none 0 0]) (hb2 : Blk wc b2 70 #[.string ⟨#[116]⟩, .slice none 0 0]) (hb3 : Blk wc b3 70 #[p12, q12]) (hb4 : Blk wc b4 70 #[p15, q15]) (hb23 : Blk wc b23 63 (smallF.flatMap (fun f => [Value.string f.name, .int .i64 f.of, .int .i64 f.val])).toArray) (hb5 : Blk wc b5 36 #[.slice At 15 capt, .slice (some ⟨b23, 0, none⟩) 5 5, .slice (some ⟨b93, 0, none⟩) 6 6, .slice A 13 cap, .slice none 0 0]) (ho : Own wc base 84 9 A 13 cap xs) (hp12 : p12.oneCell' = true) (hq12 : q12.oneCell' = true) (hp15 : p15.oneCell' = true) (hq15 : q15.oneCell' = true) (z5 : b5 < Z0) (lo5 : w.heap.size ≤ b5) (o0 : b0 < b5) (o1 : b1 < b5) (o2 : b2 < b5) (o3 : b3 < b5) (o4 : b4 < b5) (o23 : b5 < b23) (hlo : w.heap.size ≤ base) (hFb : wZ.heap.size ≤ base) (hl0 : b0 < base) (hl1 : b1 < base) (hl2 : b2 < base) (hl3 : b3 < base) (hl4 : b4 < base) (hl5 : b5 < base) (hl23 : b23 < base)  (f : Fr) (Q : Exit → Act → World → Prop) (k7 : f 7 = .func (.func 29) #[] #[.pointer (some ⟨b5, 0, none⟩)]) (k4 : f 4 = .pointer (some ⟨b4, 0, none⟩)) : WC Tryd.prog (sl (sr (sr (sr (sr (sr (sr (sr (sr (sr (sr (sr (sr (sr (sr (sr (sr (sr (sr (sr (sr (sr (sr (ob Tryd.f9.body)))))))))))))))))))))))) (QRS 256 [183, 184, 185, 186, 187, 188, 189] f (fun g w' => Bel w w' ∧ base ≤ w'.heap.size ∧ FrSame Z0 wZ w' ∧ Blk w' b0 36 #[.slice none 0 0, .slice none 0 0, .slice none 0 0, .slice none 0 0, .slice none 0 0] ∧ Blk w' b1 70 #[.string ⟨#[101]⟩, .slice none 0 0] ∧ Blk w' b2 70 #[.string ⟨#[116]⟩, .slice none 0 0] ∧ Blk w' b3 70 #[p12, q12] ∧ Blk w' b4 70 #[p15, q15] ∧ Blk w' b23 63 (smallF.flatMap (fun f => [Value.string f.name, .int .i64 f.of, .int .i64 f.val])).toArray ∧ ∃ A cap xs, Blk w' b5 36 #[.slice At 15 capt, .slice (some ⟨b23, 0, none⟩) 5 5, .slice (some ⟨b93, 0, none⟩) 6 6, .slice A 14 cap, .slice none 0 0] ∧ Own w' base 84 9 A 14 cap xs) Q) 256 f wc := by
  refine c_know 7 (.func (.func 29) #[] #[.pointer (some ⟨b5, 0, none⟩)]) k7 (by simp [undef]) ?_
  refine c_know 4 (.pointer (some ⟨b4, 0, none⟩)) k4 (by simp [undef]) ?_
  refine c_region ?_
  refine wl (r_mv (v := .func _ _ _) rfl) ?_
  refine wl (r_ldS Tryd.underlying70 rfl rfl hb4.range0 sz70) ?_
  refine wl_cl fn31 (con_any _ _ _ (by first | rfl | assumption) (by first | rfl | assumption) _) rfl (fun e' w1 hr => ?_)
  obtain ⟨⟨q185_0, q185_1, q185_2, q185_3, q185_4, q185_5, rfl, hq185_0, hq185_1, hq185_2, hq185_3, hq185_4, hq185_5⟩, hs⟩ := hr
  replace hs := Same.of_bel hs
  replace hB := hB.tr0 hs
  replace hbs := Nat.le_trans hbs (Same.size hs)
  replace hFr := hFr.of hs (by simp)
  replace hb0 := hb0.tr0 hs
  replace hb1 := hb1.tr0 hs
  replace hb2 := hb2.tr0 hs
  replace hb3 := hb3.tr0 hs
  replace hb4 := hb4.tr0 hs
  replace hb23 := hb23.tr0 hs
  replace hb5 := hb5.tr0 hs
  replace ho := ho.tr0 hs
  clear hs
  refine ⟨_, rfl, ?_⟩
  refine wl_bs (cs := #[_, _, _]) [(0, .int _ _), (1, .int _ _), (2, .int _ _)] rfl Tryd.underlying45 sz3 ze3 (by decide) (by decide) (by kernel_rfl) rfl (fun b186 w2 hb186 hs hr => ?_)
  have or_b0_b186 : b0 < b186 := Nat.lt_of_lt_of_le hb0.lt hr
  have or_b1_b186 : b1 < b186 := Nat.lt_of_lt_of_le hb1.lt hr
  have or_b2_b186 : b2 < b186 := Nat.lt_of_lt_of_le hb2.lt hr
  have or_b3_b186 : b3 < b186 := Nat.lt_of_lt_of_le hb3.lt hr
  have or_b4_b186 : b4 < b186 := Nat.lt_of_lt_of_le hb4.lt hr
  have or_b23_b186 : b23 < b186 := Nat.lt_of_lt_of_le hb23.lt hr
  have or_b5_b186 : b5 < b186 := Nat.lt_of_lt_of_le hb5.lt hr
  have or_ho_b186 := fun g hg => Nat.lt_of_lt_of_le (ho.lt g hg).2 hr
  have lo186 := Nat.le_trans (Bel.size hB) hr
  replace hB := hB.tr0 hs
  replace hbs := Nat.le_trans hbs (Same.size hs)
  replace hFr := hFr.of hs (by simp)
  replace hb0 := hb0.tr0 hs
  replace hb1 := hb1.tr0 hs
  replace hb2 := hb2.tr0 hs
  replace hb3 := hb3.tr0 hs
  replace hb4 := hb4.tr0 hs
  replace hb23 := hb23.tr0 hs
  replace hb5 := hb5.tr0 hs
  replace ho := ho.tr0 hs
  clear hs
  clear hr
  refine wl_bs (cs := #[_]) [(0, .int _ _)] rfl Tryd.underlying45 sz3 ze3 (by decide) (by decide) (by kernel_rfl) rfl (fun b187 w3 hb187 hs hr => ?_)
  have or_b0_b187 : b0 < b187 := Nat.lt_of_lt_of_le hb0.lt hr
  have or_b1_b187 : b1 < b187 := Nat.lt_of_lt_of_le hb1.lt hr
  have or_b2_b187 : b2 < b187 := Nat.lt_of_lt_of_le hb2.lt hr
  have or_b3_b187 : b3 < b187 := Nat.lt_of_lt_of_le hb3.lt hr
  have or_b4_b187 : b4 < b187 := Nat.lt_of_lt_of_le hb4.lt hr
  have or_b23_b187 : b23 < b187 := Nat.lt_of_lt_of_le hb23.lt hr
  have or_b5_b187 : b5 < b187 := Nat.lt_of_lt_of_le hb5.lt hr
  have or_ho_b187 := fun g hg => Nat.lt_of_lt_of_le (ho.lt g hg).2 hr
  have or_b186_b187 : b186 < b187 := Nat.lt_of_lt_of_le hb186.lt hr
  have lo187 := Nat.le_trans (Bel.size hB) hr
  replace hB := hB.tr0 hs
  replace hbs := Nat.le_trans hbs (Same.size hs)
  replace hFr := hFr.of hs (by simp)
  replace hb0 := hb0.tr0 hs
  replace hb1 := hb1.tr0 hs
  replace hb2 := hb2.tr0 hs
  replace hb3 := hb3.tr0 hs
  replace hb4 := hb4.tr0 hs
  replace hb23 := hb23.tr0 hs
  replace hb5 := hb5.tr0 hs
  replace ho := ho.tr0 hs
  replace hb186 := hb186.tr0 hs
  clear hs
  clear hr
  refine wl_bs (cs := #[_, _]) [(0, .slice _ _ _), (1, .slice _ _ _)] rfl Tryd.underlying82 sz45 ze45 (by decide) (by decide) (by kernel_rfl) rfl (fun b188 w4 hb188 hs hr => ?_)
  have or_b0_b188 : b0 < b188 := Nat.lt_of_lt_of_le hb0.lt hr
  have or_b1_b188 : b1 < b188 := Nat.lt_of_lt_of_le hb1.lt hr
  have or_b2_b188 : b2 < b188 := Nat.lt_of_lt_of_le hb2.lt hr
  have or_b3_b188 : b3 < b188 := Nat.lt_of_lt_of_le hb3.lt hr
  have or_b4_b188 : b4 < b188 := Nat.lt_of_lt_of_le hb4.lt hr
  have or_b23_b188 : b23 < b188 := Nat.lt_of_lt_of_le hb23.lt hr
  have or_b5_b188 : b5 < b188 := Nat.lt_of_lt_of_le hb5.lt hr
  have or_ho_b188 := fun g hg => Nat.lt_of_lt_of_le (ho.lt g hg).2 hr
  have or_b186_b188 : b186 < b188 := Nat.lt_of_lt_of_le hb186.lt hr
  have or_b187_b188 : b187 < b188 := Nat.lt_of_lt_of_le hb187.lt hr
  have lo188 := Nat.le_trans (Bel.size hB) hr
  replace hB := hB.tr0 hs
  replace hbs := Nat.le_trans hbs (Same.size hs)
  replace hFr := hFr.of hs (by simp)
  replace hb0 := hb0.tr0 hs
  replace hb1 := hb1.tr0 hs
  replace hb2 := hb2.tr0 hs
  replace hb3 := hb3.tr0 hs
  replace hb4 := hb4.tr0 hs
  replace hb23 := hb23.tr0 hs
  replace hb5 := hb5.tr0 hs
  replace ho := ho.tr0 hs
  replace hb186 := hb186.tr0 hs
  replace hb187 := hb187.tr0 hs
  clear hs
  clear hr
  refine wl_clv rfl fn29 (add_any _ _ _ _ _ _ _ _ (by first | rfl | assumption) (by first | rfl | assumption) (by first | rfl | assumption) (by first | rfl | assumption) (by first | rfl | assumption) (by first | rfl | assumption) _ _ [[12, 4, 1], [4]] _ _ base _ _ _ _ _ _ _ _ (rows_of_blk (rs := [[12, 4, 1], [4]]) hb188 (.cons ⟨_, _, rfl, ints_of_blk [12, 4, 1] hb186 (by decide), by decide, by decide⟩ (.cons ⟨_, _, rfl, ints_of_blk [4] hb187 (by decide), by decide, by decide⟩ .nil)) (by decide)) hb5 ho hbs hl5 (by decide)) rfl rfl (fun e' w5 hr => ?_)
  obtain ⟨rfl, A2, cap2, xs2, hb5n, hon, hS, hA2⟩ := hr
  replace hB := hB.tr hS (fun x hx => by
    rcases List.mem_cons.1 hx with e | hx
    · rw [e]; exact lo5
    · exact Nat.le_trans hlo (ho.lt _ hx).1)
  replace hbs := Nat.le_trans hbs hS.size
  replace hFr := hFr.of hS (fun x hx => by
    rcases List.mem_cons.1 hx with e | hx
    · exact .inl (by rw [e]; exact z5)
    · exact .inr (Nat.le_trans hFb (ho.lt _ hx).1))
  replace hb0 := hb0.tr hS (fun hx => by
    rcases List.mem_cons.1 hx with e | hx
    · omega
    · have := (ho.lt _ hx).1; omega)
  replace hb1 := hb1.tr hS (fun hx => by
    rcases List.mem_cons.1 hx with e | hx
    · omega
    · have := (ho.lt _ hx).1; omega)
  replace hb2 := hb2.tr hS (fun hx => by
    rcases List.mem_cons.1 hx with e | hx
    · omega
    · have := (ho.lt _ hx).1; omega)
  replace hb3 := hb3.tr hS (fun hx => by
    rcases List.mem_cons.1 hx with e | hx
    · omega
    · have := (ho.lt _ hx).1; omega)
  replace hb4 := hb4.tr hS (fun hx => by
    rcases List.mem_cons.1 hx with e | hx
    · omega
    · have := (ho.lt _ hx).1; omega)
  replace hb23 := hb23.tr hS (fun hx => by
    rcases List.mem_cons.1 hx with e | hx
    · omega
    · have := (ho.lt _ hx).1; omega)
  replace hb5 := hb5n
  replace ho := hon
  refine ⟨_, rfl, ?_⟩
  refine x_nil ?_
  refine e_R ⟨(by repeat (first | exact ag_refl | exact ag_ovr' | refine ag_upd rfl ?_ | refine ag_sub rfl ?_ | refine ag_kn (by assumption) ?_)), ?_⟩
  exact ⟨hB, hbs, hFr, hb0, hb1, hb2, hb3, hb4, hb23, _, _, _, hb5, ho⟩

set_option maxHeartbeats 1000000 in
theorem small_r23 {w wc wZ : World} {base Z0 b0 b1 b2 b3 b4 b5 b23 b93 capt cap : Nat} {At A : Option Addr} {p12 q12 p15 q15 : Value} {xs : List Value} (hB : Bel w wc) (hbs : base ≤ wc.heap.size) (hFr : FrSame Z0 wZ wc) (hb0 : Blk wc b0 36 #[.slice none 0 0, .slice none 0 0, .slice none 0 0, .slice none 0 0, .slice none 0 0]) (hb1 : Blk wc b1 70 #[.string ⟨#[101]⟩, .slice none 0 0]) (hb2 : Blk wc b2 70 #[.string ⟨#[116]⟩, .slice none 0 0]) (hb3 : Blk wc b3 70 #[p12, q12]) (hb4 : Blk wc b4 70 #[p15, q15]) (hb23 : Blk wc b23 63 (smallF.flatMap (fun f => [Value.string f.name, .int .i64 f.of, .int .i64 f.val])).toArray) (hb5 : Blk wc b5 36 #[.slice At 15 capt, .slice (some ⟨b23, 0, none⟩) 5 5, .slice (some ⟨b93, 0, none⟩) 6 6, .slice A 14 cap, .slice none 0 0]) (ho : Own wc base 84 9 A 14 cap xs) (hp12 : p12.oneCell' = true) (hq12 : q12.oneCell' = true) (hp15 : p15.oneCell' = true) (hq15 : q15.oneCell' = true) (z5 : b5 < Z0) (lo5 : w.heap.size ≤ b5) (o0 : b0 < b5) (o1 : b1 < b5) (o2 : b2 < b5) (o3 : b3 < b5) (o4 : b4 < b5) (o23 : b5 < b23) (hlo : w.heap.size ≤ base) (hFb : wZ.heap.size ≤ base) (hl0 : b0 < base) (hl1 : b1 < base) (hl2 : b2 < base) (hl3 : b3 < base) (hl4 : b4 < base) (hl5 : b5 < base) (hl23 : b23 < base)  (f : Fr) (Q : Exit → Act → World → Prop) (k7 : f 7 = .func (.func 29) #[] #[.pointer (some ⟨b5, 0, none⟩)]) (k4 : f 4 = .pointer (some ⟨b4, 0, none⟩)) : WC Tryd.prog (sl (sr (sr (sr (sr (sr (sr (sr (sr (sr (sr (sr (sr (sr (sr (sr (sr (sr (sr (sr (sr (sr (sr (sr (ob Tryd.f9.body))))))))))))))))))))))))) (QRS 256 [190, 191, 192, 193, 194, 195, 196] f (fun g w' => Bel w w' ∧ base ≤ w'.heap.size ∧ FrSame Z0 wZ w' ∧ Blk w' b0 36 #[.slice none 0 0, .slice none 0 0, .slice none 0 0, .slice none 0 0, .slice none 0 0] ∧ Blk w' b1 70 #[.string ⟨#[101]⟩, .slice none 0 0] ∧ Blk w' b2 70 #[.string ⟨#[116]⟩, .slice none 0 0] ∧ Blk w' b3 70 #[p12, q12] ∧ Blk w' b4 70 #[p15, q15] ∧ Blk w' b23 63 (smallF.flatMap (fun f => [Value.string f.name, .int .i64 f.of, .int .i64 f.val])).toArray ∧ ∃ A cap xs, Blk w' b5 36 #[.slice At 15 capt, .slice (some ⟨b23, 0, none⟩) 5 5, .slice (some ⟨b93, 0, none⟩) 6 6, .slice A 15 cap, .slice none 0 0] ∧ Own w' base 84 9 A 15 cap xs) Q) 256 f wc := by
  refine c_know 7 (.func (.func 29) #[] #[.pointer (some ⟨b5, 0, none⟩)]) k7 (by simp [undef]) ?_
  refine c_know 4 (.pointer (some ⟨b4, 0, none⟩)) k4 (by simp [undef]) ?_
  refine c_region ?_
  refine wl (r_mv (v := .func _ _ _) rfl) ?_
  refine wl (r_ldS Tryd.underlying70 rfl rfl hb4.range0 sz70) ?_
  refine wl_cl fn31 (con_any _ _ _ (by first | rfl | assumption) (by first | rfl | assumption) _) rfl (fun e' w1 hr => ?_)
  obtain ⟨⟨q192_0, q192_1, q192_2, q192_3, q192_4, q192_5, rfl, hq192_0, hq192_1, hq192_2, hq192_3, hq192_4, hq192_5⟩, hs⟩ := hr
  replace hs := Same.of_bel hs
  replace hB := hB.tr0 hs
  replace hbs := Nat.le_trans hbs (Same.size hs)
  replace hFr := hFr.of hs (by simp)
  replace hb0 := hb0.tr0 hs
  replace hb1 := hb1.tr0 hs
  replace hb2 := hb2.tr0 hs
  replace hb3 := hb3.tr0 hs
  replace hb4 := hb4.tr0 hs
  replace hb23 := hb23.tr0 hs
  replace hb5 := hb5.tr0 hs
  replace ho := ho.tr0 hs
  clear hs
  refine ⟨_, rfl, ?_⟩
  refine wl_bs (cs := #[_, _, _]) [(0, .int _ _), (1, .int _ _), (2, .int _ _)] rfl Tryd.underlying45 sz3 ze3 (by decide) (by decide) (by kernel_rfl) rfl (fun b193 w2 hb193 hs hr => ?_)
  have or_b0_b193 : b0 < b193 := Nat.lt_of_lt_of_le hb0.lt hr
  have or_b1_b193 : b1 < b193 := Nat.lt_of_lt_of_le hb1.lt hr
  have or_b2_b193 : b2 < b193 := Nat.lt_of_lt_of_le hb2.lt hr
  have or_b3_b193 : b3 < b193 := Nat.lt_of_lt_of_le hb3.lt hr
  have or_b4_b193 : b4 < b193 := Nat.lt_of_lt_of_le hb4.lt hr
  have or_b23_b193 : b23 < b193 := Nat.lt_of_lt_of_le hb23.lt hr
  have or_b5_b193 : b5 < b193 := Nat.lt_of_lt_of_le hb5.lt hr
  have or_ho_b193 := fun g hg => Nat.lt_of_lt_of_le (ho.lt g hg).2 hr
  have lo193 := Nat.le_trans (Bel.size hB) hr
  replace hB := hB.tr0 hs
  replace hbs := Nat.le_trans hbs (Same.size hs)
  replace hFr := hFr.of hs (by simp)
  replace hb0 := hb0.tr0 hs
  replace hb1 := hb1.tr0 hs
  replace hb2 := hb2.tr0 hs
  replace hb3 := hb3.tr0 hs
  replace hb4 := hb4.tr0 hs
  replace hb23 := hb23.tr0 hs
  replace hb5 := hb5.tr0 hs
  replace ho := ho.tr0 hs
  clear hs
  clear hr
  refine wl_bs (cs := #[_]) [(0, .int _ _)] rfl Tryd.underlying45 sz3 ze3 (by decide) (by decide) (by kernel_rfl) rfl (fun b194 w3 hb194 hs hr => ?_)
  have or_b0_b194 : b0 < b194 := Nat.lt_of_lt_of_le hb0.lt hr
  have or_b1_b194 : b1 < b194 := Nat.lt_of_lt_of_le hb1.lt hr
  have or_b2_b194 : b2 < b194 := Nat.lt_of_lt_of_le hb2.lt hr
  have or_b3_b194 : b3 < b194 := Nat.lt_of_lt_of_le hb3.lt hr
  have or_b4_b194 : b4 < b194 := Nat.lt_of_lt_of_le hb4.lt hr
  have or_b23_b194 : b23 < b194 := Nat.lt_of_lt_of_le hb23.lt hr
  have or_b5_b194 : b5 < b194 := Nat.lt_of_lt_of_le hb5.lt hr
  have or_ho_b194 := fun g hg => Nat.lt_of_lt_of_le (ho.lt g hg).2 hr
  have or_b193_b194 : b193 < b194 := Nat.lt_of_lt_of_le hb193.lt hr
  have lo194 := Nat.le_trans (Bel.size hB) hr
  replace hB := hB.tr0 hs
  replace hbs := Nat.le_trans hbs (Same.size hs)
  replace hFr := hFr.of hs (by simp)
  replace hb0 := hb0.tr0 hs
  replace hb1 := hb1.tr0 hs
  replace hb2 := hb2.tr0 hs
  replace hb3 := hb3.tr0 hs
  replace hb4 := hb4.tr0 hs
  replace hb23 := hb23.tr0 hs
  replace hb5 := hb5.tr0 hs
  replace ho := ho.tr0 hs
  replace hb193 := hb193.tr0 hs
  clear hs
  clear hr
  refine wl_bs (cs := #[_, _]) [(0, .slice _ _ _), (1, .slice _ _ _)] rfl Tryd.underlying82 sz45 ze45 (by decide) (by decide) (by kernel_rfl) rfl (fun b195 w4 hb195 hs hr => ?_)
  have or_b0_b195 : b0 < b195 := Nat.lt_of_lt_of_le hb0.lt hr
  have or_b1_b195 : b1 < b195 := Nat.lt_of_lt_of_le hb1.lt hr
  have or_b2_b195 : b2 < b195 := Nat.lt_of_lt_of_le hb2.lt hr
  have or_b3_b195 : b3 < b195 := Nat.lt_of_lt_of_le hb3.lt hr
  have or_b4_b195 : b4 < b195 := Nat.lt_of_lt_of_le hb4.lt hr
  have or_b23_b195 : b23 < b195 := Nat.lt_of_lt_of_le hb23.lt hr
  have or_b5_b195 : b5 < b195 := Nat.lt_of_lt_of_le hb5.lt hr
  have or_ho_b195 := fun g hg => Nat.lt_of_lt_of_le (ho.lt g hg).2 hr
  have or_b193_b195 : b193 < b195 := Nat.lt_of_lt_of_le hb193.lt hr
  have or_b194_b195 : b194 < b195 := Nat.lt_of_lt_of_le hb194.lt hr
  have lo195 := Nat.le_trans (Bel.size hB) hr
  replace hB := hB.tr0 hs
  replace hbs := Nat.le_trans hbs (Same.size hs)
  replace hFr := hFr.of hs (by simp)
  replace hb0 := hb0.tr0 hs
  replace hb1 := hb1.tr0 hs
  replace hb2 := hb2.tr0 hs
  replace hb3 := hb3.tr0 hs
  replace hb4 := hb4.tr0 hs
  replace hb23 := hb23.tr0 hs
  replace hb5 := hb5.tr0 hs
  replace ho := ho.tr0 hs
  replace hb193 := hb193.tr0 hs
  replace hb194 := hb194.tr0 hs
  clear hs
  clear hr
  refine wl_clv rfl fn29 (add_any _ _ _ _ _ _ _ _ (by first | rfl | assumption) (by first | rfl | assumption) (by first | rfl | assumption) (by first | rfl | assumption) (by first | rfl | assumption) (by first | rfl | assumption) _ _ [[12, 4, 1], [5]] _ _ base _ _ _ _ _ _ _ _ (rows_of_blk (rs := [[12, 4, 1], [5]]) hb195 (.cons ⟨_, _, rfl, ints_of_blk [12, 4, 1] hb193 (by decide), by decide, by decide⟩ (.cons ⟨_, _, rfl, ints_of_blk [5] hb194 (by decide), by decide, by decide⟩ .nil)) (by decide)) hb5 ho hbs hl5 (by decide)) rfl rfl (fun e' w5 hr => ?_)
  obtain ⟨rfl, A2, cap2, xs2, hb5n, hon, hS, hA2⟩ := hr
  replace hB := hB.tr hS (fun x hx => by
    rcases List.mem_cons.1 hx with e | hx
    · rw [e]; exact lo5
    · exact Nat.le_trans hlo (ho.lt _ hx).1)
  replace hbs := Nat.le_trans hbs hS.size
  replace hFr := hFr.of hS (fun x hx => by
    rcases List.mem_cons.1 hx with e | hx
    · exact .inl (by rw [e]; exact z5)
    · exact .inr (Nat.le_trans hFb (ho.lt _ hx).1))
  replace hb0 := hb0.tr hS (fun hx => by
    rcases List.mem_cons.1 hx with e | hx
    · omega
    · have := (ho.lt _ hx).1; omega)
  replace hb1 := hb1.tr hS (fun hx => by
    rcases List.mem_cons.1 hx with e | hx
    · omega
    · have := (ho.lt _ hx).1; omega)
  replace hb2 := hb2.tr hS (fun hx => by
    rcases List.mem_cons.1 hx with e | hx
    · omega
    · have := (ho.lt _ hx).1; omega)
  replace hb3 := hb3.tr hS (fun hx => by
    rcases List.mem_cons.1 hx with e | hx
    · omega
    · have := (ho.lt _ hx).1; omega)
  replace hb4 := hb4.tr hS (fun hx => by
    rcases List.mem_cons.1 hx with e | hx
    · omega
    · have := (ho.lt _ hx).1; omega)
  replace hb23 := hb23.tr hS (fun hx => by
    rcases List.mem_cons.1 hx with e | hx
    · omega
    · have := (ho.lt _ hx).1; omega)
  replace hb5 := hb5n
  replace ho := hon
  refine ⟨_, rfl, ?_⟩
  refine x_nil ?_
  refine e_R ⟨(by repeat (first | exact ag_refl | exact ag_ovr' | refine ag_upd rfl ?_ | refine ag_sub rfl ?_ | refine ag_kn (by assumption) ?_)), ?_⟩
  exact ⟨hB, hbs, hFr, hb0, hb1, hb2, hb3, hb4, hb23, _, _, _, hb5, ho⟩

set_option maxHeartbeats 1000000 in
theorem small_r24 {w wc wZ : World} {base Z0 b0 b1 b2 b3 b4 b5 b23 b93 capt cap : Nat} {At A : Option Addr} {p12 q12 p15 q15 : Value} {xs : List Value} (hB : Bel w wc) (hbs : base ≤ wc.heap.size) (hFr : FrSame Z0 wZ wc) (hb0 : Blk wc b0 36 #[.slice none 0 0, .slice none 0 0, .slice none 0 0, .slice none 0 0, .slice none 0 0]) (hb1 : Blk wc b1 70 #[.string ⟨#[101]⟩, .slice none 0 0]) (hb2 : Blk wc b2 70 #[.string ⟨#[116]⟩, .slice none 0 0]) (hb3 : Blk wc b3 70 #[p12, q12]) (hb4 : Blk wc b4 70 #[p15, q15]) (hb23 : Blk wc b23 63 (smallF.flatMap (fun f => [Value.string f.name, .int .i64 f.of, .int .i64 f.val])).toArray) (hb5 : Blk wc b5 36 #[.slice At 15 capt, .slice (some ⟨b23, 0, none⟩) 5 5, .slice (some ⟨b93, 0, none⟩) 6 6, .slice A 15 cap, .slice none 0 0]) (ho : Own wc base 84 9 A 15 cap xs) (hp12 : p12.oneCell' = true) (hq12 : q12.oneCell' = true) (hp15 : p15.oneCell' = true) (hq15 : q15.oneCell' = true) (z5 : b5 < Z0) (lo5 : w.heap.size ≤ b5) (o0 : b0 < b5) (o1 : b1 < b5) (o2 : b2 < b5) (o3 : b3 < b5) (o4 : b4 < b5) (o23 : b5 < b23) (hlo : w.heap.size ≤ base) (hFb : wZ.heap.size ≤ base) (hl0 : b0 < base) (hl1 : b1 < base) (hl2 : b2 < base) (hl3 : b3 < base) (hl4 : b4 < base) (hl5 : b5 < base) (hl23 : b23 < base)  (f : Fr) (Q : Exit → Act → World → Prop) (k7 : f 7 = .func (.func 29) #[] #[.pointer (some ⟨b5, 0, none⟩)]) (k4 : f 4 = .pointer (some ⟨b4, 0, none⟩)) : WC Tryd.prog (sl (sr (sr (sr (sr (sr (sr (sr (sr (sr (sr (sr (sr (sr (sr (sr (sr (sr (sr (sr (sr (sr (sr (sr (sr (ob Tryd.f9.body)))))))))))))))))))))))))) (QRS 256 [197, 198, 199, 200, 201, 202, 203] f (fun g w' => Bel w w' ∧ base ≤ w'.heap.size ∧ FrSame Z0 wZ w' ∧ Blk w' b0 36 #[.slice none 0 0, .slice none 0 0, .slice none 0 0, .slice none 0 0, .slice none 0 0] ∧ Blk w' b1 70 #[.string ⟨#[101]⟩, .slice none 0 0] ∧ Blk w' b2 70 #[.string ⟨#[116]⟩, .slice none 0 0] ∧ Blk w' b3 70 #[p12, q12] ∧ Blk w' b4 70 #[p15, q15] ∧ Blk w' b23 63 (smallF.flatMap (fun f => [Value.string f.name, .int .i64 f.of, .int .i64 f.val])).toArray ∧ ∃ A cap xs, Blk w' b5 36 #[.slice At 15 capt, .slice (some ⟨b23, 0, none⟩) 5 5, .slice (some ⟨b93, 0, none⟩) 6 6, .slice A 16 cap, .slice none 0 0] ∧ Own w' base 84 9 A 16 cap xs) Q) 256 f wc := by
  refine c_know 7 (.func (.func 29) #[] #[.pointer (some ⟨b5, 0, none⟩)]) k7 (by simp [undef]) ?_
  refine c_know 4 (.pointer (some ⟨b4, 0, none⟩)) k4 (by simp [undef]) ?_
  refine c_region ?_
  refine wl (r_mv (v := .func _ _ _) rfl) ?_
  refine wl (r_ldS Tryd.underlying70 rfl rfl hb4.range0 sz70) ?_
  refine wl_cl fn31 (con_any _ _ _ (by first | rfl | assumption) (by first | rfl | assumption) _) rfl (fun e' w1 hr => ?_)
  obtain ⟨⟨q199_0, q199_1, q199_2, q199_3, q199_4, q199_5, rfl, hq199_0, hq199_1, hq199_2, hq199_3, hq199_4, hq199_5⟩, hs⟩ := hr
  replace hs := Same.of_bel hs
  replace hB := hB.tr0 hs
  replace hbs := Nat.le_trans hbs (Same.size hs)
  replace hFr := hFr.of hs (by simp)
  replace hb0 := hb0.tr0 hs
  replace hb1 := hb1.tr0 hs
  replace hb2 := hb2.tr0 hs
  replace hb3 := hb3.tr0 hs
  replace hb4 := hb4.tr0 hs
  replace hb23 := hb23.tr0 hs
  replace hb5 := hb5.tr0 hs
  replace ho := ho.tr0 hs
  clear hs
  refine ⟨_, rfl, ?_⟩
  refine wl_bs (cs := #[_, _, _]) [(0, .int _ _), (1, .int _ _), (2, .int _ _)] rfl Tryd.underlying45 sz3 ze3 (by decide) (by decide) (by kernel_rfl) rfl (fun b200 w2 hb200 hs hr => ?_)
  have or_b0_b200 : b0 < b200 := Nat.lt_of_lt_of_le hb0.lt hr
  have or_b1_b200 : b1 < b200 := Nat.lt_of_lt_of_le hb1.lt hr
  have or_b2_b200 : b2 < b200 := Nat.lt_of_lt_of_le hb2.lt hr
  have or_b3_b200 : b3 < b200 := Nat.lt_of_lt_of_le hb3.lt hr
  have or_b4_b200 : b4 < b200 := Nat.lt_of_lt_of_le hb4.lt hr
  have or_b23_b200 : b23 < b200 := Nat.lt_of_lt_of_le hb23.lt hr
  have or_b5_b200 : b5 < b200 := Nat.lt_of_lt_of_le hb5.lt hr
  have or_ho_b200 := fun g hg => Nat.lt_of_lt_of_le (ho.lt g hg).2 hr
  have lo200 := Nat.le_trans (Bel.size hB) hr
  replace hB := hB.tr0 hs
  replace hbs := Nat.le_trans hbs (Same.size hs)
  replace hFr := hFr.of hs (by simp)
  replace hb0 := hb0.tr0 hs
  replace hb1 := hb1.tr0 hs
  replace hb2 := hb2.tr0 hs
  replace hb3 := hb3.tr0 hs
  replace hb4 := hb4.tr0 hs
  replace hb23 := hb23.tr0 hs
  replace hb5 := hb5.tr0 hs
  replace ho := ho.tr0 hs
  clear hs
  clear hr
  refine wl_bs (cs := #[_]) [(0, .int _ _)] rfl Tryd.underlying45 sz3 ze3 (by decide) (by decide) (by kernel_rfl) rfl (fun b201 w3 hb201 hs hr => ?_)
  have or_b0_b201 : b0 < b201 := Nat.lt_of_lt_of_le hb0.lt hr
  have or_b1_b201 : b1 < b201 := Nat.lt_of_lt_of_le hb1.lt hr
  have or_b2_b201 : b2 < b201 := Nat.lt_of_lt_of_le hb2.lt hr
  have or_b3_b201 : b3 < b201 := Nat.lt_of_lt_of_le hb3.lt hr
  have or_b4_b201 : b4 < b201 := Nat.lt_of_lt_of_le hb4.lt hr
  have or_b23_b201 : b23 < b201 := Nat.lt_of_lt_of_le hb23.lt hr
  have or_b5_b201 : b5 < b201 := Nat.lt_of_lt_of_le hb5.lt hr
  have or_ho_b201 := fun g hg => Nat.lt_of_lt_of_le (ho.lt g hg).2 hr
  have or_b200_b201 : b200 < b201 := Nat.lt_of_lt_of_le hb200.lt hr
  have lo201 := Nat.le_trans (Bel.size hB) hr
  replace hB := hB.tr0 hs
  replace hbs := Nat.le_trans hbs (Same.size hs)
  replace hFr := hFr.of hs (by simp)
  replace hb0 := hb0.tr0 hs
  replace hb1 := hb1.tr0 hs
  replace hb2 := hb2.tr0 hs
  replace hb3 := hb3.tr0 hs
  replace hb4 := hb4.tr0 hs
  replace hb23 := hb23.tr0 hs
  replace hb5 := hb5.tr0 hs
  replace ho := ho.tr0 hs
  replace hb200 := hb200.tr0 hs
  clear hs
  clear hr
  refine wl_bs (cs := #[_, _]) [(0, .slice _ _ _), (1, .slice _ _ _)] rfl Tryd.underlying82 sz45 ze45 (by decide) (by decide) (by kernel_rfl) rfl (fun b202 w4 hb202 hs hr => ?_)
  have or_b0_b202 : b0 < b202 := Nat.lt_of_lt_of_le hb0.lt hr
  have or_b1_b202 : b1 < b202 := Nat.lt_of_lt_of_le hb1.lt hr
  have or_b2_b202 : b2 < b202 := Nat.lt_of_lt_of_le hb2.lt hr
  have or_b3_b202 : b3 < b202 := Nat.lt_of_lt_of_le hb3.lt hr
  have or_b4_b202 : b4 < b202 := Nat.lt_of_lt_of_le hb4.lt hr
  have or_b23_b202 : b23 < b202 := Nat.lt_of_lt_of_le hb23.lt hr
  have or_b5_b202 : b5 < b202 := Nat.lt_of_lt_of_le hb5.lt hr
  have or_ho_b202 := fun g hg => Nat.lt_of_lt_of_le (ho.lt g hg).2 hr
  have or_b200_b202 : b200 < b202 := Nat.lt_of_lt_of_le hb200.lt hr
  have or_b201_b202 : b201 < b202 := Nat.lt_of_lt_of_le hb201.lt hr
  have lo202 := Nat.le_trans (Bel.size hB) hr
  replace hB := hB.tr0 hs
  replace hbs := Nat.le_trans hbs (Same.size hs)
  replace hFr := hFr.of hs (by simp)
  replace hb0 := hb0.tr0 hs
  replace hb1 := hb1.tr0 hs
  replace hb2 := hb2.tr0 hs
  replace hb3 := hb3.tr0 hs
  replace hb4 := hb4.tr0 hs
  replace hb23 := hb23.tr0 hs
  replace hb5 := hb5.tr0 hs
  replace ho := ho.tr0 hs
  replace hb200 := hb200.tr0 hs
  replace hb201 := hb201.tr0 hs
  clear hs
  clear hr
  refine wl_clv rfl fn29 (add_any _ _ _ _ _ _ _ _ (by first | rfl | assumption) (by first | rfl | assumption) (by first | rfl | assumption) (by first | rfl | assumption) (by first | rfl | assumption) (by first | rfl | assumption) _ _ [[12, 4, 1], [4]] _ _ base _ _ _ _ _ _ _ _ (rows_of_blk (rs := [[12, 4, 1], [4]]) hb202 (.cons ⟨_, _, rfl, ints_of_blk [12, 4, 1] hb200 (by decide), by decide, by decide⟩ (.cons ⟨_, _, rfl, ints_of_blk [4] hb201 (by decide), by decide, by decide⟩ .nil)) (by decide)) hb5 ho hbs hl5 (by decide)) rfl rfl (fun e' w5 hr => ?_)
  obtain ⟨rfl, A2, cap2, xs2, hb5n, hon, hS, hA2⟩ := hr
  replace hB := hB.tr hS (fun x hx => by
    rcases List.mem_cons.1 hx with e | hx
    · rw [e]; exact lo5
    · exact Nat.le_trans hlo (ho.lt _ hx).1)
  replace hbs := Nat.le_trans hbs hS.size
  replace hFr := hFr.of hS (fun x hx => by
    rcases List.mem_cons.1 hx with e | hx
    · exact .inl (by rw [e]; exact z5)
    · exact .inr (Nat.le_trans hFb (ho.lt _ hx).1))
  replace hb0 := hb0.tr hS (fun hx => by
    rcases List.mem_cons.1 hx with e | hx
    · omega
    · have := (ho.lt _ hx).1; omega)
  replace hb1 := hb1.tr hS (fun hx => by
    rcases List.mem_cons.1 hx with e | hx
    · omega
    · have := (ho.lt _ hx).1; omega)
  replace hb2 := hb2.tr hS (fun hx => by
    rcases List.mem_cons.1 hx with e | hx
    · omega
    · have := (ho.lt _ hx).1; omega)
  replace hb3 := hb3.tr hS (fun hx => by
    rcases List.mem_cons.1 hx with e | hx
    · omega
    · have := (ho.lt _ hx).1; omega)
  replace hb4 := hb4.tr hS (fun hx => by
    rcases List.mem_cons.1 hx with e | hx
    · omega
    · have := (ho.lt _ hx).1; omega)
  replace hb23 := hb23.tr hS (fun hx => by
    rcases List.mem_cons.1 hx with e | hx
    · omega
    · have := (ho.lt _ hx).1; omega)
  replace hb5 := hb5n
  replace ho := hon
  refine ⟨_, rfl, ?_⟩
  refine x_nil ?_
  refine e_R ⟨(by repeat (first | exact ag_refl | exact ag_ovr' | refine ag_upd rfl ?_ | refine ag_sub rfl ?_ | refine ag_kn (by assumption) ?_)), ?_⟩
  exact ⟨hB, hbs, hFr, hb0, hb1, hb2, hb3, hb4, hb23, _, _, _, hb5, ho⟩

set_option maxHeartbeats 1000000 in
theorem small_r25 {w wc wZ : World} {base Z0 b0 b1 b2 b3 b4 b5 b23 b93 capt cap : Nat} {At A : Option Addr} {p12 q12 p15 q15 : Value} {xs : List Value} (hB : Bel w wc) (hbs : base ≤ wc.heap.size) (hFr : FrSame Z0 wZ wc) (hb0 : Blk wc b0 36 #[.slice none 0 0, .slice none 0 0, .slice none 0 0, .slice none 0 0, .slice none 0 0]) (hb1 : Blk wc b1 70 #[.string ⟨#[101]⟩, .slice none 0 0]) (hb2 : Blk wc b2 70 #[.string ⟨#[116]⟩, .slice none 0 0]) (hb3 : Blk wc b3 70 #[p12, q12]) (hb4 : Blk wc b4 70 #[p15, q15]) (hb23 : Blk wc b23 63 (smallF.flatMap (fun f => [Value.string f.name, .int .i64 f.of, .int .i64 f.val])).toArray) (hb5 : Blk wc b5 36 #[.slice At 15 capt, .slice (some ⟨b23, 0, none⟩) 5 5, .slice (some ⟨b93, 0, none⟩) 6 6, .slice A 16 cap, .slice none 0 0]) (ho : Own wc base 84 9 A 16 cap xs) (hp12 : p12.oneCell' = true) (hq12 : q12.oneCell' = true) (hp15 : p15.oneCell' = true) (hq15 : q15.oneCell' = true) (z5 : b5 < Z0) (lo5 : w.heap.size ≤ b5) (o0 : b0 < b5) (o1 : b1 < b5) (o2 : b2 < b5) (o3 : b3 < b5) (o4 : b4 < b5) (o23 : b5 < b23) (hlo : w.heap.size ≤ base) (hFb : wZ.heap.size ≤ base) (hl0 : b0 < base) (hl1 : b1 < base) (hl2 : b2 < base) (hl3 : b3 < base) (hl4 : b4 < base) (hl5 : b5 < base) (hl23 : b23 < base)  (f : Fr) (Q : Exit → Act → World → Prop) (k7 : f 7 = .func (.func 29) #[] #[.pointer (some ⟨b5, 0, none⟩)]) (k4 : f 4 = .pointer (some ⟨b4, 0, none⟩)) : WC Tryd.prog (sl (sr (sr (sr (sr (sr (sr (sr (sr (sr (sr (sr (sr (sr (sr (sr (sr (sr (sr (sr (sr (sr (sr (sr (sr (sr (ob Tryd.f9.body))))))))))))))))))))))))))) (QRS 256 [204, 205, 206, 207, 208, 209, 210] f (fun g w' => Bel w w' ∧ base ≤ w'.heap.size ∧ FrSame Z0 wZ w' ∧ Blk w' b0 36 #[.slice none 0 0, .slice none 0 0, .slice none 0 0, .slice none 0 0, .slice none 0 0] ∧ Blk w' b1 70 #[.string ⟨#[101]⟩, .slice none 0 0] ∧ Blk w' b2 70 #[.string ⟨#[116]⟩, .slice none 0 0] ∧ Blk w' b3 70 #[p12, q12] ∧ Blk w' b4 70 #[p15, q15] ∧ Blk w' b23 63 (smallF.flatMap (fun f => [Value.string f.name, .int .i64 f.of, .int .i64 f.val])).toArray ∧ ∃ A cap xs, Blk w' b5 36 #[.slice At 15 capt, .slice (some ⟨b23, 0, none⟩) 5 5, .slice (some ⟨b93, 0, none⟩) 6 6, .slice A 17 cap, .slice none 0 0] ∧ Own w' base 84 9 A 17 cap xs) Q) 256 f wc := by
  refine c_know 7 (.func (.func 29) #[] #[.pointer (some ⟨b5, 0, none⟩)]) k7 (by simp [undef]) ?_
  refine c_know 4 (.pointer (some ⟨b4, 0, none⟩)) k4 (by simp [undef]) ?_
  refine c_region ?_
  refine wl (r_mv (v := .func _ _ _) rfl) ?_
  refine wl (r_ldS Tryd.underlying70 rfl rfl hb4.range0 sz70) ?_
  refine wl_cl fn31 (con_any _ _ _ (by first | rfl | assumption) (by first | rfl | assumption) _) rfl (fun e' w1 hr => ?_)
  obtain ⟨⟨q206_0, q206_1, q206_2, q206_3, q206_4, q206_5, rfl, hq206_0, hq206_1, hq206_2, hq206_3, hq206_4, hq206_5⟩, hs⟩ := hr
  replace hs := Same.of_bel hs
  replace hB := hB.tr0 hs
  replace hbs := Nat.le_trans hbs (Same.size hs)
  replace hFr := hFr.of hs (by simp)
  replace hb0 := hb0.tr0 hs
  replace hb1 := hb1.tr0 hs
  replace hb2 := hb2.tr0 hs
  replace hb3 := hb3.tr0 hs
  replace hb4 := hb4.tr0 hs
  replace hb23 := hb23.tr0 hs
  replace hb5 := hb5.tr0 hs
  replace ho := ho.tr0 hs
  clear hs
  refine ⟨_, rfl, ?_⟩
  refine wl_bs (cs := #[_, _, _]) [(0, .int _ _), (1, .int _ _), (2, .int _ _)] rfl Tryd.underlying45 sz3 ze3 (by decide) (by decide) (by kernel_rfl) rfl (fun b207 w2 hb207 hs hr => ?_)
  have or_b0_b207 : b0 < b207 := Nat.lt_of_lt_of_le hb0.lt hr
  have or_b1_b207 : b1 < b207 := Nat.lt_of_lt_of_le hb1.lt hr
  have or_b2_b207 : b2 < b207 := Nat.lt_of_lt_of_le hb2.lt hr
  have or_b3_b207 : b3 < b207 := Nat.lt_of_lt_of_le hb3.lt hr
  have or_b4_b207 : b4 < b207 := Nat.lt_of_lt_of_le hb4.lt hr
  have or_b23_b207 : b23 < b207 := Nat.lt_of_lt_of_le hb23.lt hr
  have or_b5_b207 : b5 < b207 := Nat.lt_of_lt_of_le hb5.lt hr
  have or_ho_b207 := fun g hg => Nat.lt_of_lt_of_le (ho.lt g hg).2 hr
  have lo207 := Nat.le_trans (Bel.size hB) hr
  replace hB := hB.tr0 hs
  replace hbs := Nat.le_trans hbs (Same.size hs)
  replace hFr := hFr.of hs (by simp)
  replace hb0 := hb0.tr0 hs
  replace hb1 := hb1.tr0 hs
  replace hb2 := hb2.tr0 hs
  replace hb3 := hb3.tr0 hs
  replace hb4 := hb4.tr0 hs
  replace hb23 := hb23.tr0 hs
  replace hb5 := hb5.tr0 hs
  replace ho := ho.tr0 hs
  clear hs
  clear hr
  refine wl_bs (cs := #[_]) [(0, .int _ _)] rfl Tryd.underlying45 sz3 ze3 (by decide) (by decide) (by kernel_rfl) rfl (fun b208 w3 hb208 hs hr => ?_)
  have or_b0_b208 : b0 < b208 := Nat.lt_of_lt_of_le hb0.lt hr
  have or_b1_b208 : b1 < b208 := Nat.lt_of_lt_of_le hb1.lt hr
  have or_b2_b208 : b2 < b208 := Nat.lt_of_lt_of_le hb2.lt hr
  have or_b3_b208 : b3 < b208 := Nat.lt_of_lt_of_le hb3.lt hr
  have or_b4_b208 : b4 < b208 := Nat.lt_of_lt_of_le hb4.lt hr
  have or_b23_b208 : b23 < b208 := Nat.lt_of_lt_of_le hb23.lt hr
  have or_b5_b208 : b5 < b208 := Nat.lt_of_lt_of_le hb5.lt hr
  have or_ho_b208 := fun g hg => Nat.lt_of_lt_of_le (ho.lt g hg).2 hr
  have or_b207_b208 : b207 < b208 := Nat.lt_of_lt_of_le hb207.lt hr
  have lo208 := Nat.le_trans (Bel.size hB) hr
  replace hB := hB.tr0 hs
  replace hbs := Nat.le_trans hbs (Same.size hs)
  replace hFr := hFr.of hs (by simp)
  replace hb0 := hb0.tr0 hs
  replace hb1 := hb1.tr0 hs
  replace hb2 := hb2.tr0 hs
  replace hb3 := hb3.tr0 hs
  replace hb4 := hb4.tr0 hs
  replace hb23 := hb23.tr0 hs
  replace hb5 := hb5.tr0 hs
  replace ho := ho.tr0 hs
  replace hb207 := hb207.tr0 hs
  clear hs
  clear hr
  refine wl_bs (cs := #[_, _]) [(0, .slice _ _ _), (1, .slice _ _ _)] rfl Tryd.underlying82 sz45 ze45 (by decide) (by decide) (by kernel_rfl) rfl (fun b209 w4 hb209 hs hr => ?_)
  have or_b0_b209 : b0 < b209 := Nat.lt_of_lt_of_le hb0.lt hr
  have or_b1_b209 : b1 < b209 := Nat.lt_of_lt_of_le hb1.lt hr
  have or_b2_b209 : b2 < b209 := Nat.lt_of_lt_of_le hb2.lt hr
  have or_b3_b209 : b3 < b209 := Nat.lt_of_lt_of_le hb3.lt hr
  have or_b4_b209 : b4 < b209 := Nat.lt_of_lt_of_le hb4.lt hr
  have or_b23_b209 : b23 < b209 := Nat.lt_of_lt_of_le hb23.lt hr
  have or_b5_b209 : b5 < b209 := Nat.lt_of_lt_of_le hb5.lt hr
  have or_ho_b209 := fun g hg => Nat.lt_of_lt_of_le (ho.lt g hg).2 hr
  have or_b207_b209 : b207 < b209 := Nat.lt_of_lt_of_le hb207.lt hr
  have or_b208_b209 : b208 < b209 := Nat.lt_of_lt_of_le hb208.lt hr
  have lo209 := Nat.le_trans (Bel.size hB) hr
  replace hB := hB.tr0 hs
  replace hbs := Nat.le_trans hbs (Same.size hs)
  replace hFr := hFr.of hs (by simp)
  replace hb0 := hb0.tr0 hs
  replace hb1 := hb1.tr0 hs
  replace hb2 := hb2.tr0 hs
  replace hb3 := hb3.tr0 hs
  replace hb4 := hb4.tr0 hs
  replace hb23 := hb23.tr0 hs
  replace hb5 := hb5.tr0 hs
  replace ho := ho.tr0 hs
  replace hb207 := hb207.tr0 hs
  replace hb208 := hb208.tr0 hs
  clear hs
  clear hr
  refine wl_clv rfl fn29 (add_any _ _ _ _ _ _ _ _ (by first | rfl | assumption) (by first | rfl | assumption) (by first | rfl | assumption) (by first | rfl | assumption) (by first | rfl | assumption) (by first | rfl | assumption) _ _ [[12, 4, 1], [5]] _ _ base _ _ _ _ _ _ _ _ (rows_of_blk (rs := [[12, 4, 1], [5]]) hb209 (.cons ⟨_, _, rfl, ints_of_blk [12, 4, 1] hb207 (by decide), by decide, by decide⟩ (.cons ⟨_, _, rfl, ints_of_blk [5] hb208 (by decide), by decide, by decide⟩ .nil)) (by decide)) hb5 ho hbs hl5 (by decide)) rfl rfl (fun e' w5 hr => ?_)
  obtain ⟨rfl, A2, cap2, xs2, hb5n, hon, hS, hA2⟩ := hr
  replace hB := hB.tr hS (fun x hx => by
    rcases List.mem_cons.1 hx with e | hx
    · rw [e]; exact lo5
    · exact Nat.le_trans hlo (ho.lt _ hx).1)
  replace hbs := Nat.le_trans hbs hS.size
  replace hFr := hFr.of hS (fun x hx => by
    rcases List.mem_cons.1 hx with e | hx
    · exact .inl (by rw [e]; exact z5)
    · exact .inr (Nat.le_trans hFb (ho.lt _ hx).1))
  replace hb0 := hb0.tr hS (fun hx => by
    rcases List.mem_cons.1 hx with e | hx
    · omega
    · have := (ho.lt _ hx).1; omega)
  replace hb1 := hb1.tr hS (fun hx => by
    rcases List.mem_cons.1 hx with e | hx
    · omega
    · have := (ho.lt _ hx).1; omega)
  replace hb2 := hb2.tr hS (fun hx => by
    rcases List.mem_cons.1 hx with e | hx
    · omega
    · have := (ho.lt _ hx).1; omega)
  replace hb3 := hb3.tr hS (fun hx => by
    rcases List.mem_cons.1 hx with e | hx
    · omega
    · have := (ho.lt _ hx).1; omega)
  replace hb4 := hb4.tr hS (fun hx => by
    rcases List.mem_cons.1 hx with e | hx
    · omega
    · have := (ho.lt _ hx).1; omega)
  replace hb23 := hb23.tr hS (fun hx => by
    rcases List.mem_cons.1 hx with e | hx
    · omega
    · have := (ho.lt _ hx).1; omega)
  replace hb5 := hb5n
  replace ho := hon
  refine ⟨_, rfl, ?_⟩
  refine x_nil ?_
  refine e_R ⟨(by repeat (first | exact ag_refl | exact ag_ovr' | refine ag_upd rfl ?_ | refine ag_sub rfl ?_ | refine ag_kn (by assumption) ?_)), ?_⟩
  exact ⟨hB, hbs, hFr, hb0, hb1, hb2, hb3, hb4, hb23, _, _, _, hb5, ho⟩

set_option maxHeartbeats 1000000 in
theorem small_r26 {w wc wZ : World} {base Z0 b0 b1 b2 b3 b4 b5 b23 b93 capt cap : Nat} {At A : Option Addr} {p12 q12 p15 q15 : Value} {xs : List Value} (hB : Bel w wc) (hbs : base ≤ wc.heap.size) (hFr : FrSame Z0 wZ wc) (hb0 : Blk wc b0 36 #[.slice none 0 0, .slice none 0 0, .slice none 0 0, .slice none 0 0, .slice none 0 0]) (hb1 : Blk wc b1 70 #[.string ⟨#[101]⟩, .slice none 0 0]) (hb2 : Blk wc b2 70 #[.string ⟨#[116]⟩, .slice none 0 0]) (hb3 : Blk wc b3 70 #[p12, q12]) (hb4 : Blk wc b4 70 #[p15, q15]) (hb23 : Blk wc b23 63 (smallF.flatMap (fun f => [Value.string f.name, .int .i64 f.of, .int .i64 f.val])).toArray) (hb5 : Blk wc b5 36 #[.slice At 15 capt, .slice (some ⟨b23, 0, none⟩) 5 5, .slice (some ⟨b93, 0, none⟩) 6 6, .slice A 17 cap, .slice none 0 0]) (ho : Own wc base 84 9 A 17 cap xs) (hp12 : p12.oneCell' = true) (hq12 : q12.oneCell' = true) (hp15 : p15.oneCell' = true) (hq15 : q15.oneCell' = true) (z5 : b5 < Z0) (lo5 : w.heap.size ≤ b5) (o0 : b0 < b5) (o1 : b1 < b5) (o2 : b2 < b5) (o3 : b3 < b5) (o4 : b4 < b5) (o23 : b5 < b23) (hlo : w.heap.size ≤ base) (hFb : wZ.heap.size ≤ base) (hl0 : b0 < base) (hl1 : b1 < base) (hl2 : b2 < base) (hl3 : b3 < base) (hl4 : b4 < base) (hl5 : b5 < base) (hl23 : b23 < base)  (f : Fr) (Q : Exit → Act → World → Prop) (k7 : f 7 = .func (.func 29) #[] #[.pointer (some ⟨b5, 0, none⟩)]) (k2 : f 2 = .pointer (some ⟨b2, 0, none⟩)) : WC Tryd.prog (sl (sr (sr (sr (sr (sr (sr (sr (sr (sr (sr (sr (sr (sr (sr (sr (sr (sr (sr (sr (sr (sr (sr (sr (sr (sr (sr (ob Tryd.f9.body)))))))))))))))))))))))))))) (QRS 256 [211, 212, 213, 214, 215, 216, 217, 218] f (fun g w' => Bel w w' ∧ base ≤ w'.heap.size ∧ FrSame Z0 wZ w' ∧ Blk w' b0 36 #[.slice none 0 0, .slice none 0 0, .slice none 0 0, .slice none 0 0, .slice none 0 0] ∧ Blk w' b1 70 #[.string ⟨#[101]⟩, .slice none 0 0] ∧ Blk w' b2 70 #[.string ⟨#[116]⟩, .slice none 0 0] ∧ Blk w' b3 70 #[p12, q12] ∧ Blk w' b4 70 #[p15, q15] ∧ Blk w' b23 63 (smallF.flatMap (fun f => [Value.string f.name, .int .i64 f.of, .int .i64 f.val])).toArray ∧ ∃ A cap xs, Blk w' b5 36 #[.slice At 15 capt, .slice (some ⟨b23, 0, none⟩) 5 5, .slice (some ⟨b93, 0, none⟩) 6 6, .slice A 18 cap, .slice none 0 0] ∧ Own w' base 84 9 A 18 cap xs) Q) 256 f wc := by
  refine c_know 7 (.func (.func 29) #[] #[.pointer (some ⟨b5, 0, none⟩)]) k7 (by simp [undef]) ?_
  refine c_know 2 (.pointer (some ⟨b2, 0, none⟩)) k2 (by simp [undef]) ?_
  refine c_region ?_
  refine wl (r_mv (v := .func _ _ _) rfl) ?_
  refine wl (r_ldS Tryd.underlying70 rfl rfl hb2.range0 sz70) ?_
  refine wl (r_ldS Tryd.underlying70 rfl rfl hb2.range0 sz70) ?_
  refine wl_cl fn25 (fun_any _ _ _ _ (by first | rfl | assumption) (by first | rfl | assumption) (by first | rfl | assumption) (by first | rfl | assumption) _) rfl (fun e' w1 hr => ?_)
  obtain ⟨⟨q214_0, q214_1, rfl, hq214_0, hq214_1⟩, hs⟩ := hr
  replace hs := Same.of_bel hs
  replace hB := hB.tr0 hs
  replace hbs := Nat.le_trans hbs (Same.size hs)
  replace hFr := hFr.of hs (by simp)
  replace hb0 := hb0.tr0 hs
  replace hb1 := hb1.tr0 hs
  replace hb2 := hb2.tr0 hs
  replace hb3 := hb3.tr0 hs
  replace hb4 := hb4.tr0 hs
  replace hb23 := hb23.tr0 hs
  replace hb5 := hb5.tr0 hs
  replace ho := ho.tr0 hs
  clear hs
  refine ⟨_, rfl, ?_⟩
  refine wl_cl fn31 (con_any _ _ _ (by first | rfl | assumption) (by first | rfl | assumption) _) rfl (fun e' w2 hr => ?_)
  obtain ⟨⟨q215_0, q215_1, q215_2, q215_3, q215_4, q215_5, rfl, hq215_0, hq215_1, hq215_2, hq215_3, hq215_4, hq215_5⟩, hs⟩ := hr
  replace hs := Same.of_bel hs
  replace hB := hB.tr0 hs
  replace hbs := Nat.le_trans hbs (Same.size hs)
  replace hFr := hFr.of hs (by simp)
  replace hb0 := hb0.tr0 hs
  replace hb1 := hb1.tr0 hs
  replace hb2 := hb2.tr0 hs
  replace hb3 := hb3.tr0 hs
  replace hb4 := hb4.tr0 hs
  replace hb23 := hb23.tr0 hs
  replace hb5 := hb5.tr0 hs
  replace ho := ho.tr0 hs
  clear hs
  refine ⟨_, rfl, ?_⟩
  refine wl_bs (cs := #[_]) [(0, .int _ _)] rfl Tryd.underlying45 sz3 ze3 (by decide) (by decide) (by kernel_rfl) rfl (fun b216 w3 hb216 hs hr => ?_)
  have or_b0_b216 : b0 < b216 := Nat.lt_of_lt_of_le hb0.lt hr
  have or_b1_b216 : b1 < b216 := Nat.lt_of_lt_of_le hb1.lt hr
  have or_b2_b216 : b2 < b216 := Nat.lt_of_lt_of_le hb2.lt hr
  have or_b3_b216 : b3 < b216 := Nat.lt_of_lt_of_le hb3.lt hr
  have or_b4_b216 : b4 < b216 := Nat.lt_of_lt_of_le hb4.lt hr
  have or_b23_b216 : b23 < b216 := Nat.lt_of_lt_of_le hb23.lt hr
  have or_b5_b216 : b5 < b216 := Nat.lt_of_lt_of_le hb5.lt hr
  have or_ho_b216 := fun g hg => Nat.lt_of_lt_of_le (ho.lt g hg).2 hr
  have lo216 := Nat.le_trans (Bel.size hB) hr
  replace hB := hB.tr0 hs
  replace hbs := Nat.le_trans hbs (Same.size hs)
  replace hFr := hFr.of hs (by simp)
  replace hb0 := hb0.tr0 hs
  replace hb1 := hb1.tr0 hs
  replace hb2 := hb2.tr0 hs
  replace hb3 := hb3.tr0 hs
  replace hb4 := hb4.tr0 hs
  replace hb23 := hb23.tr0 hs
  replace hb5 := hb5.tr0 hs
  replace ho := ho.tr0 hs
  clear hs
  clear hr
  refine wl_bs (cs := #[_]) [(0, .slice _ _ _)] rfl Tryd.underlying82 sz45 ze45 (by decide) (by decide) (by kernel_rfl) rfl (fun b217 w4 hb217 hs hr => ?_)
  have or_b0_b217 : b0 < b217 := Nat.lt_of_lt_of_le hb0.lt hr
  have or_b1_b217 : b1 < b217 := Nat.lt_of_lt_of_le hb1.lt hr
  have or_b2_b217 : b2 < b217 := Nat.lt_of_lt_of_le hb2.lt hr
  have or_b3_b217 : b3 < b217 := Nat.lt_of_lt_of_le hb3.lt hr
  have or_b4_b217 : b4 < b217 := Nat.lt_of_lt_of_le hb4.lt hr
  have or_b23_b217 : b23 < b217 := Nat.lt_of_lt_of_le hb23.lt hr
  have or_b5_b217 : b5 < b217 := Nat.lt_of_lt_of_le hb5.lt hr
  have or_ho_b217 := fun g hg => Nat.lt_of_lt_of_le (ho.lt g hg).2 hr
  have or_b216_b217 : b216 < b217 := Nat.lt_of_lt_of_le hb216.lt hr
  have lo217 := Nat.le_trans (Bel.size hB) hr
  replace hB := hB.tr0 hs
  replace hbs := Nat.le_trans hbs (Same.size hs)
  replace hFr := hFr.of hs (by simp)
  replace hb0 := hb0.tr0 hs
  replace hb1 := hb1.tr0 hs
  replace hb2 := hb2.tr0 hs
  replace hb3 := hb3.tr0 hs
  replace hb4 := hb4.tr0 hs
  replace hb23 := hb23.tr0 hs
  replace hb5 := hb5.tr0 hs
  replace ho := ho.tr0 hs
  replace hb216 := hb216.tr0 hs
  clear hs
  clear hr
  refine wl_clv rfl fn29 (add_any _ _ _ _ _ _ _ _ (by first | rfl | assumption) (by first | rfl | assumption) (by first | rfl | assumption) (by first | rfl | assumption) (by first | rfl | assumption) (by first | rfl | assumption) _ _ [[13]] _ _ base _ _ _ _ _ _ _ _ (rows_of_blk (rs := [[13]]) hb217 (.cons ⟨_, _, rfl, ints_of_blk [13] hb216 (by decide), by decide, by decide⟩ .nil) (by decide)) hb5 ho hbs hl5 (by decide)) rfl rfl (fun e' w5 hr => ?_)
  obtain ⟨rfl, A2, cap2, xs2, hb5n, hon, hS, hA2⟩ := hr
  replace hB := hB.tr hS (fun x hx => by
    rcases List.mem_cons.1 hx with e | hx
    · rw [e]; exact lo5
    · exact Nat.le_trans hlo (ho.lt _ hx).1)
  replace hbs := Nat.le_trans hbs hS.size
  replace hFr := hFr.of hS (fun x hx => by
    rcases List.mem_cons.1 hx with e | hx
    · exact .inl (by rw [e]; exact z5)
    · exact .inr (Nat.le_trans hFb (ho.lt _ hx).1))
  replace hb0 := hb0.tr hS (fun hx => by
    rcases List.mem_cons.1 hx with e | hx
    · omega
    · have := (ho.lt _ hx).1; omega)
  replace hb1 := hb1.tr hS (fun hx => by
    rcases List.mem_cons.1 hx with e | hx
    · omega
    · have := (ho.lt _ hx).1; omega)
  replace hb2 := hb2.tr hS (fun hx => by
    rcases List.mem_cons.1 hx with e | hx
    · omega
    · have := (ho.lt _ hx).1; omega)
  replace hb3 := hb3.tr hS (fun hx => by
    rcases List.mem_cons.1 hx with e | hx
    · omega
    · have := (ho.lt _ hx).1; omega)
  replace hb4 := hb4.tr hS (fun hx => by
    rcases List.mem_cons.1 hx with e | hx
    · omega
    · have := (ho.lt _ hx).1; omega)
  replace hb23 := hb23.tr hS (fun hx => by
    rcases List.mem_cons.1 hx with e | hx
    · omega
    · have := (ho.lt _ hx).1; omega)
  replace hb5 := hb5n
  replace ho := hon
  refine ⟨_, rfl, ?_⟩
  refine x_nil ?_
  refine e_R ⟨(by repeat (first | exact ag_refl | exact ag_ovr' | refine ag_upd rfl ?_ | refine ag_sub rfl ?_ | refine ag_kn (by assumption) ?_)), ?_⟩
  exact ⟨hB, hbs, hFr, hb0, hb1, hb2, hb3, hb4, hb23, _, _, _, hb5, ho⟩

set_option maxHeartbeats 1000000 in
theorem small_r27 {w wc wZ : World} {base Z0 b0 b1 b2 b3 b4 b5 b23 b93 capt cap : Nat} {At A : Option Addr} {p12 q12 p15 q15 : Value} {xs : List Value} (hB : Bel w wc) (hbs : base ≤ wc.heap.size) (hFr : FrSame Z0 wZ wc) (hb0 : Blk wc b0 36 #[.slice none 0 0, .slice none 0 0, .slice none 0 0, .slice none 0 0, .slice none 0 0]) (hb1 : Blk wc b1 70 #[.string ⟨#[101]⟩, .slice none 0 0]) (hb2 : Blk wc b2 70 #[.string ⟨#[116]⟩, .slice none 0 0]) (hb3 : Blk wc b3 70 #[p12, q12]) (hb4 : Blk wc b4 70 #[p15, q15]) (hb23 : Blk wc b23 63 (smallF.flatMap (fun f => [Value.string f.name, .int .i64 f.of, .int .i64 f.val])).toArray) (hb5 : Blk wc b5 36 #[.slice At 15 capt, .slice (some ⟨b23, 0, none⟩) 5 5, .slice (some ⟨b93, 0, none⟩) 6 6, .slice A 18 cap, .slice none 0 0]) (ho : Own wc base 84 9 A 18 cap xs) (hp12 : p12.oneCell' = true) (hq12 : q12.oneCell' = true) (hp15 : p15.oneCell' = true) (hq15 : q15.oneCell' = true) (z5 : b5 < Z0) (lo5 : w.heap.size ≤ b5) (o0 : b0 < b5) (o1 : b1 < b5) (o2 : b2 < b5) (o3 : b3 < b5) (o4 : b4 < b5) (o23 : b5 < b23) (hlo : w.heap.size ≤ base) (hFb : wZ.heap.size ≤ base) (hl0 : b0 < base) (hl1 : b1 < base) (hl2 : b2 < base) (hl3 : b3 < base) (hl4 : b4 < base) (hl5 : b5 < base) (hl23 : b23 < base)  (f : Fr) (Q : Exit → Act → World → Prop) (k7 : f 7 = .func (.func 29) #[] #[.pointer (some ⟨b5, 0, none⟩)]) (k2 : f 2 = .pointer (some ⟨b2, 0, none⟩)) : WC Tryd.prog (sl (sr (sr (sr (sr (sr (sr (sr (sr (sr (sr (sr (sr (sr (sr (sr (sr (sr (sr (sr (sr (sr (sr (sr (sr (sr (sr (sr (ob Tryd.f9.body))))))))))))))))))))))))))))) (QRS 256 [219, 220, 221, 222, 223, 224, 225, 226, 227, 228] f (fun g w' => Bel w w' ∧ base ≤ w'.heap.size ∧ FrSame Z0 wZ w' ∧ Blk w' b0 36 #[.slice none 0 0, .slice none 0 0, .slice none 0 0, .slice none 0 0, .slice none 0 0] ∧ Blk w' b1 70 #[.string ⟨#[101]⟩, .slice none 0 0] ∧ Blk w' b2 70 #[.string ⟨#[116]⟩, .slice none 0 0] ∧ Blk w' b3 70 #[p12, q12] ∧ Blk w' b4 70 #[p15, q15] ∧ Blk w' b23 63 (smallF.flatMap (fun f => [Value.string f.name, .int .i64 f.of, .int .i64 f.val])).toArray ∧ ∃ A cap xs, Blk w' b5 36 #[.slice At 15 capt, .slice (some ⟨b23, 0, none⟩) 5 5, .slice (some ⟨b93, 0, none⟩) 6 6, .slice A 19 cap, .slice none 0 0] ∧ Own w' base 84 9 A 19 cap xs) Q) 256 f wc := by
  refine c_know 7 (.func (.func 29) #[] #[.pointer (some ⟨b5, 0, none⟩)]) k7 (by simp [undef]) ?_
  refine c_know 2 (.pointer (some ⟨b2, 0, none⟩)) k2 (by simp [undef]) ?_
  have hsz := Bel.size hB
  refine c_monoTO 9 [219, 220, 221, 222, 223, 224, 225, 226, 227] (fun _ => false) (fun ix v wv => match ix with | 0 => v = .func (.func 29) #[] #[.pointer (some ⟨b5, 0, none⟩)] | 1 => ∃ x0 x1, v = .agg #[x0, x1] ∧ x0.oneCell' = true ∧ x1.oneCell' = true | 2 => ∃ x0 x1, v = .agg #[x0, x1] ∧ x0.oneCell' = true ∧ x1.oneCell' = true | 3 => ∃ x0 x1, v = .agg #[x0, x1] ∧ x0.oneCell' = true ∧ x1.oneCell' = true | 4 => ∃ x0 x1, v = .agg #[x0, x1] ∧ x0.oneCell' = true ∧ x1.oneCell' = true | 5 => ∃ x0 x1, v = .agg #[x0, x1] ∧ x0.oneCell' = true ∧ x1.oneCell' = true | 6 => ∃ x0 x1 x2 x3 x4 x5, v = .agg #[x0, x1, x2, x3, x4, x5] ∧ x0.oneCell' = true ∧ x1.oneCell' = true ∧ x2.oneCell' = true ∧ x3.oneCell' = true ∧ x4.oneCell' = true ∧ x5.oneCell' = true | 7 => ∃ b, v = .slice (some ⟨b, 0, none⟩) 1 1 ∧ IntsIn wv (some ⟨b, 0, none⟩) [14] | 8 => ∃ b, v = .slice (some ⟨b, 0, none⟩) 1 1 ∧ RowsIn wv (some ⟨b, 0, none⟩) [[14]] | _ => True) (by kernel_rfl) (by kernel_rfl) ?_ ?_ ?_
  · intro ix v wv wv2 h hs
    match ix, h with
    | 0, h => exact h
    | 1, h => exact h
    | 2, h => exact h
    | 3, h => exact h
    | 4, h => exact h
    | 5, h => exact h
    | 6, h => exact h
    | 7, h =>
      obtain ⟨b226, e226, hin226⟩ := (show ∃ b, v = .slice (some ⟨b, 0, none⟩) 1 1 ∧ IntsIn wv (some ⟨b, 0, none⟩) [14] from h)
      exact ⟨b226, e226, hin226.mono hs.bel⟩
    | 8, h =>
      obtain ⟨b227, e227, hrw227⟩ := (show ∃ b, v = .slice (some ⟨b, 0, none⟩) 1 1 ∧ RowsIn wv (some ⟨b, 0, none⟩) [[14]] from h)
      exact ⟨b227, e227, hrw227.mono hs.bel⟩
    | _ + 9, h => exact trivial
  · intro ix o hix hoq gg wx hs hd hdis
    match ix, hix, hoq with
    | 0, _, hoq =>
      obtain rfl : _ = o := Option.some.inj hoq
      have hs0 := hs
      replace hB := hB.tr0 hs
      replace hbs := Nat.le_trans hbs (Same.size hs)
      replace hFr := hFr.of hs (by simp)
      replace hb0 := hb0.tr0 hs
      replace hb1 := hb1.tr0 hs
      replace hb2 := hb2.tr0 hs
      replace hb3 := hb3.tr0 hs
      replace hb4 := hb4.tr0 hs
      replace hb23 := hb23.tr0 hs
      replace hb5 := hb5.tr0 hs
      replace ho := ho.tr0 hs
      clear hs
      refine os_rv (r_mv (v := .func _ _ _) rfl) ⟨Same.refl _ _, ?_, frsh_no⟩
      exact rfl
    | 1, _, hoq =>
      obtain rfl : _ = o := Option.some.inj hoq
      have hs0 := hs
      replace hB := hB.tr0 hs
      replace hbs := Nat.le_trans hbs (Same.size hs)
      replace hFr := hFr.of hs (by simp)
      replace hb0 := hb0.tr0 hs
      replace hb1 := hb1.tr0 hs
      replace hb2 := hb2.tr0 hs
      replace hb3 := hb3.tr0 hs
      replace hb4 := hb4.tr0 hs
      replace hb23 := hb23.tr0 hs
      replace hb5 := hb5.tr0 hs
      replace ho := ho.tr0 hs
      clear hs
      refine os_rv (r_ldS Tryd.underlying70 rfl rfl hb2.range0 sz70) ⟨Same.refl _ _, ?_, frsh_no⟩
      exact ⟨_, _, rfl, (by first | rfl | assumption), (by first | rfl | assumption)⟩
    | 2, _, hoq =>
      obtain rfl : _ = o := Option.some.inj hoq
      have hs0 := hs
      replace hB := hB.tr0 hs
      replace hbs := Nat.le_trans hbs (Same.size hs)
      replace hFr := hFr.of hs (by simp)
      replace hb0 := hb0.tr0 hs
      replace hb1 := hb1.tr0 hs
      replace hb2 := hb2.tr0 hs
      replace hb3 := hb3.tr0 hs
      replace hb4 := hb4.tr0 hs
      replace hb23 := hb23.tr0 hs
      replace hb5 := hb5.tr0 hs
      replace ho := ho.tr0 hs
      clear hs
      refine os_rv (r_ldS Tryd.underlying70 rfl rfl hb2.range0 sz70) ⟨Same.refl _ _, ?_, frsh_no⟩
      exact ⟨_, _, rfl, (by first | rfl | assumption), (by first | rfl | assumption)⟩
    | 3, _, hoq =>
      obtain rfl : _ = o := Option.some.inj hoq
      have hs0 := hs
      replace hB := hB.tr0 hs
      replace hbs := Nat.le_trans hbs (Same.size hs)
      replace hFr := hFr.of hs (by simp)
      replace hb0 := hb0.tr0 hs
      replace hb1 := hb1.tr0 hs
      replace hb2 := hb2.tr0 hs
      replace hb3 := hb3.tr0 hs
      replace hb4 := hb4.tr0 hs
      replace hb23 := hb23.tr0 hs
      replace hb5 := hb5.tr0 hs
      replace ho := ho.tr0 hs
      clear hs
      refine os_rv (r_ldS Tryd.underlying70 rfl rfl hb2.range0 sz70) ⟨Same.refl _ _, ?_, frsh_no⟩
      exact ⟨_, _, rfl, (by first | rfl | assumption), (by first | rfl | assumption)⟩
    | 4, _, hoq =>
      obtain rfl : _ = o := Option.some.inj hoq
      have hs0 := hs
      replace hB := hB.tr0 hs
      replace hbs := Nat.le_trans hbs (Same.size hs)
      replace hFr := hFr.of hs (by simp)
      replace hb0 := hb0.tr0 hs
      replace hb1 := hb1.tr0 hs
      replace hb2 := hb2.tr0 hs
      replace hb3 := hb3.tr0 hs
      replace hb4 := hb4.tr0 hs
      replace hb23 := hb23.tr0 hs
      replace hb5 := hb5.tr0 hs
      replace ho := ho.tr0 hs
      clear hs
      have d2 : ∃ x0 x1, gg 221 = .agg #[x0, x1] ∧ x0.oneCell' = true ∧ x1.oneCell' = true := hd 2 (dep_of (by kernel_rfl))
      obtain ⟨q221_0, q221_1, e221, hq221_0, hq221_1⟩ := d2
      have d3 : ∃ x0 x1, gg 222 = .agg #[x0, x1] ∧ x0.oneCell' = true ∧ x1.oneCell' = true := hd 3 (dep_of (by kernel_rfl))
      obtain ⟨q222_0, q222_1, e222, hq222_0, hq222_1⟩ := d3
      refine os_know 221 (.agg #[q221_0, q221_1]) e221 (by simp [undef]) ?_
      refine os_know 222 (.agg #[q222_0, q222_1]) e222 (by simp [undef]) ?_
      refine os_cl fn25 (fun_any _ _ _ _ (by first | rfl | assumption) (by first | rfl | assumption) (by first | rfl | assumption) (by first | rfl | assumption) wx) rfl (fun e' w2 hr => ?_)
      obtain ⟨⟨q223_0, q223_1, rfl, hq223_0, hq223_1⟩, hs⟩ := hr
      exact ⟨_, rfl, Same.of_bel hs, ⟨_, _, rfl, (by first | rfl | assumption), (by first | rfl | assumption)⟩, frsh_no⟩
    | 5, _, hoq =>
      obtain rfl : _ = o := Option.some.inj hoq
      have hs0 := hs
      replace hB := hB.tr0 hs
      replace hbs := Nat.le_trans hbs (Same.size hs)
      replace hFr := hFr.of hs (by simp)
      replace hb0 := hb0.tr0 hs
      replace hb1 := hb1.tr0 hs
      replace hb2 := hb2.tr0 hs
      replace hb3 := hb3.tr0 hs
      replace hb4 := hb4.tr0 hs
      replace hb23 := hb23.tr0 hs
      replace hb5 := hb5.tr0 hs
      replace ho := ho.tr0 hs
      clear hs
      have d1 : ∃ x0 x1, gg 220 = .agg #[x0, x1] ∧ x0.oneCell' = true ∧ x1.oneCell' = true := hd 1 (dep_of (by kernel_rfl))
      obtain ⟨q220_0, q220_1, e220, hq220_0, hq220_1⟩ := d1
      have d4 : ∃ x0 x1, gg 223 = .agg #[x0, x1] ∧ x0.oneCell' = true ∧ x1.oneCell' = true := hd 4 (dep_of (by kernel_rfl))
      obtain ⟨q223_0, q223_1, e223, hq223_0, hq223_1⟩ := d4
      refine os_know 220 (.agg #[q220_0, q220_1]) e220 (by simp [undef]) ?_
      refine os_know 223 (.agg #[q223_0, q223_1]) e223 (by simp [undef]) ?_
      refine os_cl fn25 (fun_any _ _ _ _ (by first | rfl | assumption) (by first | rfl | assumption) (by first | rfl | assumption) (by first | rfl | assumption) wx) rfl (fun e' w2 hr => ?_)
      obtain ⟨⟨q224_0, q224_1, rfl, hq224_0, hq224_1⟩, hs⟩ := hr
      exact ⟨_, rfl, Same.of_bel hs, ⟨_, _, rfl, (by first | rfl | assumption), (by first | rfl | assumption)⟩, frsh_no⟩
    | 6, _, hoq =>
      obtain rfl : _ = o := Option.some.inj hoq
      have hs0 := hs
      replace hB := hB.tr0 hs
      replace hbs := Nat.le_trans hbs (Same.size hs)
      replace hFr := hFr.of hs (by simp)
      replace hb0 := hb0.tr0 hs
      replace hb1 := hb1.tr0 hs
      replace hb2 := hb2.tr0 hs
      replace hb3 := hb3.tr0 hs
      replace hb4 := hb4.tr0 hs
      replace hb23 := hb23.tr0 hs
      replace hb5 := hb5.tr0 hs
      replace ho := ho.tr0 hs
      clear hs
      have d5 : ∃ x0 x1, gg 224 = .agg #[x0, x1] ∧ x0.oneCell' = true ∧ x1.oneCell' = true := hd 5 (dep_of (by kernel_rfl))
      obtain ⟨q224_0, q224_1, e224, hq224_0, hq224_1⟩ := d5
      refine os_know 224 (.agg #[q224_0, q224_1]) e224 (by simp [undef]) ?_
      refine os_cl fn31 (con_any _ _ _ (by first | rfl | assumption) (by first | rfl | assumption) wx) rfl (fun e' w2 hr => ?_)
      obtain ⟨⟨q225_0, q225_1, q225_2, q225_3, q225_4, q225_5, rfl, hq225_0, hq225_1, hq225_2, hq225_3, hq225_4, hq225_5⟩, hs⟩ := hr
      exact ⟨_, rfl, Same.of_bel hs, ⟨_, _, _, _, _, _, rfl, (by first | rfl | assumption), (by first | rfl | assumption), (by first | rfl | assumption), (by first | rfl | assumption), (by first | rfl | assumption), (by first | rfl | assumption)⟩, frsh_no⟩
    | 7, _, hoq =>
      obtain rfl : _ = o := Option.some.inj hoq
      have hs0 := hs
      replace hB := hB.tr0 hs
      replace hbs := Nat.le_trans hbs (Same.size hs)
      replace hFr := hFr.of hs (by simp)
      replace hb0 := hb0.tr0 hs
      replace hb1 := hb1.tr0 hs
      replace hb2 := hb2.tr0 hs
      replace hb3 := hb3.tr0 hs
      replace hb4 := hb4.tr0 hs
      replace hb23 := hb23.tr0 hs
      replace hb5 := hb5.tr0 hs
      replace ho := ho.tr0 hs
      clear hs
      refine os_wl (fun ops Q K => ?_)
      refine wl_bs (cs := #[_]) [(0, .int _ _)] rfl Tryd.underlying45 sz3 ze3 (by decide) (by decide) (by kernel_rfl) rfl (fun b226 w1 hb226 hs hr => ?_)
      exact K _ _ ⟨hs, ⟨_, rfl, ints_of_blk [14] hb226 (by decide)⟩, fun _ g hg => by cases hg; exact ⟨hr, hb226.lt⟩⟩
    | 8, _, hoq =>
      obtain rfl : _ = o := Option.some.inj hoq
      have hs0 := hs
      replace hB := hB.tr0 hs
      replace hbs := Nat.le_trans hbs (Same.size hs)
      replace hFr := hFr.of hs (by simp)
      replace hb0 := hb0.tr0 hs
      replace hb1 := hb1.tr0 hs
      replace hb2 := hb2.tr0 hs
      replace hb3 := hb3.tr0 hs
      replace hb4 := hb4.tr0 hs
      replace hb23 := hb23.tr0 hs
      replace hb5 := hb5.tr0 hs
      replace ho := ho.tr0 hs
      clear hs
      have d7 : ∃ b, gg 226 = .slice (some ⟨b, 0, none⟩) 1 1 ∧ IntsIn wx (some ⟨b, 0, none⟩) [14] := hd 7 (dep_of (by kernel_rfl))
      obtain ⟨b226, e226, hin226⟩ := d7
      refine os_know 226 (.slice (some ⟨b226, 0, none⟩) 1 1) e226 (by simp [undef]) ?_
      refine os_wl (fun ops Q K => ?_)
      refine wl_bs (cs := #[_]) [(0, .slice _ _ _)] rfl Tryd.underlying82 sz45 ze45 (by decide) (by decide) (by kernel_rfl) rfl (fun b227 w2 hb227 hs hr => ?_)
      exact K _ _ ⟨hs, ⟨_, rfl, rows_of_blk (rs := [[14]]) hb227 (.cons ⟨_, _, rfl, hin226.mono hs.bel, by decide, by decide⟩ .nil) (by decide)⟩, fun _ g hg => by cases hg; exact ⟨hr, hb227.lt⟩⟩
    | _ + 9, hix, _ => exact absurd hix (by omega)
  · intro gg w3 hs hR hdis
    have hs0 := hs
    replace hB := hB.tr0 hs
    replace hbs := Nat.le_trans hbs (Same.size hs)
    replace hFr := hFr.of hs (by simp)
    replace hb0 := hb0.tr0 hs
    replace hb1 := hb1.tr0 hs
    replace hb2 := hb2.tr0 hs
    replace hb3 := hb3.tr0 hs
    replace hb4 := hb4.tr0 hs
    replace hb23 := hb23.tr0 hs
    replace hb5 := hb5.tr0 hs
    replace ho := ho.tr0 hs
    clear hs
    have d0 : gg 219 = .func (.func 29) #[] #[.pointer (some ⟨b5, 0, none⟩)] := hR 0 (by decide)
    have e219 := d0
    have d6 : ∃ x0 x1 x2 x3 x4 x5, gg 225 = .agg #[x0, x1, x2, x3, x4, x5] ∧ x0.oneCell' = true ∧ x1.oneCell' = true ∧ x2.oneCell' = true ∧ x3.oneCell' = true ∧ x4.oneCell' = true ∧ x5.oneCell' = true := hR 6 (by decide)
    obtain ⟨q225_0, q225_1, q225_2, q225_3, q225_4, q225_5, e225, hq225_0, hq225_1, hq225_2, hq225_3, hq225_4, hq225_5⟩ := d6
    have d8 : ∃ b, gg 227 = .slice (some ⟨b, 0, none⟩) 1 1 ∧ RowsIn w3 (some ⟨b, 0, none⟩) [[14]] := hR 8 (by decide)
    obtain ⟨b227, e227, hrw227⟩ := d8
    refine wl_know 219 (.func (.func 29) #[] #[.pointer (some ⟨b5, 0, none⟩)]) e219 (by simp [undef]) ?_
    refine wl_know 225 (.agg #[q225_0, q225_1, q225_2, q225_3, q225_4, q225_5]) e225 (by simp [undef]) ?_
    refine wl_know 227 (.slice (some ⟨b227, 0, none⟩) 1 1) e227 (by simp [undef]) ?_
    refine wl_clv rfl fn29 (add_any _ _ _ _ _ _ _ _ (by first | rfl | assumption) (by first | rfl | assumption) (by first | rfl | assumption) (by first | rfl | assumption) (by first | rfl | assumption) (by first | rfl | assumption) _ _ [[14]] _ _ base _ _ _ _ _ _ _ _ hrw227 hb5 ho hbs hl5 (by decide)) rfl rfl (fun e' w4 hr => ?_)
    obtain ⟨rfl, A2, cap2, xs2, hb5n, hon, hS, hA2⟩ := hr
    replace hB := hB.tr hS (fun x hx => by
      rcases List.mem_cons.1 hx with e | hx
      · rw [e]; exact lo5
      · exact Nat.le_trans hlo (ho.lt _ hx).1)
    replace hbs := Nat.le_trans hbs hS.size
    replace hFr := hFr.of hS (fun x hx => by
      rcases List.mem_cons.1 hx with e | hx
      · exact .inl (by rw [e]; exact z5)
      · exact .inr (Nat.le_trans hFb (ho.lt _ hx).1))
    replace hb0 := hb0.tr hS (fun hx => by
      rcases List.mem_cons.1 hx with e | hx
      · omega
      · have := (ho.lt _ hx).1; omega)
    replace hb1 := hb1.tr hS (fun hx => by
      rcases List.mem_cons.1 hx with e | hx
      · omega
      · have := (ho.lt _ hx).1; omega)
    replace hb2 := hb2.tr hS (fun hx => by
      rcases List.mem_cons.1 hx with e | hx
      · omega
      · have := (ho.lt _ hx).1; omega)
    replace hb3 := hb3.tr hS (fun hx => by
      rcases List.mem_cons.1 hx with e | hx
      · omega
      · have := (ho.lt _ hx).1; omega)
    replace hb4 := hb4.tr hS (fun hx => by
      rcases List.mem_cons.1 hx with e | hx
      · omega
      · have := (ho.lt _ hx).1; omega)
    replace hb23 := hb23.tr hS (fun hx => by
      rcases List.mem_cons.1 hx with e | hx
      · omega
      · have := (ho.lt _ hx).1; omega)
    replace hb5 := hb5n
    replace ho := hon
    refine ⟨_, rfl, ?_⟩
    refine x_nil ?_
    refine e_R ⟨(by repeat (first | exact ag_refl | exact ag_ovr' | refine ag_upd rfl ?_ | refine ag_sub rfl ?_ | refine ag_kn (by assumption) ?_)), ?_⟩
    exact ⟨hB, hbs, hFr, hb0, hb1, hb2, hb3, hb4, hb23, _, _, _, hb5, ho⟩

set_option maxHeartbeats 1000000 in
theorem small_r28 {w wc wZ : World} {base Z0 b0 b1 b2 b3 b4 b5 b23 b93 capt cap : Nat} {At A : Option Addr} {p12 q12 p15 q15 : Value} {xs : List Value} (hB : Bel w wc) (hbs : base ≤ wc.heap.size) (hFr : FrSame Z0 wZ wc) (hb0 : Blk wc b0 36 #[.slice none 0 0, .slice none 0 0, .slice none 0 0, .slice none 0 0, .slice none 0 0]) (hb1 : Blk wc b1 70 #[.string ⟨#[101]⟩, .slice none 0 0]) (hb2 : Blk wc b2 70 #[.string ⟨#[116]⟩, .slice none 0 0]) (hb3 : Blk wc b3 70 #[p12, q12]) (hb4 : Blk wc b4 70 #[p15, q15]) (hb23 : Blk wc b23 63 (smallF.flatMap (fun f => [Value.string f.name, .int .i64 f.of, .int .i64 f.val])).toArray) (hb5 : Blk wc b5 36 #[.slice At 15 capt, .slice (some ⟨b23, 0, none⟩) 5 5, .slice (some ⟨b93, 0, none⟩) 6 6, .slice A 19 cap, .slice none 0 0]) (ho : Own wc base 84 9 A 19 cap xs) (hp12 : p12.oneCell' = true) (hq12 : q12.oneCell' = true) (hp15 : p15.oneCell' = true) (hq15 : q15.oneCell' = true) (z5 : b5 < Z0) (lo5 : w.heap.size ≤ b5) (o0 : b0 < b5) (o1 : b1 < b5) (o2 : b2 < b5) (o3 : b3 < b5) (o4 : b4 < b5) (o23 : b5 < b23) (hlo : w.heap.size ≤ base) (hFb : wZ.heap.size ≤ base) (hl0 : b0 < base) (hl1 : b1 < base) (hl2 : b2 < base) (hl3 : b3 < base) (hl4 : b4 < base) (hl5 : b5 < base) (hl23 : b23 < base)  (f : Fr) (Q : Exit → Act → World → Prop) (k7 : f 7 = .func (.func 29) #[] #[.pointer (some ⟨b5, 0, none⟩)]) (k1 : f 1 = .pointer (some ⟨b1, 0, none⟩)) (k3 : f 3 = .pointer (some ⟨b3, 0, none⟩)) : WC Tryd.prog (sl (sr (sr (sr (sr (sr (sr (sr (sr (sr (sr (sr (sr (sr (sr (sr (sr (sr (sr (sr (sr (sr (sr (sr (sr (sr (sr (sr (sr (ob Tryd.f9.body)))))))))))))))))))))))))))))) (QRS 256 [229, 230, 231, 232, 233, 234, 235, 236, 237, 238, 239] f (fun g w' => Bel w w' ∧ base ≤ w'.heap.size ∧ FrSame Z0 wZ w' ∧ Blk w' b0 36 #[.slice none 0 0, .slice none 0 0, .slice none 0 0, .slice none 0 0, .slice none 0 0] ∧ Blk w' b1 70 #[.string ⟨#[101]⟩, .slice none 0 0] ∧ Blk w' b2 70 #[.string ⟨#[116]⟩, .slice none 0 0] ∧ Blk w' b3 70 #[p12, q12] ∧ Blk w' b4 70 #[p15, q15] ∧ Blk w' b23 63 (smallF.flatMap (fun f => [Value.string f.name, .int .i64 f.of, .int .i64 f.val])).toArray ∧ ∃ A cap xs, Blk w' b5 36 #[.slice At 15 capt, .slice (some ⟨b23, 0, none⟩) 5 5, .slice (some ⟨b93, 0, none⟩) 6 6, .slice A 20 cap, .slice none 0 0] ∧ Own w' base 84 9 A 20 cap xs) Q) 256 f wc := by
  refine c_know 7 (.func (.func 29) #[] #[.pointer (some ⟨b5, 0, none⟩)]) k7 (by simp [undef]) ?_
  refine c_know 1 (.pointer (some ⟨b1, 0, none⟩)) k1 (by simp [undef]) ?_
  refine c_know 3 (.pointer (some ⟨b3, 0, none⟩)) k3 (by simp [undef]) ?_
  have hsz := Bel.size hB
  refine c_monoTO 10 [229, 230, 231, 232, 233, 234, 235, 236, 237, 238] (fun _ => false) (fun ix v wv => match ix with | 0 => v = .func (.func 29) #[] #[.pointer (some ⟨b5, 0, none⟩)] | 1 => ∃ x0 x1, v = .agg #[x0, x1] ∧ x0.oneCell' = true ∧ x1.oneCell' = true | 2 => ∃ x0 x1 x2 x3 x4 x5, v = .agg #[x0, x1, x2, x3, x4, x5] ∧ x0.oneCell' = true ∧ x1.oneCell' = true ∧ x2.oneCell' = true ∧ x3.oneCell' = true ∧ x4.oneCell' = true ∧ x5.oneCell' = true | 3 => ∃ x0 x1, v = .agg #[x0, x1] ∧ x0.oneCell' = true ∧ x1.oneCell' = true | 4 => ∃ x0 x1 x2 x3 x4 x5, v = .agg #[x0, x1, x2, x3, x4, x5] ∧ x0.oneCell' = true ∧ x1.oneCell' = true ∧ x2.oneCell' = true ∧ x3.oneCell' = true ∧ x4.oneCell' = true ∧ x5.oneCell' = true | 5 => ∃ x0 x1 x2 x3 x4 x5, v = .agg #[x0, x1, x2, x3, x4, x5] ∧ x0.oneCell' = true ∧ x1.oneCell' = true ∧ x2.oneCell' = true ∧ x3.oneCell' = true ∧ x4.oneCell' = true ∧ x5.oneCell' = true | 6 => ∃ x0 x1 x2 x3 x4 x5, v = .agg #[x0, x1, x2, x3, x4, x5] ∧ x0.oneCell' = true ∧ x1.oneCell' = true ∧ x2.oneCell' = true ∧ x3.oneCell' = true ∧ x4.oneCell' = true ∧ x5.oneCell' = true | 7 => ∃ b, v = .slice (some ⟨b, 0, none⟩) 3 3 ∧ IntsIn wv (some ⟨b, 0, none⟩) [7, 4, 1] | 8 => ∃ b, v = .slice (some ⟨b, 0, none⟩) 1 1 ∧ IntsIn wv (some ⟨b, 0, none⟩) [4] | 9 => ∃ b, v = .slice (some ⟨b, 0, none⟩) 2 2 ∧ RowsIn wv (some ⟨b, 0, none⟩) [[7, 4, 1], [4]] | _ => True) (by kernel_rfl) (by kernel_rfl) ?_ ?_ ?_
  · intro ix v wv wv2 h hs
    match ix, h with
    | 0, h => exact h
    | 1, h => exact h
    | 2, h => exact h
    | 3, h => exact h
    | 4, h => exact h
    | 5, h => exact h
    | 6, h => exact h
    | 7, h =>
      obtain ⟨b236, e236, hin236⟩ := (show ∃ b, v = .slice (some ⟨b, 0, none⟩) 3 3 ∧ IntsIn wv (some ⟨b, 0, none⟩) [7, 4, 1] from h)
      exact ⟨b236, e236, hin236.mono hs.bel⟩
    | 8, h =>
      obtain ⟨b237, e237, hin237⟩ := (show ∃ b, v = .slice (some ⟨b, 0, none⟩) 1 1 ∧ IntsIn wv (some ⟨b, 0, none⟩) [4] from h)
      exact ⟨b237, e237, hin237.mono hs.bel⟩
    | 9, h =>
      obtain ⟨b238, e238, hrw238⟩ := (show ∃ b, v = .slice (some ⟨b, 0, none⟩) 2 2 ∧ RowsIn wv (some ⟨b, 0, none⟩) [[7, 4, 1], [4]] from h)
      exact ⟨b238, e238, hrw238.mono hs.bel⟩
    | _ + 10, h => exact trivial
  · intro ix o hix hoq gg wx hs hd hdis
    match ix, hix, hoq with
    | 0, _, hoq =>
      obtain rfl : _ = o := Option.some.inj hoq
      have hs0 := hs
      replace hB := hB.tr0 hs
      replace hbs := Nat.le_trans hbs (Same.size hs)
      replace hFr := hFr.of hs (by simp)
      replace hb0 := hb0.tr0 hs
      replace hb1 := hb1.tr0 hs
      replace hb2 := hb2.tr0 hs
      replace hb3 := hb3.tr0 hs
      replace hb4 := hb4.tr0 hs
      replace hb23 := hb23.tr0 hs
      replace hb5 := hb5.tr0 hs
      replace ho := ho.tr0 hs
      clear hs
      refine os_rv (r_mv (v := .func _ _ _) rfl) ⟨Same.refl _ _, ?_, frsh_no⟩
      exact rfl
    | 1, _, hoq =>
      obtain rfl : _ = o := Option.some.inj hoq
      have hs0 := hs
      replace hB := hB.tr0 hs
      replace hbs := Nat.le_trans hbs (Same.size hs)
      replace hFr := hFr.of hs (by simp)
      replace hb0 := hb0.tr0 hs
      replace hb1 := hb1.tr0 hs
      replace hb2 := hb2.tr0 hs
      replace hb3 := hb3.tr0 hs
      replace hb4 := hb4.tr0 hs
      replace hb23 := hb23.tr0 hs
      replace hb5 := hb5.tr0 hs
      replace ho := ho.tr0 hs
      clear hs
      refine os_rv (r_ldS Tryd.underlying70 rfl rfl hb3.range0 sz70) ⟨Same.refl _ _, ?_, frsh_no⟩
      exact ⟨_, _, rfl, (by first | rfl | assumption), (by first | rfl | assumption)⟩
    | 2, _, hoq =>
      obtain rfl : _ = o := Option.some.inj hoq
      have hs0 := hs
      replace hB := hB.tr0 hs
      replace hbs := Nat.le_trans hbs (Same.size hs)
      replace hFr := hFr.of hs (by simp)
      replace hb0 := hb0.tr0 hs
      replace hb1 := hb1.tr0 hs
      replace hb2 := hb2.tr0 hs
      replace hb3 := hb3.tr0 hs
      replace hb4 := hb4.tr0 hs
      replace hb23 := hb23.tr0 hs
      replace hb5 := hb5.tr0 hs
      replace ho := ho.tr0 hs
      clear hs
      refine os_cl fn34 (bound_any _  wx) rfl (fun e' w2 hr => ?_)
      obtain ⟨⟨q231_0, q231_1, q231_2, q231_3, q231_4, q231_5, rfl, hq231_0, hq231_1, hq231_2, hq231_3, hq231_4, hq231_5⟩, hs⟩ := hr
      exact ⟨_, rfl, Same.of_bel hs, ⟨_, _, _, _, _, _, rfl, (by first | rfl | assumption), (by first | rfl | assumption), (by first | rfl | assumption), (by first | rfl | assumption), (by first | rfl | assumption), (by first | rfl | assumption)⟩, frsh_no⟩
    | 3, _, hoq =>
      obtain rfl : _ = o := Option.some.inj hoq
      have hs0 := hs
      replace hB := hB.tr0 hs
      replace hbs := Nat.le_trans hbs (Same.size hs)
      replace hFr := hFr.of hs (by simp)
      replace hb0 := hb0.tr0 hs
      replace hb1 := hb1.tr0 hs
      replace hb2 := hb2.tr0 hs
      replace hb3 := hb3.tr0 hs
      replace hb4 := hb4.tr0 hs
      replace hb23 := hb23.tr0 hs
      replace hb5 := hb5.tr0 hs
      replace ho := ho.tr0 hs
      clear hs
      refine os_rv (r_ldS Tryd.underlying70 rfl rfl hb1.range0 sz70) ⟨Same.refl _ _, ?_, frsh_no⟩
      exact ⟨_, _, rfl, (by first | rfl | assumption), (by first | rfl | assumption)⟩
    | 4, _, hoq =>
      obtain rfl : _ = o := Option.some.inj hoq
      have hs0 := hs
      replace hB := hB.tr0 hs
      replace hbs := Nat.le_trans hbs (Same.size hs)
      replace hFr := hFr.of hs (by simp)
      replace hb0 := hb0.tr0 hs
      replace hb1 := hb1.tr0 hs
      replace hb2 := hb2.tr0 hs
      replace hb3 := hb3.tr0 hs
      replace hb4 := hb4.tr0 hs
      replace hb23 := hb23.tr0 hs
      replace hb5 := hb5.tr0 hs
      replace ho := ho.tr0 hs
      clear hs
      have d3 : ∃ x0 x1, gg 232 = .agg #[x0, x1] ∧ x0.oneCell' = true ∧ x1.oneCell' = true := hd 3 (dep_of (by kernel_rfl))
      obtain ⟨q232_0, q232_1, e232, hq232_0, hq232_1⟩ := d3
      refine os_know 232 (.agg #[q232_0, q232_1]) e232 (by simp [undef]) ?_
      refine os_cl fn31 (con_any _ _ _ (by first | rfl | assumption) (by first | rfl | assumption) wx) rfl (fun e' w2 hr => ?_)
      obtain ⟨⟨q233_0, q233_1, q233_2, q233_3, q233_4, q233_5, rfl, hq233_0, hq233_1, hq233_2, hq233_3, hq233_4, hq233_5⟩, hs⟩ := hr
      exact ⟨_, rfl, Same.of_bel hs, ⟨_, _, _, _, _, _, rfl, (by first | rfl | assumption), (by first | rfl | assumption), (by first | rfl | assumption), (by first | rfl | assumption), (by first | rfl | assumption), (by first | rfl | assumption)⟩, frsh_no⟩
    | 5, _, hoq =>
      obtain rfl : _ = o := Option.some.inj hoq
      have hs0 := hs
      replace hB := hB.tr0 hs
      replace hbs := Nat.le_trans hbs (Same.size hs)
      replace hFr := hFr.of hs (by simp)
      replace hb0 := hb0.tr0 hs
      replace hb1 := hb1.tr0 hs
      replace hb2 := hb2.tr0 hs
      replace hb3 := hb3.tr0 hs
      replace hb4 := hb4.tr0 hs
      replace hb23 := hb23.tr0 hs
      replace hb5 := hb5.tr0 hs
      replace ho := ho.tr0 hs
      clear hs
      have d2 : ∃ x0 x1 x2 x3 x4 x5, gg 231 = .agg #[x0, x1, x2, x3, x4, x5] ∧ x0.oneCell' = true ∧ x1.oneCell' = true ∧ x2.oneCell' = true ∧ x3.oneCell' = true ∧ x4.oneCell' = true ∧ x5.oneCell' = true := hd 2 (dep_of (by kernel_rfl))
      obtain ⟨q231_0, q231_1, q231_2, q231_3, q231_4, q231_5, e231, hq231_0, hq231_1, hq231_2, hq231_3, hq231_4, hq231_5⟩ := d2
      have d4 : ∃ x0 x1 x2 x3 x4 x5, gg 233 = .agg #[x0, x1, x2, x3, x4, x5] ∧ x0.oneCell' = true ∧ x1.oneCell' = true ∧ x2.oneCell' = true ∧ x3.oneCell' = true ∧ x4.oneCell' = true ∧ x5.oneCell' = true := hd 4 (dep_of (by kernel_rfl))
      obtain ⟨q233_0, q233_1, q233_2, q233_3, q233_4, q233_5, e233, hq233_0, hq233_1, hq233_2, hq233_3, hq233_4, hq233_5⟩ := d4
      refine os_know 231 (.agg #[q231_0, q231_1, q231_2, q231_3, q231_4, q231_5]) e231 (by simp [undef]) ?_
      refine os_know 233 (.agg #[q233_0, q233_1, q233_2, q233_3, q233_4, q233_5]) e233 (by simp [undef]) ?_
      refine os_cl fn33 (app_any _ _ _ _ _ _ _ _ _ _ _ _ (by first | rfl | assumption) (by first | rfl | assumption) (by first | rfl | assumption) (by first | rfl | assumption) (by first | rfl | assumption) (by first | rfl | assumption) (by first | rfl | assumption) (by first | rfl | assumption) (by first | rfl | assumption) (by first | rfl | assumption) (by first | rfl | assumption) (by first | rfl | assumption) wx) rfl (fun e' w2 hr => ?_)
      obtain ⟨⟨q234_0, q234_1, q234_2, q234_3, q234_4, q234_5, rfl, hq234_0, hq234_1, hq234_2, hq234_3, hq234_4, hq234_5⟩, hs⟩ := hr
      exact ⟨_, rfl, Same.of_bel hs, ⟨_, _, _, _, _, _, rfl, (by first | rfl | assumption), (by first | rfl | assumption), (by first | rfl | assumption), (by first | rfl | assumption), (by first | rfl | assumption), (by first | rfl | assumption)⟩, frsh_no⟩
    | 6, _, hoq =>
      obtain rfl : _ = o := Option.some.inj hoq
      have hs0 := hs
      replace hB := hB.tr0 hs
      replace hbs := Nat.le_trans hbs (Same.size hs)
      replace hFr := hFr.of hs (by simp)
      replace hb0 := hb0.tr0 hs
      replace hb1 := hb1.tr0 hs
      replace hb2 := hb2.tr0 hs
      replace hb3 := hb3.tr0 hs
      replace hb4 := hb4.tr0 hs
      replace hb23 := hb23.tr0 hs
      replace hb5 := hb5.tr0 hs
      replace ho := ho.tr0 hs
      clear hs
      have d1 : ∃ x0 x1, gg 230 = .agg #[x0, x1] ∧ x0.oneCell' = true ∧ x1.oneCell' = true := hd 1 (dep_of (by kernel_rfl))
      obtain ⟨q230_0, q230_1, e230, hq230_0, hq230_1⟩ := d1
      have d5 : ∃ x0 x1 x2 x3 x4 x5, gg 234 = .agg #[x0, x1, x2, x3, x4, x5] ∧ x0.oneCell' = true ∧ x1.oneCell' = true ∧ x2.oneCell' = true ∧ x3.oneCell' = true ∧ x4.oneCell' = true ∧ x5.oneCell' = true := hd 5 (dep_of (by kernel_rfl))
      obtain ⟨q234_0, q234_1, q234_2, q234_3, q234_4, q234_5, e234, hq234_0, hq234_1, hq234_2, hq234_3, hq234_4, hq234_5⟩ := d5
      refine os_know 230 (.agg #[q230_0, q230_1]) e230 (by simp [undef]) ?_
      refine os_know 234 (.agg #[q234_0, q234_1, q234_2, q234_3, q234_4, q234_5]) e234 (by simp [undef]) ?_
      refine os_cl fn32 (abs_any _ _ _ _ _ _ _ _ (by first | rfl | assumption) (by first | rfl | assumption) (by first | rfl | assumption) (by first | rfl | assumption) (by first | rfl | assumption) (by first | rfl | assumption) (by first | rfl | assumption) (by first | rfl | assumption) wx) rfl (fun e' w2 hr => ?_)
      obtain ⟨⟨q235_0, q235_1, q235_2, q235_3, q235_4, q235_5, rfl, hq235_0, hq235_1, hq235_2, hq235_3, hq235_4, hq235_5⟩, hs⟩ := hr
      exact ⟨_, rfl, Same.of_bel hs, ⟨_, _, _, _, _, _, rfl, (by first | rfl | assumption), (by first | rfl | assumption), (by first | rfl | assumption), (by first | rfl | assumption), (by first | rfl | assumption), (by first | rfl | assumption)⟩, frsh_no⟩
    | 7, _, hoq =>
      obtain rfl : _ = o := Option.some.inj hoq
      have hs0 := hs
      replace hB := hB.tr0 hs
      replace hbs := Nat.le_trans hbs (Same.size hs)
      replace hFr := hFr.of hs (by simp)
      replace hb0 := hb0.tr0 hs
      replace hb1 := hb1.tr0 hs
      replace hb2 := hb2.tr0 hs
      replace hb3 := hb3.tr0 hs
      replace hb4 := hb4.tr0 hs
      replace hb23 := hb23.tr0 hs
      replace hb5 := hb5.tr0 hs
      replace ho := ho.tr0 hs
      clear hs
      refine os_wl (fun ops Q K => ?_)
      refine wl_bs (cs := #[_, _, _]) [(0, .int _ _), (1, .int _ _), (2, .int _ _)] rfl Tryd.underlying45 sz3 ze3 (by decide) (by decide) (by kernel_rfl) rfl (fun b236 w1 hb236 hs hr => ?_)
      exact K _ _ ⟨hs, ⟨_, rfl, ints_of_blk [7, 4, 1] hb236 (by decide)⟩, fun _ g hg => by cases hg; exact ⟨hr, hb236.lt⟩⟩
    | 8, _, hoq =>
      obtain rfl : _ = o := Option.some.inj hoq
      have hs0 := hs
      replace hB := hB.tr0 hs
      replace hbs := Nat.le_trans hbs (Same.size hs)
      replace hFr := hFr.of hs (by simp)
      replace hb0 := hb0.tr0 hs
      replace hb1 := hb1.tr0 hs
      replace hb2 := hb2.tr0 hs
      replace hb3 := hb3.tr0 hs
      replace hb4 := hb4.tr0 hs
      replace hb23 := hb23.tr0 hs
      replace hb5 := hb5.tr0 hs
      replace ho := ho.tr0 hs
      clear hs
      refine os_wl (fun ops Q K => ?_)
      refine wl_bs (cs := #[_]) [(0, .int _ _)] rfl Tryd.underlying45 sz3 ze3 (by decide) (by decide) (by kernel_rfl) rfl (fun b237 w2 hb237 hs hr => ?_)
      exact K _ _ ⟨hs, ⟨_, rfl, ints_of_blk [4] hb237 (by decide)⟩, fun _ g hg => by cases hg; exact ⟨hr, hb237.lt⟩⟩
    | 9, _, hoq =>
      obtain rfl : _ = o := Option.some.inj hoq
      have hs0 := hs
      replace hB := hB.tr0 hs
      replace hbs := Nat.le_trans hbs (Same.size hs)
      replace hFr := hFr.of hs (by simp)
      replace hb0 := hb0.tr0 hs
      replace hb1 := hb1.tr0 hs
      replace hb2 := hb2.tr0 hs
      replace hb3 := hb3.tr0 hs
      replace hb4 := hb4.tr0 hs
      replace hb23 := hb23.tr0 hs
      replace hb5 := hb5.tr0 hs
      replace ho := ho.tr0 hs
      clear hs
      have d7 : ∃ b, gg 236 = .slice (some ⟨b, 0, none⟩) 3 3 ∧ IntsIn wx (some ⟨b, 0, none⟩) [7, 4, 1] := hd 7 (dep_of (by kernel_rfl))
      obtain ⟨b236, e236, hin236⟩ := d7
      have d8 : ∃ b, gg 237 = .slice (some ⟨b, 0, none⟩) 1 1 ∧ IntsIn wx (some ⟨b, 0, none⟩) [4] := hd 8 (dep_of (by kernel_rfl))
      obtain ⟨b237, e237, hin237⟩ := d8
      refine os_know 236 (.slice (some ⟨b236, 0, none⟩) 3 3) e236 (by simp [undef]) ?_
      refine os_know 237 (.slice (some ⟨b237, 0, none⟩) 1 1) e237 (by simp [undef]) ?_
      refine os_wl (fun ops Q K => ?_)
      refine wl_bs (cs := #[_, _]) [(0, .slice _ _ _), (1, .slice _ _ _)] rfl Tryd.underlying82 sz45 ze45 (by decide) (by decide) (by kernel_rfl) rfl (fun b238 w3 hb238 hs hr => ?_)
      exact K _ _ ⟨hs, ⟨_, rfl, rows_of_blk (rs := [[7, 4, 1], [4]]) hb238 (.cons ⟨_, _, rfl, hin236.mono hs.bel, by decide, by decide⟩ (.cons ⟨_, _, rfl, hin237.mono hs.bel, by decide, by decide⟩ .nil)) (by decide)⟩, fun _ g hg => by cases hg; exact ⟨hr, hb238.lt⟩⟩
    | _ + 10, hix, _ => exact absurd hix (by omega)
  · intro gg w4 hs hR hdis
    have hs0 := hs
    replace hB := hB.tr0 hs
    replace hbs := Nat.le_trans hbs (Same.size hs)
    replace hFr := hFr.of hs (by simp)
    replace hb0 := hb0.tr0 hs
    replace hb1 := hb1.tr0 hs
    replace hb2 := hb2.tr0 hs
    replace hb3 := hb3.tr0 hs
    replace hb4 := hb4.tr0 hs
    replace hb23 := hb23.tr0 hs
    replace hb5 := hb5.tr0 hs
    replace ho := ho.tr0 hs
    clear hs
    have d0 : gg 229 = .func (.func 29) #[] #[.pointer (some ⟨b5, 0, none⟩)] := hR 0 (by decide)
    have e229 := d0
    have d6 : ∃ x0 x1 x2 x3 x4 x5, gg 235 = .agg #[x0, x1, x2, x3, x4, x5] ∧ x0.oneCell' = true ∧ x1.oneCell' = true ∧ x2.oneCell' = true ∧ x3.oneCell' = true ∧ x4.oneCell' = true ∧ x5.oneCell' = true := hR 6 (by decide)
    obtain ⟨q235_0, q235_1, q235_2, q235_3, q235_4, q235_5, e235, hq235_0, hq235_1, hq235_2, hq235_3, hq235_4, hq235_5⟩ := d6
    have d9 : ∃ b, gg 238 = .slice (some ⟨b, 0, none⟩) 2 2 ∧ RowsIn w4 (some ⟨b, 0, none⟩) [[7, 4, 1], [4]] := hR 9 (by decide)
    obtain ⟨b238, e238, hrw238⟩ := d9
    refine wl_know 229 (.func (.func 29) #[] #[.pointer (some ⟨b5, 0, none⟩)]) e229 (by simp [undef]) ?_
    refine wl_know 235 (.agg #[q235_0, q235_1, q235_2, q235_3, q235_4, q235_5]) e235 (by simp [undef]) ?_
    refine wl_know 238 (.slice (some ⟨b238, 0, none⟩) 2 2) e238 (by simp [undef]) ?_
    refine wl_clv rfl fn29 (add_any _ _ _ _ _ _ _ _ (by first | rfl | assumption) (by first | rfl | assumption) (by first | rfl | assumption) (by first | rfl | assumption) (by first | rfl | assumption) (by first | rfl | assumption) _ _ [[7, 4, 1], [4]] _ _ base _ _ _ _ _ _ _ _ hrw238 hb5 ho hbs hl5 (by decide)) rfl rfl (fun e' w5 hr => ?_)
    obtain ⟨rfl, A2, cap2, xs2, hb5n, hon, hS, hA2⟩ := hr
    replace hB := hB.tr hS (fun x hx => by
      rcases List.mem_cons.1 hx with e | hx
      · rw [e]; exact lo5
      · exact Nat.le_trans hlo (ho.lt _ hx).1)
    replace hbs := Nat.le_trans hbs hS.size
    replace hFr := hFr.of hS (fun x hx => by
      rcases List.mem_cons.1 hx with e | hx
      · exact .inl (by rw [e]; exact z5)
      · exact .inr (Nat.le_trans hFb (ho.lt _ hx).1))
    replace hb0 := hb0.tr hS (fun hx => by
      rcases List.mem_cons.1 hx with e | hx
      · omega
      · have := (ho.lt _ hx).1; omega)
    replace hb1 := hb1.tr hS (fun hx => by
      rcases List.mem_cons.1 hx with e | hx
      · omega
      · have := (ho.lt _ hx).1; omega)
    replace hb2 := hb2.tr hS (fun hx => by
      rcases List.mem_cons.1 hx with e | hx
      · omega
      · have := (ho.lt _ hx).1; omega)
    replace hb3 := hb3.tr hS (fun hx => by
      rcases List.mem_cons.1 hx with e | hx
      · omega
      · have := (ho.lt _ hx).1; omega)
    replace hb4 := hb4.tr hS (fun hx => by
      rcases List.mem_cons.1 hx with e | hx
      · omega
      · have := (ho.lt _ hx).1; omega)
    replace hb23 := hb23.tr hS (fun hx => by
      rcases List.mem_cons.1 hx with e | hx
      · omega
      · have := (ho.lt _ hx).1; omega)
    replace hb5 := hb5n
    replace ho := hon
    refine ⟨_, rfl, ?_⟩
    refine x_nil ?_
    refine e_R ⟨(by repeat (first | exact ag_refl | exact ag_ovr' | refine ag_upd rfl ?_ | refine ag_sub rfl ?_ | refine ag_kn (by assumption) ?_)), ?_⟩
    exact ⟨hB, hbs, hFr, hb0, hb1, hb2, hb3, hb4, hb23, _, _, _, hb5, ho⟩

set_option maxHeartbeats 1000000 in
theorem small_r29 {w wc wZ : World} {base Z0 b0 b1 b2 b3 b4 b5 b23 b93 capt cap : Nat} {At A : Option Addr} {p12 q12 p15 q15 : Value} {xs : List Value} (hB : Bel w wc) (hbs : base ≤ wc.heap.size) (hFr : FrSame Z0 wZ wc) (hb0 : Blk wc b0 36 #[.slice none 0 0, .slice none 0 0, .slice none 0 0, .slice none 0 0, .slice none 0 0]) (hb1 : Blk wc b1 70 #[.string ⟨#[101]⟩, .slice none 0 0]) (hb2 : Blk wc b2 70 #[.string ⟨#[116]⟩, .slice none 0 0]) (hb3 : Blk wc b3 70 #[p12, q12]) (hb4 : Blk wc b4 70 #[p15, q15]) (hb23 : Blk wc b23 63 (smallF.flatMap (fun f => [Value.string f.name, .int .i64 f.of, .int .i64 f.val])).toArray) (hb5 : Blk wc b5 36 #[.slice At 15 capt, .slice (some ⟨b23, 0, none⟩) 5 5, .slice (some ⟨b93, 0, none⟩) 6 6, .slice A 20 cap, .slice none 0 0]) (ho : Own wc base 84 9 A 20 cap xs) (hp12 : p12.oneCell' = true) (hq12 : q12.oneCell' = true) (hp15 : p15.oneCell' = true) (hq15 : q15.oneCell' = true) (z5 : b5 < Z0) (lo5 : w.heap.size ≤ b5) (o0 : b0 < b5) (o1 : b1 < b5) (o2 : b2 < b5) (o3 : b3 < b5) (o4 : b4 < b5) (o23 : b5 < b23) (hlo : w.heap.size ≤ base) (hFb : wZ.heap.size ≤ base) (hl0 : b0 < base) (hl1 : b1 < base) (hl2 : b2 < base) (hl3 : b3 < base) (hl4 : b4 < base) (hl5 : b5 < base) (hl23 : b23 < base)  (f : Fr) (Q : Exit → Act → World → Prop) (k7 : f 7 = .func (.func 29) #[] #[.pointer (some ⟨b5, 0, none⟩)]) (k1 : f 1 = .pointer (some ⟨b1, 0, none⟩)) (k3 : f 3 = .pointer (some ⟨b3, 0, none⟩)) : WC Tryd.prog (sl (sr (sr (sr (sr (sr (sr (sr (sr (sr (sr (sr (sr (sr (sr (sr (sr (sr (sr (sr (sr (sr (sr (sr (sr (sr (sr (sr (sr (sr (ob Tryd.f9.body))))))))))))))))))))))))))))))) (QRS 256 [240, 241, 242, 243, 244, 245, 246, 247, 248, 249, 250] f (fun g w' => Bel w w' ∧ base ≤ w'.heap.size ∧ FrSame Z0 wZ w' ∧ Blk w' b0 36 #[.slice none 0 0, .slice none 0 0, .slice none 0 0, .slice none 0 0, .slice none 0 0] ∧ Blk w' b1 70 #[.string ⟨#[101]⟩, .slice none 0 0] ∧ Blk w' b2 70 #[.string ⟨#[116]⟩, .slice none 0 0] ∧ Blk w' b3 70 #[p12, q12] ∧ Blk w' b4 70 #[p15, q15] ∧ Blk w' b23 63 (smallF.flatMap (fun f => [Value.string f.name, .int .i64 f.of, .int .i64 f.val])).toArray ∧ ∃ A cap xs, Blk w' b5 36 #[.slice At 15 capt, .slice (some ⟨b23, 0, none⟩) 5 5, .slice (some ⟨b93, 0, none⟩) 6 6, .slice A 21 cap, .slice none 0 0] ∧ Own w' base 84 9 A 21 cap xs) Q) 256 f wc := by
  refine c_know 7 (.func (.func 29) #[] #[.pointer (some ⟨b5, 0, none⟩)]) k7 (by simp [undef]) ?_
  refine c_know 1 (.pointer (some ⟨b1, 0, none⟩)) k1 (by simp [undef]) ?_
  refine c_know 3 (.pointer (some ⟨b3, 0, none⟩)) k3 (by simp [undef]) ?_
  have hsz := Bel.size hB
  refine c_monoTO 10 [240, 241, 242, 243, 244, 245, 246, 247, 248, 249] (fun _ => false) (fun ix v wv => match ix with | 0 => v = .func (.func 29) #[] #[.pointer (some ⟨b5, 0, none⟩)] | 1 => ∃ x0 x1, v = .agg #[x0, x1] ∧ x0.oneCell' = true ∧ x1.oneCell' = true | 2 => ∃ x0 x1 x2 x3 x4 x5, v = .agg #[x0, x1, x2, x3, x4, x5] ∧ x0.oneCell' = true ∧ x1.oneCell' = true ∧ x2.oneCell' = true ∧ x3.oneCell' = true ∧ x4.oneCell' = true ∧ x5.oneCell' = true | 3 => ∃ x0 x1, v = .agg #[x0, x1] ∧ x0.oneCell' = true ∧ x1.oneCell' = true | 4 => ∃ x0 x1 x2 x3 x4 x5, v = .agg #[x0, x1, x2, x3, x4, x5] ∧ x0.oneCell' = true ∧ x1.oneCell' = true ∧ x2.oneCell' = true ∧ x3.oneCell' = true ∧ x4.oneCell' = true ∧ x5.oneCell' = true | 5 => ∃ x0 x1 x2 x3 x4 x5, v = .agg #[x0, x1, x2, x3, x4, x5] ∧ x0.oneCell' = true ∧ x1.oneCell' = true ∧ x2.oneCell' = true ∧ x3.oneCell' = true ∧ x4.oneCell' = true ∧ x5.oneCell' = true | 6 => ∃ x0 x1 x2 x3 x4 x5, v = .agg #[x0, x1, x2, x3, x4, x5] ∧ x0.oneCell' = true ∧ x1.oneCell' = true ∧ x2.oneCell' = true ∧ x3.oneCell' = true ∧ x4.oneCell' = true ∧ x5.oneCell' = true | 7 => ∃ b, v = .slice (some ⟨b, 0, none⟩) 3 3 ∧ IntsIn wv (some ⟨b, 0, none⟩) [7, 4, 1] | 8 => ∃ b, v = .slice (some ⟨b, 0, none⟩) 1 1 ∧ IntsIn wv (some ⟨b, 0, none⟩) [4] | 9 => ∃ b, v = .slice (some ⟨b, 0, none⟩) 2 2 ∧ RowsIn wv (some ⟨b, 0, none⟩) [[7, 4, 1], [4]] | _ => True) (by kernel_rfl) (by kernel_rfl) ?_ ?_ ?_
  · intro ix v wv wv2 h hs
    match ix, h with
    | 0, h => exact h
    | 1, h => exact h
    | 2, h => exact h
    | 3, h => exact h
    | 4, h => exact h
    | 5, h => exact h
    | 6, h => exact h
    | 7, h =>
      obtain ⟨b247, e247, hin247⟩ := (show ∃ b, v = .slice (some ⟨b, 0, none⟩) 3 3 ∧ IntsIn wv (some ⟨b, 0, none⟩) [7, 4, 1] from h)
      exact ⟨b247, e247, hin247.mono hs.bel⟩
    | 8, h =>
      obtain ⟨b248, e248, hin248⟩ := (show ∃ b, v = .slice (some ⟨b, 0, none⟩) 1 1 ∧ IntsIn wv (some ⟨b, 0, none⟩) [4] from h)
      exact ⟨b248, e248, hin248.mono hs.bel⟩
    | 9, h =>
      obtain ⟨b249, e249, hrw249⟩ := (show ∃ b, v = .slice (some ⟨b, 0, none⟩) 2 2 ∧ RowsIn wv (some ⟨b, 0, none⟩) [[7, 4, 1], [4]] from h)
      exact ⟨b249, e249, hrw249.mono hs.bel⟩
    | _ + 10, h => exact trivial
  · intro ix o hix hoq gg wx hs hd hdis
    match ix, hix, hoq with
    | 0, _, hoq =>
      obtain rfl : _ = o := Option.some.inj hoq
      have hs0 := hs
      replace hB := hB.tr0 hs
      replace hbs := Nat.le_trans hbs (Same.size hs)
      replace hFr := hFr.of hs (by simp)
      replace hb0 := hb0.tr0 hs
      replace hb1 := hb1.tr0 hs
      replace hb2 := hb2.tr0 hs
      replace hb3 := hb3.tr0 hs
      replace hb4 := hb4.tr0 hs
      replace hb23 := hb23.tr0 hs
      replace hb5 := hb5.tr0 hs
      replace ho := ho.tr0 hs
      clear hs
      refine os_rv (r_mv (v := .func _ _ _) rfl) ⟨Same.refl _ _, ?_, frsh_no⟩
      exact rfl
    | 1, _, hoq =>
      obtain rfl : _ = o := Option.some.inj hoq
      have hs0 := hs
      replace hB := hB.tr0 hs
      replace hbs := Nat.le_trans hbs (Same.size hs)
      replace hFr := hFr.of hs (by simp)
      replace hb0 := hb0.tr0 hs
      replace hb1 := hb1.tr0 hs
      replace hb2 := hb2.tr0 hs
      replace hb3 := hb3.tr0 hs
      replace hb4 := hb4.tr0 hs
      replace hb23 := hb23.tr0 hs
      replace hb5 := hb5.tr0 hs
      replace ho := ho.tr0 hs
      clear hs
      refine os_rv (r_ldS Tryd.underlying70 rfl rfl hb3.range0 sz70) ⟨Same.refl _ _, ?_, frsh_no⟩
      exact ⟨_, _, rfl, (by first | rfl | assumption), (by first | rfl | assumption)⟩
    | 2, _, hoq =>
      obtain rfl : _ = o := Option.some.inj hoq
      have hs0 := hs
      replace hB := hB.tr0 hs
      replace hbs := Nat.le_trans hbs (Same.size hs)
      replace hFr := hFr.of hs (by simp)
      replace hb0 := hb0.tr0 hs
      replace hb1 := hb1.tr0 hs
      replace hb2 := hb2.tr0 hs
      replace hb3 := hb3.tr0 hs
      replace hb4 := hb4.tr0 hs
      replace hb23 := hb23.tr0 hs
      replace hb5 := hb5.tr0 hs
      replace ho := ho.tr0 hs
      clear hs
      refine os_cl fn34 (bound_any _  wx) rfl (fun e' w2 hr => ?_)
      obtain ⟨⟨q242_0, q242_1, q242_2, q242_3, q242_4, q242_5, rfl, hq242_0, hq242_1, hq242_2, hq242_3, hq242_4, hq242_5⟩, hs⟩ := hr
      exact ⟨_, rfl, Same.of_bel hs, ⟨_, _, _, _, _, _, rfl, (by first | rfl | assumption), (by first | rfl | assumption), (by first | rfl | assumption), (by first | rfl | assumption), (by first | rfl | assumption), (by first | rfl | assumption)⟩, frsh_no⟩
    | 3, _, hoq =>
      obtain rfl : _ = o := Option.some.inj hoq
      have hs0 := hs
      replace hB := hB.tr0 hs
      replace hbs := Nat.le_trans hbs (Same.size hs)
      replace hFr := hFr.of hs (by simp)
      replace hb0 := hb0.tr0 hs
      replace hb1 := hb1.tr0 hs
      replace hb2 := hb2.tr0 hs
      replace hb3 := hb3.tr0 hs
      replace hb4 := hb4.tr0 hs
      replace hb23 := hb23.tr0 hs
      replace hb5 := hb5.tr0 hs
      replace ho := ho.tr0 hs
      clear hs
      refine os_rv (r_ldS Tryd.underlying70 rfl rfl hb1.range0 sz70) ⟨Same.refl _ _, ?_, frsh_no⟩
      exact ⟨_, _, rfl, (by first | rfl | assumption), (by first | rfl | assumption)⟩
    | 4, _, hoq =>
      obtain rfl : _ = o := Option.some.inj hoq
      have hs0 := hs
      replace hB := hB.tr0 hs
      replace hbs := Nat.le_trans hbs (Same.size hs)
      replace hFr := hFr.of hs (by simp)
      replace hb0 := hb0.tr0 hs
      replace hb1 := hb1.tr0 hs
      replace hb2 := hb2.tr0 hs
      replace hb3 := hb3.tr0 hs
      replace hb4 := hb4.tr0 hs
      replace hb23 := hb23.tr0 hs
      replace hb5 := hb5.tr0 hs
      replace ho := ho.tr0 hs
      clear hs
      have d3 : ∃ x0 x1, gg 243 = .agg #[x0, x1] ∧ x0.oneCell' = true ∧ x1.oneCell' = true := hd 3 (dep_of (by kernel_rfl))
      obtain ⟨q243_0, q243_1, e243, hq243_0, hq243_1⟩ := d3
      refine os_know 243 (.agg #[q243_0, q243_1]) e243 (by simp [undef]) ?_
      refine os_cl fn31 (con_any _ _ _ (by first | rfl | assumption) (by first | rfl | assumption) wx) rfl (fun e' w2 hr => ?_)
      obtain ⟨⟨q244_0, q244_1, q244_2, q244_3, q244_4, q244_5, rfl, hq244_0, hq244_1, hq244_2, hq244_3, hq244_4, hq244_5⟩, hs⟩ := hr
      exact ⟨_, rfl, Same.of_bel hs, ⟨_, _, _, _, _, _, rfl, (by first | rfl | assumption), (by first | rfl | assumption), (by first | rfl | assumption), (by first | rfl | assumption), (by first | rfl | assumption), (by first | rfl | assumption)⟩, frsh_no⟩
    | 5, _, hoq =>
      obtain rfl : _ = o := Option.some.inj hoq
      have hs0 := hs
      replace hB := hB.tr0 hs
      replace hbs := Nat.le_trans hbs (Same.size hs)
      replace hFr := hFr.of hs (by simp)
      replace hb0 := hb0.tr0 hs
      replace hb1 := hb1.tr0 hs
      replace hb2 := hb2.tr0 hs
      replace hb3 := hb3.tr0 hs
      replace hb4 := hb4.tr0 hs
      replace hb23 := hb23.tr0 hs
      replace hb5 := hb5.tr0 hs
      replace ho := ho.tr0 hs
      clear hs
      have d2 : ∃ x0 x1 x2 x3 x4 x5, gg 242 = .agg #[x0, x1, x2, x3, x4, x5] ∧ x0.oneCell' = true ∧ x1.oneCell' = true ∧ x2.oneCell' = true ∧ x3.oneCell' = true ∧ x4.oneCell' = true ∧ x5.oneCell' = true := hd 2 (dep_of (by kernel_rfl))
      obtain ⟨q242_0, q242_1, q242_2, q242_3, q242_4, q242_5, e242, hq242_0, hq242_1, hq242_2, hq242_3, hq242_4, hq242_5⟩ := d2
      have d4 : ∃ x0 x1 x2 x3 x4 x5, gg 244 = .agg #[x0, x1, x2, x3, x4, x5] ∧ x0.oneCell' = true ∧ x1.oneCell' = true ∧ x2.oneCell' = true ∧ x3.oneCell' = true ∧ x4.oneCell' = true ∧ x5.oneCell' = true := hd 4 (dep_of (by kernel_rfl))
      obtain ⟨q244_0, q244_1, q244_2, q244_3, q244_4, q244_5, e244, hq244_0, hq244_1, hq244_2, hq244_3, hq244_4, hq244_5⟩ := d4
      refine os_know 242 (.agg #[q242_0, q242_1, q242_2, q242_3, q242_4, q242_5]) e242 (by simp [undef]) ?_
      refine os_know 244 (.agg #[q244_0, q244_1, q244_2, q244_3, q244_4, q244_5]) e244 (by simp [undef]) ?_
      refine os_cl fn33 (app_any _ _ _ _ _ _ _ _ _ _ _ _ (by first | rfl | assumption) (by first | rfl | assumption) (by first | rfl | assumption) (by first | rfl | assumption) (by first | rfl | assumption) (by first | rfl | assumption) (by first | rfl | assumption) (by first | rfl | assumption) (by first | rfl | assumption) (by first | rfl | assumption) (by first | rfl | assumption) (by first | rfl | assumption) wx) rfl (fun e' w2 hr => ?_)
      obtain ⟨⟨q245_0, q245_1, q245_2, q245_3, q245_4, q245_5, rfl, hq245_0, hq245_1, hq245_2, hq245_3, hq245_4, hq245_5⟩, hs⟩ := hr
      exact ⟨_, rfl, Same.of_bel hs, ⟨_, _, _, _, _, _, rfl, (by first | rfl | assumption), (by first | rfl | assumption), (by first | rfl | assumption), (by first | rfl | assumption), (by first | rfl | assumption), (by first | rfl | assumption)⟩, frsh_no⟩
    | 6, _, hoq =>
      obtain rfl : _ = o := Option.some.inj hoq
      have hs0 := hs
      replace hB := hB.tr0 hs
      replace hbs := Nat.le_trans hbs (Same.size hs)
      replace hFr := hFr.of hs (by simp)
      replace hb0 := hb0.tr0 hs
      replace hb1 := hb1.tr0 hs
      replace hb2 := hb2.tr0 hs
      replace hb3 := hb3.tr0 hs
      replace hb4 := hb4.tr0 hs
      replace hb23 := hb23.tr0 hs
      replace hb5 := hb5.tr0 hs
      replace ho := ho.tr0 hs
      clear hs
      have d1 : ∃ x0 x1, gg 241 = .agg #[x0, x1] ∧ x0.oneCell' = true ∧ x1.oneCell' = true := hd 1 (dep_of (by kernel_rfl))
      obtain ⟨q241_0, q241_1, e241, hq241_0, hq241_1⟩ := d1
      have d5 : ∃ x0 x1 x2 x3 x4 x5, gg 245 = .agg #[x0, x1, x2, x3, x4, x5] ∧ x0.oneCell' = true ∧ x1.oneCell' = true ∧ x2.oneCell' = true ∧ x3.oneCell' = true ∧ x4.oneCell' = true ∧ x5.oneCell' = true := hd 5 (dep_of (by kernel_rfl))
      obtain ⟨q245_0, q245_1, q245_2, q245_3, q245_4, q245_5, e245, hq245_0, hq245_1, hq245_2, hq245_3, hq245_4, hq245_5⟩ := d5
      refine os_know 241 (.agg #[q241_0, q241_1]) e241 (by simp [undef]) ?_
      refine os_know 245 (.agg #[q245_0, q245_1, q245_2, q245_3, q245_4, q245_5]) e245 (by simp [undef]) ?_
      refine os_cl fn32 (abs_any _ _ _ _ _ _ _ _ (by first | rfl | assumption) (by first | rfl | assumption) (by first | rfl | assumption) (by first | rfl | assumption) (by first | rfl | assumption) (by first | rfl | assumption) (by first | rfl | assumption) (by first | rfl | assumption) wx) rfl (fun e' w2 hr => ?_)
      obtain ⟨⟨q246_0, q246_1, q246_2, q246_3, q246_4, q246_5, rfl, hq246_0, hq246_1, hq246_2, hq246_3, hq246_4, hq246_5⟩, hs⟩ := hr
      exact ⟨_, rfl, Same.of_bel hs, ⟨_, _, _, _, _, _, rfl, (by first | rfl | assumption), (by first | rfl | assumption), (by first | rfl | assumption), (by first | rfl | assumption), (by first | rfl | assumption), (by first | rfl | assumption)⟩, frsh_no⟩
    | 7, _, hoq =>
      obtain rfl : _ = o := Option.some.inj hoq
      have hs0 := hs
      replace hB := hB.tr0 hs
      replace hbs := Nat.le_trans hbs (Same.size hs)
      replace hFr := hFr.of hs (by simp)
      replace hb0 := hb0.tr0 hs
      replace hb1 := hb1.tr0 hs
      replace hb2 := hb2.tr0 hs
      replace hb3 := hb3.tr0 hs
      replace hb4 := hb4.tr0 hs
      replace hb23 := hb23.tr0 hs
      replace hb5 := hb5.tr0 hs
      replace ho := ho.tr0 hs
      clear hs
      refine os_wl (fun ops Q K => ?_)
      refine wl_bs (cs := #[_, _, _]) [(0, .int _ _), (1, .int _ _), (2, .int _ _)] rfl Tryd.underlying45 sz3 ze3 (by decide) (by decide) (by kernel_rfl) rfl (fun b247 w1 hb247 hs hr => ?_)
      exact K _ _ ⟨hs, ⟨_, rfl, ints_of_blk [7, 4, 1] hb247 (by decide)⟩, fun _ g hg => by cases hg; exact ⟨hr, hb247.lt⟩⟩
    | 8, _, hoq =>
      obtain rfl : _ = o := Option.some.inj hoq
      have hs0 := hs
      replace hB := hB.tr0 hs
      replace hbs := Nat.le_trans hbs (Same.size hs)
      replace hFr := hFr.of hs (by simp)
      replace hb0 := hb0.tr0 hs
      replace hb1 := hb1.tr0 hs
      replace hb2 := hb2.tr0 hs
      replace hb3 := hb3.tr0 hs
      replace hb4 := hb4.tr0 hs
      replace hb23 := hb23.tr0 hs
      replace hb5 := hb5.tr0 hs
      replace ho := ho.tr0 hs
      clear hs
      refine os_wl (fun ops Q K => ?_)
      refine wl_bs (cs := #[_]) [(0, .int _ _)] rfl Tryd.underlying45 sz3 ze3 (by decide) (by decide) (by kernel_rfl) rfl (fun b248 w2 hb248 hs hr => ?_)
      exact K _ _ ⟨hs, ⟨_, rfl, ints_of_blk [4] hb248 (by decide)⟩, fun _ g hg => by cases hg; exact ⟨hr, hb248.lt⟩⟩
    | 9, _, hoq =>
      obtain rfl : _ = o := Option.some.inj hoq
      have hs0 := hs
      replace hB := hB.tr0 hs
      replace hbs := Nat.le_trans hbs (Same.size hs)
      replace hFr := hFr.of hs (by simp)
      replace hb0 := hb0.tr0 hs
      replace hb1 := hb1.tr0 hs
      replace hb2 := hb2.tr0 hs
      replace hb3 := hb3.tr0 hs
      replace hb4 := hb4.tr0 hs
      replace hb23 := hb23.tr0 hs
      replace hb5 := hb5.tr0 hs
      replace ho := ho.tr0 hs
      clear hs
      have d7 : ∃ b, gg 247 = .slice (some ⟨b, 0, none⟩) 3 3 ∧ IntsIn wx (some ⟨b, 0, none⟩) [7, 4, 1] := hd 7 (dep_of (by kernel_rfl))
      obtain ⟨b247, e247, hin247⟩ := d7
      have d8 : ∃ b, gg 248 = .slice (some ⟨b, 0, none⟩) 1 1 ∧ IntsIn wx (some ⟨b, 0, none⟩) [4] := hd 8 (dep_of (by kernel_rfl))
      obtain ⟨b248, e248, hin248⟩ := d8
      refine os_know 247 (.slice (some ⟨b247, 0, none⟩) 3 3) e247 (by simp [undef]) ?_
      refine os_know 248 (.slice (some ⟨b248, 0, none⟩) 1 1) e248 (by simp [undef]) ?_
      refine os_wl (fun ops Q K => ?_)
      refine wl_bs (cs := #[_, _]) [(0, .slice _ _ _), (1, .slice _ _ _)] rfl Tryd.underlying82 sz45 ze45 (by decide) (by decide) (by kernel_rfl) rfl (fun b249 w3 hb249 hs hr => ?_)
      exact K _ _ ⟨hs, ⟨_, rfl, rows_of_blk (rs := [[7, 4, 1], [4]]) hb249 (.cons ⟨_, _, rfl, hin247.mono hs.bel, by decide, by decide⟩ (.cons ⟨_, _, rfl, hin248.mono hs.bel, by decide, by decide⟩ .nil)) (by decide)⟩, fun _ g hg => by cases hg; exact ⟨hr, hb249.lt⟩⟩
    | _ + 10, hix, _ => exact absurd hix (by omega)
  · intro gg w4 hs hR hdis
    have hs0 := hs
    replace hB := hB.tr0 hs
    replace hbs := Nat.le_trans hbs (Same.size hs)
    replace hFr := hFr.of hs (by simp)
    replace hb0 := hb0.tr0 hs
    replace hb1 := hb1.tr0 hs
    replace hb2 := hb2.tr0 hs
    replace hb3 := hb3.tr0 hs
    replace hb4 := hb4.tr0 hs
    replace hb23 := hb23.tr0 hs
    replace hb5 := hb5.tr0 hs
    replace ho := ho.tr0 hs
    clear hs
    have d0 : gg 240 = .func (.func 29) #[] #[.pointer (some ⟨b5, 0, none⟩)] := hR 0 (by decide)
    have e240 := d0
    have d6 : ∃ x0 x1 x2 x3 x4 x5, gg 246 = .agg #[x0, x1, x2, x3, x4, x5] ∧ x0.oneCell' = true ∧ x1.oneCell' = true ∧ x2.oneCell' = true ∧ x3.oneCell' = true ∧ x4.oneCell' = true ∧ x5.oneCell' = true := hR 6 (by decide)
    obtain ⟨q246_0, q246_1, q246_2, q246_3, q246_4, q246_5, e246, hq246_0, hq246_1, hq246_2, hq246_3, hq246_4, hq246_5⟩ := d6
    have d9 : ∃ b, gg 249 = .slice (some ⟨b, 0, none⟩) 2 2 ∧ RowsIn w4 (some ⟨b, 0, none⟩) [[7, 4, 1], [4]] := hR 9 (by decide)
    obtain ⟨b249, e249, hrw249⟩ := d9
    refine wl_know 240 (.func (.func 29) #[] #[.pointer (some ⟨b5, 0, none⟩)]) e240 (by simp [undef]) ?_
    refine wl_know 246 (.agg #[q246_0, q246_1, q246_2, q246_3, q246_4, q246_5]) e246 (by simp [undef]) ?_
    refine wl_know 249 (.slice (some ⟨b249, 0, none⟩) 2 2) e249 (by simp [undef]) ?_
    refine wl_clv rfl fn29 (add_any _ _ _ _ _ _ _ _ (by first | rfl | assumption) (by first | rfl | assumption) (by first | rfl | assumption) (by first | rfl | assumption) (by first | rfl | assumption) (by first | rfl | assumption) _ _ [[7, 4, 1], [4]] _ _ base _ _ _ _ _ _ _ _ hrw249 hb5 ho hbs hl5 (by decide)) rfl rfl (fun e' w5 hr => ?_)
    obtain ⟨rfl, A2, cap2, xs2, hb5n, hon, hS, hA2⟩ := hr
    replace hB := hB.tr hS (fun x hx => by
      rcases List.mem_cons.1 hx with e | hx
      · rw [e]; exact lo5
      · exact Nat.le_trans hlo (ho.lt _ hx).1)
    replace hbs := Nat.le_trans hbs hS.size
    replace hFr := hFr.of hS (fun x hx => by
      rcases List.mem_cons.1 hx with e | hx
      · exact .inl (by rw [e]; exact z5)
      · exact .inr (Nat.le_trans hFb (ho.lt _ hx).1))
    replace hb0 := hb0.tr hS (fun hx => by
      rcases List.mem_cons.1 hx with e | hx
      · omega
      · have := (ho.lt _ hx).1; omega)
    replace hb1 := hb1.tr hS (fun hx => by
      rcases List.mem_cons.1 hx with e | hx
      · omega
      · have := (ho.lt _ hx).1; omega)
    replace hb2 := hb2.tr hS (fun hx => by
      rcases List.mem_cons.1 hx with e | hx
      · omega
      · have := (ho.lt _ hx).1; omega)
    replace hb3 := hb3.tr hS (fun hx => by
      rcases List.mem_cons.1 hx with e | hx
      · omega
      · have := (ho.lt _ hx).1; omega)
    replace hb4 := hb4.tr hS (fun hx => by
      rcases List.mem_cons.1 hx with e | hx
      · omega
      · have := (ho.lt _ hx).1; omega)
    replace hb23 := hb23.tr hS (fun hx => by
      rcases List.mem_cons.1 hx with e | hx
      · omega
      · have := (ho.lt _ hx).1; omega)
    replace hb5 := hb5n
    replace ho := hon
    refine ⟨_, rfl, ?_⟩
    refine x_nil ?_
    refine e_R ⟨(by repeat (first | exact ag_refl | exact ag_ovr' | refine ag_upd rfl ?_ | refine ag_sub rfl ?_ | refine ag_kn (by assumption) ?_)), ?_⟩
    exact ⟨hB, hbs, hFr, hb0, hb1, hb2, hb3, hb4, hb23, _, _, _, hb5, ho⟩
end Go.Proofs.YthhkbhapfcfdjaaDoor
