/- The reference's way to complete types: sets as lists of numbers, in a world. No program in sight. -/
import Derived.Test.YtahdbbgkgokkhaaDoorCpq
import Derived.Test.YtahdbbgkgokkhaaDoorMat
import Derived.Test.YtahdbbgkgokkhaaDoorEng6
import Derived.Test.YtahdbbgkgokkhaaDoorEng3a
namespace Go.Proofs.YtahdbbgkgokkhaaDoor
open Go.RowKit
/-! ## sets as lists -/
def lsI (x : Nat) : List Int := (lst 64 x).map (fun (n : Nat) => (n : Int))
theorem lsI_len (x : Nat) : (lsI x).length = pop 64 x := by simp [lsI, pop]
theorem mem_lsI {x : Nat} {z : Int} : z ∈ lsI x ↔ ∃ n : Nat, z = n ∧ n < 64 ∧ x.testBit n = true := by
  unfold lsI lst
  simp only [List.mem_map, List.mem_filter, List.mem_range]
  constructor
  · rintro ⟨n, h, rfl⟩; exact ⟨n, rfl, h⟩
  · rintro ⟨n, rfl, h⟩; exact ⟨n, h, rfl⟩
theorem lsI_and (x y : Nat) : (lsI x).filter (fun z => decide (z ∈ lsI y)) = lsI (x &&& y) := by
  have h1 : ∀ n : Nat, n < 64 → decide ((n : Int) ∈ lsI y) = y.testBit n := fun n hn => by
    cases hb : y.testBit n with
    | true => exact decide_eq_true (mem_lsI.2 ⟨n, rfl, hn, hb⟩)
    | false =>
      refine decide_eq_false (fun h => ?_)
      obtain ⟨m, e, _, hm⟩ := mem_lsI.1 h
      have : m = n := by omega
      rw [this, hb] at hm; cases hm
  unfold lsI lst
  rw [List.filter_map, List.filter_filter]
  congr 1
  refine List.filter_congr (fun n hn => ?_)
  rw [Nat.testBit_and]
  have := h1 n (List.mem_range.1 hn)
  unfold lsI lst at this
  simp only [Function.comp, this]
  exact Bool.and_comm _ _
theorem lsI_inj {x y : Nat} (hx : x < 18446744073709551616) (hy : y < 18446744073709551616) (h : lsI x = lsI y) : x = y := by
  have hi : ∀ {z : Nat}, z < 18446744073709551616 → ∀ i, 64 ≤ i → z.testBit i = false := fun hz i hi => Nat.testBit_lt_two_pow (Nat.lt_of_lt_of_le (show _ < 2 ^ 64 from hz) (Nat.pow_le_pow_right (by decide) hi))
  have hb : ∀ {x y : Nat}, lsI x = lsI y → ∀ i, i < 64 → x.testBit i = true → y.testBit i = true := fun h i hi hx => by
    have : (i : Int) ∈ lsI _ := mem_lsI.2 ⟨i, rfl, hi, hx⟩
    rw [h] at this
    obtain ⟨m, e, _, hm⟩ := mem_lsI.1 this
    have : m = i := by omega
    rwa [this] at hm
  refine Nat.eq_of_testBit_eq (fun i => ?_)
  by_cases h64 : i < 64
  · cases h1 : x.testBit i with
    | true => exact (hb h i h64 h1).symm
    | false =>
      cases h2 : y.testBit i with
      | false => rfl
      | true => rw [hb h.symm i h64 h2] at h1; cases h1
  · rw [hi hx i (by omega), hi hy i (by omega)]
theorem lsI_nil {x : Nat} (hx : x < 18446744073709551616) : (lsI x).length = 0 ↔ x = 0 := by
  rw [List.length_eq_zero_iff]
  constructor
  · intro h; exact lsI_inj hx (by decide) (h.trans (by decide))
  · rintro rfl; decide
/-- the members of type j, below i -/
def lsP (l : List Ty) (j i : Nat) : List Int := ((List.range i).filter (fun k => sub l k j)).map (fun (n : Nat) => (n : Int))
theorem lsP_yes {l : List Ty} {j i : Nat} (h : sub l i j = true) : lsP l j (i + 1) = lsP l j i ++ [(i : Int)] := by
  unfold lsP; rw [List.range_succ, List.filter_append, List.map_append]; simp [h]
theorem lsP_no {l : List Ty} {j i : Nat} (h : sub l i j = false) : lsP l j (i + 1) = lsP l j i := by
  unfold lsP; rw [List.range_succ, List.filter_append, List.map_append]; simp [h]
theorem lsP_le (l : List Ty) (j i : Nat) : (lsP l j i).length ≤ i := by
  unfold lsP
  rw [List.length_map]
  exact Nat.le_trans (List.length_filter_le ..) (by simp)
theorem lsP_end {l : List Ty} (h60 : l.length ≤ 60) (j : Nat) : lsP l j l.length = lsI (downN l j) := by
  unfold lsP lsI lst
  congr 1
  have h1 : (List.range l.length).filter (fun k => sub l k j) = (List.range l.length).filter (fun i => (downN l j).testBit i) := List.filter_congr (fun k hk => by
    rw [down_bit, decide_eq_true (List.mem_range.1 hk)]; rfl)
  rw [h1]
  obtain ⟨d, hd⟩ : ∃ d, 64 = l.length + d := ⟨64 - l.length, by omega⟩
  rw [hd, List.range_add, List.filter_append]
  have h2 : ((List.range d).map (l.length + ·)).filter (fun i => (downN l j).testBit i) = [] := by
    rw [List.filter_eq_nil_iff]
    intro a ha
    obtain ⟨q, _, rfl⟩ := List.mem_map.1 ha
    rw [down_bit, decide_eq_false (by omega)]
    simp
  rw [h2, List.append_nil]
theorem lsI_head {l : List Ty} {x : Nat} (h : DnS l x) (h60 : l.length ≤ 60) : ∃ hl : 0 < (lsI x).length, (lsI x)[0] = ((tz x : Nat) : Int) := by
  obtain ⟨h1, h2, h3⟩ := h.tz h60
  obtain ⟨d, hd⟩ : ∃ d, 64 = tz x + (d + 1) := ⟨63 - tz x, by omega⟩
  have e : lsI x = ((tz x : Nat) : Int) :: (((List.range d).map (fun i => tz x + (i + 1))).filter (fun i => x.testBit i)).map (fun (n : Nat) => (n : Int)) := by
    unfold lsI lst
    rw [hd, List.range_add, List.filter_append]
    have e1 : (List.range (tz x)).filter (fun i => x.testBit i) = [] := by
      rw [List.filter_eq_nil_iff]
      intro a ha
      rw [h3 a (List.mem_range.1 ha)]
      simp
    rw [e1, List.nil_append, List.range_succ_eq_map, List.map_cons, List.map_map, List.filter_cons]
    simp only [Nat.add_zero, h2, if_true, List.map_cons]
    rfl
  refine ⟨by rw [e]; simp, ?_⟩
  simp only [e, List.getElem_cons_zero]
/-! ## lists of sets in a world -/
theorem PrI.trT {lo hi : Nat} {w w' : World} {A : Option Addr} {xs : List Int} {X : List Nat} (h : PrI lo hi w A xs) (hs : Same X w w') (hx : ∀ g ∈ X, hi ≤ g ∨ ∃ cs t, Blk w g t cs ∧ t ≠ 3) : PrI lo hi w' A xs :=
  ⟨h.1, fun hn => by
    obtain ⟨g, cs, e, hlo, hl, hb, ht⟩ := h.2 hn
    refine ⟨g, cs, e, hlo, hl, hb.tr hs (fun hm => ?_), ht⟩
    rcases hx g hm with h1 | ⟨cs2, t, hb2, hne⟩
    · omega
    · exact hne (blk_type hb2 hb)⟩
theorem PrI.tr0 {lo hi : Nat} {w w' : World} {A : Option Addr} {xs : List Int} (h : PrI lo hi w A xs) (hs : Same [] w w') : PrI lo hi w' A xs := h.tr hs (fun g hg => by cases hg)
def RwM (lo hi : Nat) (w : World) (L : List (List Int)) (vs : List Value) : Prop := vs.length = L.length ∧ ∀ k (hk : k < L.length), ∃ A c, vs[k]? = some (.slice A (L[k]).length c) ∧ PrI lo hi w A L[k]
theorem RwM.nil (lo hi : Nat) (w : World) : RwM lo hi w [] [] := ⟨rfl, fun k hk => by simp at hk⟩
theorem RwM.tr0 {lo hi : Nat} {w w' : World} {L : List (List Int)} {vs : List Value} (h : RwM lo hi w L vs) (hs : Same [] w w') : RwM lo hi w' L vs :=
  ⟨h.1, fun k hk => by obtain ⟨A, c, e1, hp⟩ := h.2 k hk; exact ⟨A, c, e1, hp.tr0 hs⟩⟩
theorem RwM.trT {lo hi : Nat} {w w' : World} {L : List (List Int)} {vs : List Value} {X : List Nat} (h : RwM lo hi w L vs) (hs : Same X w w') (hx : ∀ g ∈ X, hi ≤ g ∨ ∃ cs t, Blk w g t cs ∧ t ≠ 3) : RwM lo hi w' L vs :=
  ⟨h.1, fun k hk => by obtain ⟨A, c, e1, hp⟩ := h.2 k hk; exact ⟨A, c, e1, hp.trT hs hx⟩⟩
theorem RwM.up {lo hi hi' : Nat} {w : World} {L : List (List Int)} {vs : List Value} (h : RwM lo hi w L vs) (hl : hi ≤ hi') : RwM lo hi' w L vs :=
  ⟨h.1, fun k hk => by obtain ⟨A, c, e1, hp⟩ := h.2 k hk; exact ⟨A, c, e1, hp.up hl⟩⟩
theorem RwM.snoc {lo hi : Nat} {w : World} {L : List (List Int)} {vs : List Value} {xs : List Int} {A : Option Addr} {c n : Nat} (h : RwM lo hi w L vs) (hp : PrI lo hi w A xs) (hn : n = xs.length) : RwM lo hi w (L ++ [xs]) (vs ++ [.slice A n c]) := by
  subst hn
  have h1 := h.1
  refine ⟨by simp [h1], fun k hk => ?_⟩
  by_cases e : k < L.length
  · obtain ⟨A2, c2, e1, hp2⟩ := h.2 k e
    exact ⟨A2, c2, by rw [List.getElem?_append_left (by omega), List.getElem_append_left e]; exact e1, by rw [List.getElem_append_left e]; exact hp2⟩
  · have e2 : k = L.length := by simp at hk; omega
    subst e2
    refine ⟨A, c, ?_, ?_⟩
    · rw [List.getElem?_append_right (by omega), h1, Nat.sub_self]; simp
    · simpa using hp
theorem RwM.one {lo hi : Nat} {w : World} {L : List (List Int)} {vs : List Value} (h : RwM lo hi w L vs) : ∀ v ∈ vs, v.oneCell' = true := fun v hv => by
  obtain ⟨k, hk, rfl⟩ := List.mem_iff_getElem.1 hv
  obtain ⟨A, c, e1, _⟩ := h.2 k (by rw [← h.1]; exact hk)
  rw [List.getElem?_eq_getElem hk] at e1
  rw [Option.some.inj e1]; rfl
theorem RwM.ins {lo hi : Nat} {w : World} {L : List (List Int)} {vs : List Value} {xs : List Int} {A : Option Addr} {c k : Nat} (h : RwM lo hi w L vs) (hp : PrI lo hi w A xs) (hk : k ≤ L.length) : RwM lo hi w (L.take k ++ ([xs] ++ L.drop k)) (vs.take k ++ ([.slice A xs.length c] ++ vs.drop k)) := by
  have h1 := h.1
  have t1 : (vs.take k).length = k := by rw [List.length_take]; omega
  have t2 : (L.take k).length = k := by rw [List.length_take]; omega
  refine ⟨by simp [h1], fun q hq => ?_⟩
  have hq2 : q < L.length + 1 := by simp at hq; omega
  rcases Nat.lt_trichotomy q k with e | e | e
  · obtain ⟨A2, c2, e1, hp2⟩ := h.2 q (by omega)
    refine ⟨A2, c2, ?_, ?_⟩
    · rw [List.getElem?_append_left (by omega), List.getElem?_take_of_lt e, List.getElem_append_left (by omega), List.getElem_take]; exact e1
    · rw [List.getElem_append_left (by omega), List.getElem_take]; exact hp2
  · subst e
    refine ⟨A, c, ?_, ?_⟩
    · rw [List.getElem?_append_right (by omega), t1, Nat.sub_self, List.getElem_append_right (by omega)]; simp [t2]
    · rw [List.getElem_append_right (by omega)]; simp [t2]; exact hp
  · obtain ⟨A2, c2, e1, hp2⟩ := h.2 (q - 1) (by omega)
    have e5 : (L.take k ++ ([xs] ++ L.drop k))[q] = L[q - 1] := by
      rw [List.getElem_append_right (by omega)]
      simp only [t2]
      rw [List.getElem_append_right (by simp; omega)]
      simp only [List.length_cons, List.length_nil, List.getElem_drop]
      congr 1; omega
    refine ⟨A2, c2, ?_, by rw [e5]; exact hp2⟩
    rw [e5, List.getElem?_append_right (by omega), t1, List.getElem?_append_right (by simp; omega), List.getElem?_drop]
    simp only [List.length_cons, List.length_nil]
    rw [show k + (q - k - (0 + 1)) = q - 1 by omega]
    exact e1
theorem mat_own {w : World} {lo hi base n cap : Nat} {A : Option Addr} {L : List (List Int)} {vs : List Value} (ho : Own w base 33 1 A n cap vs) (h : RwM lo hi w L vs) : MatIn w A L := by
  have h1 := h.1
  have h2 := ho.len
  refine ⟨by have := ho.max; unfold maxI; omega, fun hn => ?_⟩
  have hp := List.length_pos_iff.2 hn
  obtain ⟨g, e, _, hl, hc⟩ := ho.cell (fun e => by rw [e] at h1; simp at h1; omega)
  refine ⟨g, 0, e, hl, fun k hk => ?_⟩
  obtain ⟨A', c, e1, hpr⟩ := h.2 k hk
  refine ⟨A', c, ?_, hpr.ints⟩
  rw [Nat.zero_add, Nat.mul_one]
  exact hc _ _ e1
def msL (S : List Nat) : List (List Int) := S.map lsI
theorem msL_len (S : List Nat) : (msL S).length = S.length := by simp [msL]
theorem msL_get {S : List Nat} {k : Nat} (h : k < (msL S).length) : (msL S)[k] = lsI (S.getD k 0) := by
  have h2 : k < S.length := by rw [msL_len] at h; exact h
  simp [msL, List.getD, h2]
theorem msL_snoc (S : List Nat) (x : Nat) : msL (S ++ [x]) = msL S ++ [lsI x] := by simp [msL]
/-! ## lists compared -/
def cmpJ : List Int → List Int → Int
  | [], [] => 0
  | [], _ :: _ => -1
  | _ :: _, [] => 1
  | a :: as', b :: bs => if cmpI a b = 0 then cmpJ as' bs else cmpI a b
theorem cmpJ_nat : ∀ (xs ys : List Nat), cmpJ (xs.map (fun (n : Nat) => (n : Int))) (ys.map (fun (n : Nat) => (n : Int))) = cmpL xs ys
  | [], [] => rfl
  | [], _ :: _ => rfl
  | _ :: _, [] => rfl
  | a :: as', b :: bs => by
    show (if cmpI _ _ = 0 then cmpJ _ _ else cmpI _ _) = (if a < b then (-1 : Int) else if b < a then 1 else cmpL as' bs)
    rw [cmpJ_nat as' bs]
    unfold cmpI
    rcases Nat.lt_trichotomy a b with h | h | h
    · have h1 : (a : Int) < b := by omega
      rw [if_pos h1, if_pos h, if_neg (by decide)]
    · subst h
      have h1 : ¬ (a : Int) < a := by omega
      rw [if_neg h1, if_neg h1, if_pos rfl, if_neg (Nat.lt_irrefl _), if_neg (Nat.lt_irrefl _)]
    · have h1 : ¬ (a : Int) < b := by omega
      have h2 : (b : Int) < a := by omega
      rw [if_neg h1, if_pos h2, if_neg (by decide), if_neg (by omega), if_pos h]
theorem hi64 {z : Nat} (hz : z < 18446744073709551616) : ∀ i, 64 ≤ i → z.testBit i = false := fun i hi => Nat.testBit_lt_two_pow (Nat.lt_of_lt_of_le (show _ < 2 ^ 64 from hz) (Nat.pow_le_pow_right (by decide) hi))
theorem cmpU_Lt {x y : Nat} (hx : x < 18446744073709551616) (hy : y < 18446744073709551616) : cmpU x y < 0 ↔ Lt 64 x y := by
  rw [cmpU_lt]
  unfold Lt
  constructor
  · rintro (h | ⟨h1, h | ⟨h2, h3⟩⟩)
    · exact .inl h
    · exact .inr ⟨h1, .inl h⟩
    · refine .inr ⟨h1, .inr ⟨h2.symm, ?_⟩⟩
      rcases ld_or (n := 64) (hi64 hx) (hi64 hy) with e | e | e
      · subst e; omega
      · exact e
      · have := rev_lt (n := 64) (Nat.le_refl _) (fun i hi => rev_bit i hi) (rev_hi y) (fun i hi => rev_bit i hi) (rev_hi x) e
        omega
  · rintro (h | ⟨h1, h | ⟨h2, h3⟩⟩)
    · exact .inl h
    · exact .inr ⟨h1, .inl h⟩
    · exact .inr ⟨h1, .inr ⟨h2.symm, rev_lt (n := 64) (Nat.le_refl _) (fun i hi => rev_bit i hi) (rev_hi x) (fun i hi => rev_bit i hi) (rev_hi y) h3⟩⟩
/-- sorted: strictly -/
theorem sorted_Lt {D : List Nat} (hb : ∀ x ∈ D, x < 18446744073709551616) (hn : D.Nodup) (h : D.Pairwise (fun x y => ¬ cmpU y x < 0)) : D.Pairwise (Lt 64) := by
  have h2 : D.Pairwise (fun x y => x ≠ y ∧ ¬ cmpU y x < 0) := hn.and h
  refine List.Pairwise.imp_of_mem (fun ha hb' hab => ?_) h2
  rw [cmpU_Lt (hb _ hb') (hb _ ha)] at hab
  rcases lt_or (hi64 (hb _ ha)) (hi64 (hb _ hb')) with e | e | e
  · exact absurd e hab.1
  · exact e
  · exact absurd e hab.2
end Go.Proofs.YtahdbbgkgokkhaaDoor
