/- Missing meets: sets closed under intersection, and the order in which they are written. No program in sight. -/
import Derived.Test.YtahdbbgkgokkhaaDoorHLaw
namespace Go.Proofs.YtahdbbgkgokkhaaDoor
open Go.RowKit
/-! ## closing under intersection -/
/-- what arises from sets by intersections that are not empty -/
inductive Cl (S : List Nat) : Nat → Prop
  | base {x : Nat} (h : x ∈ S) : Cl S x
  | meet {x y : Nat} (hx : Cl S x) (hy : Cl S y) (h : x &&& y ≠ 0) : Cl S (x &&& y)
structure ClS (S A : List Nat) : Prop where
  nd : (S ++ A).Nodup
  cl : ∀ x ∈ A, Cl S x
/-- the pairs that were looked at: those of the places before i, and of place i those before j -/
def ClD (T : List Nat) (i j : Nat) : Prop := ∀ i' j' (hi : i' < T.length) (hj : j' < i'), (i' < i ∨ (i' = i ∧ j' < j)) → T[i'] &&& (T[j']'(by omega)) = 0 ∨ T[i'] &&& (T[j']'(by omega)) ∈ T
theorem ClS.start {S : List Nat} (h : S.Nodup) : ClS S [] := ⟨by rw [List.append_nil]; exact h, fun x hx => by cases hx⟩
theorem ClS.mem {S A : List Nat} (h : ClS S A) {x : Nat} (hx : x ∈ S ++ A) : Cl S x := by
  rcases List.mem_append.1 hx with h1 | h1
  · exact .base h1
  · exact h.cl x h1
theorem ClS.add {S A : List Nat} (h : ClS S A) {x y : Nat} (hx : x ∈ S ++ A) (hy : y ∈ S ++ A) (h0 : x &&& y ≠ 0) (hn : ¬ x &&& y ∈ S ++ A) : ClS S (A ++ [x &&& y]) := by
  refine ⟨?_, fun z hz => ?_⟩
  · rw [← List.append_assoc]
    exact List.nodup_append.2 ⟨h.nd, by simp, fun a ha b hb e => hn (by rw [List.mem_singleton.1 hb] at e; rwa [← e])⟩
  · rcases List.mem_append.1 hz with h1 | h1
    · exact h.cl z h1
    · rw [List.mem_singleton.1 h1]; exact .meet (h.mem hx) (h.mem hy) h0
theorem ClD.start (T : List Nat) : ClD T 0 0 := fun i' j' _ hj h => by omega
theorem ClD.row {T : List Nat} {i : Nat} (h : ClD T i i) : ClD T (i + 1) 0 := fun i' j' hi hj h2 => h i' j' hi hj (by omega)
theorem ClD.add {T : List Nat} {i j : Nat} (h : ClD T i j) (hi : i < T.length) (hj : j < i) : ClD (T ++ [T[i] &&& (T[j]'(by omega))]) i (j + 1) := fun i' j' hi' hj' h2 => by
  have hiT : i' < T.length := by omega
  rw [List.getElem_append_left hiT, List.getElem_append_left (by omega)]
  by_cases e : i' = i ∧ j' = j
  · obtain ⟨rfl, rfl⟩ := e; exact .inr (List.mem_append_right _ (List.mem_singleton.2 rfl))
  · exact (h i' j' hiT hj' (by omega)).imp id (fun h3 => List.mem_append_left _ h3)
/-- all pairs were looked at: the list holds all that arises -/
theorem ClS.all {S A : List Nat} (h : ClS S A) (hd : ClD (S ++ A) (S ++ A).length 0) (x : Nat) : Cl S x ↔ x ∈ S ++ A := by
  refine ⟨fun hx => ?_, fun hx => h.mem hx⟩
  induction hx with
  | base h1 => exact List.mem_append_left _ h1
  | @meet x y _ _ h0 ih1 ih2 =>
    obtain ⟨i, hi, rfl⟩ := List.mem_iff_getElem.1 ih1
    obtain ⟨j, hj, rfl⟩ := List.mem_iff_getElem.1 ih2
    by_cases e : j < i
    · exact (hd i j hi e (.inl hi)).resolve_left h0
    · by_cases e2 : i < j
      · have := (hd j i hj e2 (.inl hj)).resolve_left (by rw [Nat.and_comm]; exact h0)
        rwa [Nat.and_comm] at this
      · have e3 : i = j := by omega
        subst e3
        rw [Nat.and_self]
        exact List.getElem_mem hi
theorem nodup_sub_len : ∀ {A B : List Nat}, A.Nodup → (∀ x ∈ A, x ∈ B) → A.length ≤ B.length
  | [], _, _, _ => Nat.zero_le _
  | a :: A, B, hn, hs => by
    obtain ⟨h1, h2⟩ := List.nodup_cons.1 hn
    have ih := nodup_sub_len (B := B.erase a) h2 (fun x hx => (List.mem_erase_of_ne (fun e => h1 (by rw [← e]; exact hx))).2 (hs x (List.mem_cons_of_mem _ hx)))
    have hm := hs a (List.mem_cons_self ..)
    rw [List.length_erase_of_mem hm] at ih
    have := List.length_pos_of_mem hm
    rw [List.length_cons]; omega
theorem ClS.small {S A B : List Nat} (h : ClS S A) (hd : ClD (S ++ A) (S ++ A).length 0) (k : ClS S B) : B.length ≤ A.length := by
  have := nodup_sub_len k.nd (fun x hx => (h.all hd x).1 (k.mem hx))
  rw [List.length_append, List.length_append] at this
  omega
/-! ## the order of sets -/
def tz (x : Nat) : Nat := Lib.ctz 64 x
/-- the members -/
def lst (n x : Nat) : List Nat := (List.range n).filter (fun i => x.testBit i)
def pop (n x : Nat) : Nat := (lst n x).length
/-- x has the first member that the other one lacks -/
def Ld (n x y : Nat) : Prop := ∃ d, d < n ∧ (∀ i, i < d → x.testBit i = y.testBit i) ∧ x.testBit d = true ∧ y.testBit d = false
theorem ld_or {n x y : Nat} (hx : ∀ i, n ≤ i → x.testBit i = false) (hy : ∀ i, n ≤ i → y.testBit i = false) : x = y ∨ Ld n x y ∨ Ld n y x := by
  have key : ∀ k, k ≤ n → (∀ i, i < k → x.testBit i = y.testBit i) ∨ Ld n x y ∨ Ld n y x := by
    intro k
    induction k with
    | zero => exact fun _ => .inl (fun i hi => by omega)
    | succ k ih =>
      intro hk
      rcases ih (by omega) with h | h
      · cases h1 : x.testBit k <;> cases h2 : y.testBit k
        · exact .inl (fun i hi => by by_cases e : i = k; · rw [e, h1, h2]
                                     · exact h i (by omega))
        · exact .inr (.inr ⟨k, hk, fun i hi => (h i hi).symm, h2, h1⟩)
        · exact .inr (.inl ⟨k, hk, h, h1, h2⟩)
        · exact .inl (fun i hi => by by_cases e : i = k; · rw [e, h1, h2]
                                     · exact h i (by omega))
      · exact .inr h
  rcases key n (Nat.le_refl _) with h | h
  · refine .inl (Nat.eq_of_testBit_eq (fun i => ?_))
    by_cases e : i < n
    · exact h i e
    · rw [hx i (by omega), hy i (by omega)]
  · exact .inr h
theorem Ld.irr {n x y : Nat} (h : Ld n x y) (k : Ld n y x) : False := by
  obtain ⟨d, _, h2, h3, h4⟩ := h
  obtain ⟨e, _, k2, k3, k4⟩ := k
  rcases Nat.lt_trichotomy d e with h5 | h5 | h5
  · have := k2 d h5; rw [h3, h4] at this; cases this
  · subst h5; rw [h3] at k4; cases k4
  · have := h2 e h5; rw [k4, k3] at this; cases this
theorem Ld.trans {n x y z : Nat} (h : Ld n x y) (k : Ld n y z) : Ld n x z := by
  obtain ⟨d, h1, h2, h3, h4⟩ := h
  obtain ⟨e, k1, k2, k3, k4⟩ := k
  rcases Nat.lt_trichotomy d e with h5 | h5 | h5
  · exact ⟨d, h1, fun i hi => (h2 i hi).trans (k2 i (by omega)), h3, by rw [← k2 d h5]; exact h4⟩
  · subst h5; rw [h4] at k3; cases k3
  · exact ⟨e, k1, fun i hi => (h2 i (by omega)).trans (k2 i hi), by rw [h2 e h5]; exact k3, k4⟩
/-- the order in which new sets are written -/
def Lt (n x y : Nat) : Prop := tz x < tz y ∨ (tz x = tz y ∧ (pop n y < pop n x ∨ (pop n x = pop n y ∧ Ld n x y)))
theorem Lt.irr {n x y : Nat} (h : Lt n x y) (k : Lt n y x) : False := by
  rcases h with h | ⟨h1, h | ⟨h2, h⟩⟩ <;> rcases k with k | ⟨k1, k | ⟨k2, k⟩⟩ <;> first | omega | exact h.irr k
theorem Lt.trans {n x y z : Nat} (h : Lt n x y) (k : Lt n y z) : Lt n x z := by
  rcases h with h | ⟨h1, h | ⟨h2, h⟩⟩ <;> rcases k with k | ⟨k1, k | ⟨k2, k⟩⟩
  · exact .inl (by omega)
  · exact .inl (by omega)
  · exact .inl (by omega)
  · exact .inl (by omega)
  · exact .inr ⟨by omega, .inl (by omega)⟩
  · exact .inr ⟨by omega, .inl (by omega)⟩
  · exact .inl (by omega)
  · exact .inr ⟨by omega, .inl (by omega)⟩
  · exact .inr ⟨by omega, .inr ⟨by omega, h.trans k⟩⟩
theorem lt_or {n x y : Nat} (hx : ∀ i, n ≤ i → x.testBit i = false) (hy : ∀ i, n ≤ i → y.testBit i = false) : x = y ∨ Lt n x y ∨ Lt n y x := by
  rcases Nat.lt_trichotomy (tz x) (tz y) with h | h | h
  · exact .inr (.inl (.inl h))
  · rcases Nat.lt_trichotomy (pop n x) (pop n y) with h2 | h2 | h2
    · exact .inr (.inr (.inr ⟨h.symm, .inl h2⟩))
    · rcases ld_or hx hy with h3 | h3 | h3
      · exact .inl h3
      · exact .inr (.inl (.inr ⟨h, .inr ⟨h2, h3⟩⟩))
      · exact .inr (.inr (.inr ⟨h.symm, .inr ⟨h2.symm, h3⟩⟩))
    · exact .inr (.inl (.inr ⟨h, .inl h2⟩))
  · exact .inr (.inr (.inl h))
/-- lists in that order with the same members are the same -/
theorem lt_uniq {n : Nat} {A B : List Nat} (hA : A.Pairwise (Lt n)) (hB : B.Pairwise (Lt n)) (hp : A.Perm B) : A = B := by
  induction A generalizing B with
  | nil => exact (List.nil_perm.1 hp).symm
  | cons a A ih =>
    obtain ⟨h1, h2⟩ := List.pairwise_cons.1 hA
    cases B with
    | nil => exact absurd hp.length_eq (by simp)
    | cons b B =>
      obtain ⟨k1, k2⟩ := List.pairwise_cons.1 hB
      have e : a = b := by
        rcases List.mem_cons.1 (hp.mem_iff.1 (List.mem_cons_self (a := a))) with e | e
        · exact e
        · rcases List.mem_cons.1 (hp.mem_iff.2 (List.mem_cons_self (a := b))) with e2 | e2
          · exact e2.symm
          · exact absurd (h1 b e2) (fun h => h.irr (k1 a e))
      subst e
      rw [ih h2 k2 (List.Perm.cons_inv hp)]
/-! ## compared as numbers that are turned round -/
theorem lt_bits {x y i : Nat} (hx : x.testBit i = false) (hy : y.testBit i = true) (h : ∀ j, i < j → x.testBit j = y.testBit j) : x < y := by
  have h1 : x / 2 ^ i / 2 = y / 2 ^ i / 2 := Nat.eq_of_testBit_eq (fun j => by
    rw [← Nat.testBit_succ, ← Nat.testBit_succ, Nat.testBit_div_two_pow, Nat.testBit_div_two_pow]
    exact h _ (by omega))
  rw [Nat.testBit_eq_decide_div_mod_eq] at hx hy
  have h2 : x / 2 ^ i < y / 2 ^ i := by
    simp only [decide_eq_false_iff_not, decide_eq_true_eq] at hx hy
    omega
  exact Nat.lt_of_div_lt_div h2
theorem rev_lt {r s x y n : Nat} (hn : n ≤ 64) (hr : ∀ i, i < 64 → r.testBit i = x.testBit (63 - i)) (hr2 : ∀ i, 64 ≤ i → r.testBit i = false) (hs : ∀ i, i < 64 → s.testBit i = y.testBit (63 - i)) (hs2 : ∀ i, 64 ≤ i → s.testBit i = false) (h : Ld n x y) : s < r := by
  obtain ⟨d, h1, h2, h3, h4⟩ := h
  refine lt_bits (i := 63 - d) ?_ ?_ (fun j hj => ?_)
  · rw [hs _ (by omega), show 63 - (63 - d) = d by omega]; exact h4
  · rw [hr _ (by omega), show 63 - (63 - d) = d by omega]; exact h3
  · by_cases e : j < 64
    · rw [hs j e, hr j e]; exact (h2 (63 - j) (by omega)).symm
    · rw [hs2 j (by omega), hr2 j (by omega)]
/-! ## compared as lists -/
end Go.Proofs.YtahdbbgkgokkhaaDoor
