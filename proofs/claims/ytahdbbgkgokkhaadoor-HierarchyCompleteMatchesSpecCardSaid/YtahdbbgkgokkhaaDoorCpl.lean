/- Missing meets: sets closed under intersection, and the order in which they are written. No program in sight. -/
import Derived.Test.YtahdbbgkgokkhaaDoorHLaw
namespace Go.Proofs.YtahdbbgkgokkhaaDoor
open Go.RowKit
/-! ## closing under intersection -/
/-- what arises from sets by intersections that are not empty -/
inductive Cl (S : List Nat) : Nat → Prop
  | base {x : Nat} (h : x ∈ S) : Cl S x
  | meet {x y : Nat} (hx : Cl S x) (hy : Cl S y) (h : x &&& y ≠ 0) : Cl S (x &&& y)
structure ClS (S A : List Nat) : Prop where
  nd : (S ++ A).Nodup
  cl : ∀ x ∈ A, Cl S x
/-- the pairs that were looked at: those of the places before i, and of place i those before j -/
def ClD (T : List Nat) (i j : Nat) : Prop := ∀ i' j' (hi : i' < T.length) (hj : j' < i'), (i' < i ∨ (i' = i ∧ j' < j)) → T[i'] &&& (T[j']'(by omega)) = 0 ∨ T[i'] &&& (T[j']'(by omega)) ∈ T
theorem ClS.start {S : List Nat} (h : S.Nodup) : ClS S [] := ⟨by rw [List.append_nil]; exact h, fun x hx => by cases hx⟩
theorem ClS.mem {S A : List Nat} (h : ClS S A) {x : Nat} (hx : x ∈ S ++ A) : Cl S x := by
  rcases List.mem_append.1 hx with h1 | h1
  · exact .base h1
  · exact h.cl x h1
theorem ClS.add {S A : List Nat} (h : ClS S A) {x y : Nat} (hx : x ∈ S ++ A) (hy : y ∈ S ++ A) (h0 : x &&& y ≠ 0) (hn : ¬ x &&& y ∈ S ++ A) : ClS S (A ++ [x &&& y]) := by
  refine ⟨?_, fun z hz => ?_⟩
  · rw [← List.append_assoc]
    exact List.nodup_append.2 ⟨h.nd, by simp, fun a ha b hb e => hn (by rw [List.mem_singleton.1 hb] at e; rwa [← e])⟩
  · rcases List.mem_append.1 hz with h1 | h1
    · exact h.cl z h1
    · rw [List.mem_singleton.1 h1]; exact .meet (h.mem hx) (h.mem hy) h0
theorem ClD.start (T : List Nat) : ClD T 0 0 := fun i' j' _ hj h => by omega
theorem ClD.row {T : List Nat} {i : Nat} (h : ClD T i i) : ClD T (i + 1) 0 := fun i' j' hi hj h2 => h i' j' hi hj (by omega)
theorem ClD.add {T : List Nat} {i j : Nat} (h : ClD T i j) (hi : i < T.length) (hj : j < i) : ClD (T ++ [T[i] &&& (T[j]'(by omega))]) i (j + 1) := fun i' j' hi' hj' h2 => by
  have hiT : i' < T.length := by omega
  rw [List.getElem_append_left hiT, List.getElem_append_left (by omega)]
  by_cases e : i' = i ∧ j' = j
  · obtain ⟨rfl, rfl⟩ := e; exact .inr (List.mem_append_right _ (List.mem_singleton.2 rfl))
  · exact (h i' j' hiT hj' (by omega)).imp id (fun h3 => List.mem_append_left _ h3)
/-- all pairs were looked at: the list holds all that arises -/
theorem ClS.all {S A : List Nat} (h : ClS S A) (hd : ClD (S ++ A) (S ++ A).length 0) (x : Nat) : Cl S x ↔ x ∈ S ++ A := by
  refine ⟨fun hx => ?_, fun hx => h.mem hx⟩
  induction hx with
  | base h1 => exact List.mem_append_left _ h1
  | @meet x y _ _ h0 ih1 ih2 =>
    obtain ⟨i, hi, rfl⟩ := List.mem_iff_getElem.1 ih1
    obtain ⟨j, hj, rfl⟩ := List.mem_iff_getElem.1 ih2
    by_cases e : j < i
    · exact (hd i j hi e (.inl hi)).resolve_left h0
    · by_cases e2 : i < j
      · have := (hd j i hj e2 (.inl hj)).resolve_left (by rw [Nat.and_comm]; exact h0)
        rwa [Nat.and_comm] at this
      · have e3 : i = j := by omega
        subst e3
        rw [Nat.and_self]
        exact List.getElem_mem hi
theorem nodup_sub_len : ∀ {A B : List Nat}, A.Nodup → (∀ x ∈ A, x ∈ B) → A.length ≤ B.length
  | [], _, _, _ => Nat.zero_le _
  | a :: A, B, hn, hs => by
    obtain ⟨h1, h2⟩ := List.nodup_cons.1 hn
    have ih := nodup_sub_len (B := B.erase a) h2 (fun x hx => (List.mem_erase_of_ne (fun e => h1 (by rw [← e]; exact hx))).2 (hs x (List.mem_cons_of_mem _ hx)))
    have hm := hs a (List.mem_cons_self ..)
    rw [List.length_erase_of_mem hm] at ih
    have := List.length_pos_of_mem hm
    rw [List.length_cons]; omega
theorem ClS.small {S A B : List Nat} (h : ClS S A) (hd : ClD (S ++ A) (S ++ A).length 0) (k : ClS S B) : B.length ≤ A.length := by
  have := nodup_sub_len k.nd (fun x hx => (h.all hd x).1 (k.mem hx))
  rw [List.length_append, List.length_append] at this
  omega
/-! ## the order of sets -/
def tz (x : Nat) : Nat := Lib.ctz 64 x
/-- the members -/
def lst (n x : Nat) : List Nat := (List.range n).filter (fun i => x.testBit i)
def pop (n x : Nat) : Nat := (lst n x).length
/-- x has the first member that the other one lacks -/
def Ld (n x y : Nat) : Prop := ∃ d, d < n ∧ (∀ i, i < d → x.testBit i = y.testBit i) ∧ x.testBit d = true ∧ y.testBit d = false
theorem ld_or {n x y : Nat} (hx : ∀ i, n ≤ i → x.testBit i = false) (hy : ∀ i, n ≤ i → y.testBit i = false) : x = y ∨ Ld n x y ∨ Ld n y x := by
  have key : ∀ k, k ≤ n → (∀ i, i < k → x.testBit i = y.testBit i) ∨ Ld n x y ∨ Ld n y x := by
    intro k
    induction k with
    | zero => exact fun _ => .inl (fun i hi => by omega)
    | succ k ih =>
      intro hk
      rcases ih (by omega) with h | h
      · cases h1 : x.testBit k <;> cases h2 : y.testBit k
        · exact .inl (fun i hi => by by_cases e : i = k; · rw [e, h1, h2]
                                     · exact h i (by omega))
        · exact .inr (.inr ⟨k, hk, fun i hi => (h i hi).symm, h2, h1⟩)
        · exact .inr (.inl ⟨k, hk, h, h1, h2⟩)
        · exact .inl (fun i hi => by by_cases e : i = k; · rw [e, h1, h2]
                                     · exact h i (by omega))
      · exact .inr h
  rcases key n (Nat.le_refl _) with h | h
  · refine .inl (Nat.eq_of_testBit_eq (fun i => ?_))
    by_cases e : i < n
    · exact h i e
    · rw [hx i (by omega), hy i (by omega)]
  · exact .inr h
theorem Ld.irr {n x y : Nat} (h : Ld n x y) (k : Ld n y x) : False := by
  obtain ⟨d, _, h2, h3, h4⟩ := h
  obtain ⟨e, _, k2, k3, k4⟩ := k
  rcases Nat.lt_trichotomy d e with h5 | h5 | h5
  · have := k2 d h5; rw [h3, h4] at this; cases this
  · subst h5; rw [h3] at k4; cases k4
  · have := h2 e h5; rw [k4, k3] at this; cases this
theorem Ld.trans {n x y z : Nat} (h : Ld n x y) (k : Ld n y z) : Ld n x z := by
  obtain ⟨d, h1, h2, h3, h4⟩ := h
  obtain ⟨e, k1, k2, k3, k4⟩ := k
  rcases Nat.lt_trichotomy d e with h5 | h5 | h5
  · exact ⟨d, h1, fun i hi => (h2 i hi).trans (k2 i (by omega)), h3, by rw [← k2 d h5]; exact h4⟩
  · subst h5; rw [h4] at k3; cases k3
  · exact ⟨e, k1, fun i hi => (h2 i (by omega)).trans (k2 i hi), by rw [h2 e h5]; exact k3, k4⟩
/-- the order in which new sets are written -/
def Lt (n x y : Nat) : Prop := tz x < tz y ∨ (tz x = tz y ∧ (pop n y < pop n x ∨ (pop n x = pop n y ∧ Ld n x y)))
theorem Lt.irr {n x y : Nat} (h : Lt n x y) (k : Lt n y x) : False := by
  rcases h with h | ⟨h1, h | ⟨h2, h⟩⟩ <;> rcases k with k | ⟨k1, k | ⟨k2, k⟩⟩ <;> first | omega | exact h.irr k
theorem Lt.trans {n x y z : Nat} (h : Lt n x y) (k : Lt n y z) : Lt n x z := by
  rcases h with h | ⟨h1, h | ⟨h2, h⟩⟩ <;> rcases k with k | ⟨k1, k | ⟨k2, k⟩⟩
  · exact .inl (by omega)
  · exact .inl (by omega)
  · exact .inl (by omega)
  · exact .inl (by omega)
  · exact .inr ⟨by omega, .inl (by omega)⟩
  · exact .inr ⟨by omega, .inl (by omega)⟩
  · exact .inl (by omega)
  · exact .inr ⟨by omega, .inl (by omega)⟩
  · exact .inr ⟨by omega, .inr ⟨by omega, h.trans k⟩⟩
theorem lt_or {n x y : Nat} (hx : ∀ i, n ≤ i → x.testBit i = false) (hy : ∀ i, n ≤ i → y.testBit i = false) : x = y ∨ Lt n x y ∨ Lt n y x := by
  rcases Nat.lt_trichotomy (tz x) (tz y) with h | h | h
  · exact .inr (.inl (.inl h))
  · rcases Nat.lt_trichotomy (pop n x) (pop n y) with h2 | h2 | h2
    · exact .inr (.inr (.inr ⟨h.symm, .inl h2⟩))
    · rcases ld_or hx hy with h3 | h3 | h3
      · exact .inl h3
      · exact .inr (.inl (.inr ⟨h, .inr ⟨h2, h3⟩⟩))
      · exact .inr (.inr (.inr ⟨h.symm, .inr ⟨h2.symm, h3⟩⟩))
    · exact .inr (.inl (.inr ⟨h, .inl h2⟩))
  · exact .inr (.inr (.inl h))
/-- lists in that order with the same members are the same -/
theorem lt_uniq {n : Nat} {A B : List Nat} (hA : A.Pairwise (Lt n)) (hB : B.Pairwise (Lt n)) (hp : A.Perm B) : A = B := by
  induction A generalizing B with
  | nil => exact (List.nil_perm.1 hp).symm
  | cons a A ih =>
    obtain ⟨h1, h2⟩ := List.pairwise_cons.1 hA
    cases B with
    | nil => exact absurd hp.length_eq (by simp)
    | cons b B =>
      obtain ⟨k1, k2⟩ := List.pairwise_cons.1 hB
      have e : a = b := by
        rcases List.mem_cons.1 (hp.mem_iff.1 (List.mem_cons_self (a := a))) with e | e
        · exact e
        · rcases List.mem_cons.1 (hp.mem_iff.2 (List.mem_cons_self (a := b))) with e2 | e2
          · exact e2.symm
          · exact absurd (h1 b e2) (fun h => h.irr (k1 a e))
      subst e
      rw [ih h2 k2 (List.Perm.cons_inv hp)]
/-! ## compared as numbers that are turned round -/
theorem lt_bits {x y i : Nat} (hx : x.testBit i = false) (hy : y.testBit i = true) (h : ∀ j, i < j → x.testBit j = y.testBit j) : x < y := by
  have h1 : x / 2 ^ i / 2 = y / 2 ^ i / 2 := Nat.eq_of_testBit_eq (fun j => by
    rw [← Nat.testBit_succ, ← Nat.testBit_succ, Nat.testBit_div_two_pow, Nat.testBit_div_two_pow]
    exact h _ (by omega))
  rw [Nat.testBit_eq_decide_div_mod_eq] at hx hy
  have h2 : x / 2 ^ i < y / 2 ^ i := by
    simp only [decide_eq_false_iff_not, decide_eq_true_eq] at hx hy
    omega
  exact Nat.lt_of_div_lt_div h2
theorem rev_lt {r s x y n : Nat} (hn : n ≤ 64) (hr : ∀ i, i < 64 → r.testBit i = x.testBit (63 - i)) (hr2 : ∀ i, 64 ≤ i → r.testBit i = false) (hs : ∀ i, i < 64 → s.testBit i = y.testBit (63 - i)) (hs2 : ∀ i, 64 ≤ i → s.testBit i = false) (h : Ld n x y) : s < r := by
  obtain ⟨d, h1, h2, h3, h4⟩ := h
  refine lt_bits (i := 63 - d) ?_ ?_ (fun j hj => ?_)
  · rw [hs _ (by omega), show 63 - (63 - d) = d by omega]; exact h4
  · rw [hr _ (by omega), show 63 - (63 - d) = d by omega]; exact h3
  · by_cases e : j < 64
    · rw [hs j e, hr j e]; exact (h2 (63 - j) (by omega)).symm
    · rw [hs2 j (by omega), hr2 j (by omega)]
/-! ## compared as lists -/
def cmpL : List Nat → List Nat → Int
  | [], [] => 0
  | [], _ :: _ => -1
  | _ :: _, [] => 1
  | a :: as', b :: bs => if a < b then -1 else if b < a then 1 else cmpL as' bs
theorem cmpL_pre (p a b : List Nat) : cmpL (p ++ a) (p ++ b) = cmpL a b := by
  induction p with
  | nil => rfl
  | cons x xs ih =>
    show (if x < x then (-1 : Int) else if x < x then 1 else cmpL (xs ++ a) (xs ++ b)) = _
    rw [if_neg (Nat.lt_irrefl _), if_neg (Nat.lt_irrefl _), ih]
theorem lst_split {n d x : Nat} (hd : d < n) : lst n x = (List.range d).filter (fun i => x.testBit i) ++ (List.range' d (n - d)).filter (fun i => x.testBit i) := by
  unfold lst
  rw [← List.filter_append]
  congr 1
  refine List.ext_getElem (by simp; omega) (fun i h1 h2 => ?_)
  rw [List.getElem_range]
  by_cases e : i < d
  · rw [List.getElem_append_left (by simpa using e)]; simp
  · rw [List.getElem_append_right (by simpa using e)]; simp; omega
theorem ld_cmp {n x y : Nat} (h : Ld n x y) (hl : (lst n x).length = (lst n y).length) : cmpL (lst n x) (lst n y) = -1 := by
  obtain ⟨d, h1, h2, h3, h4⟩ := h
  have e1 : (List.range d).filter (fun i => x.testBit i) = (List.range d).filter (fun i => y.testBit i) := List.filter_congr (fun i hi => h2 i (List.mem_range.1 hi))
  obtain ⟨m, hm⟩ : ∃ m, n - d = m + 1 := ⟨n - d - 1, by omega⟩
  rw [lst_split h1, lst_split (x := y) h1, e1] at hl ⊢
  rw [hm, List.range'_succ, List.filter_cons, List.filter_cons, h3, h4] at hl ⊢
  simp only [if_true, Bool.false_eq_true, if_false, List.length_append, List.length_cons] at hl ⊢
  rw [cmpL_pre]
  cases hy : (List.range' (d + 1) m).filter (fun i => y.testBit i) with
  | nil => rw [hy] at hl; simp at hl
  | cons e es =>
    have he : e ∈ (List.range' (d + 1) m).filter (fun i => y.testBit i) := by rw [hy]; exact List.mem_cons_self ..
    have := List.mem_range'.1 (List.mem_filter.1 he).1
    obtain ⟨_, _, rfl⟩ := this
    show (if d < _ then (-1 : Int) else _) = -1
    rw [if_pos (by omega)]
theorem cmpL_anti : ∀ (a b : List Nat), cmpL a b = -1 → cmpL b a = 1
  | [], [], h => by cases h
  | [], _ :: _, _ => rfl
  | _ :: _, [], h => by cases h
  | a :: as', b :: bs, h => by
    have h2 : (if a < b then (-1 : Int) else if b < a then 1 else cmpL as' bs) = -1 := h
    show (if b < a then (-1 : Int) else if a < b then 1 else cmpL bs as') = 1
    by_cases e : a < b
    · rw [if_neg (by omega), if_pos e]
    · rw [if_neg e] at h2
      by_cases e2 : b < a
      · rw [if_pos e2] at h2; cases h2
      · rw [if_neg e2] at h2
        rw [if_neg e2, if_neg e, cmpL_anti as' bs h2]
/-- as the reference compares: longer ones first, then by the first place -/
theorem ref_lt {n x y : Nat} (hx : ∀ i, n ≤ i → x.testBit i = false) (hy : ∀ i, n ≤ i → y.testBit i = false) (ht : tz x = tz y) (hne : x ≠ y) : (pop n y < pop n x ∨ (pop n x = pop n y ∧ cmpL (lst n x) (lst n y) < 0)) ↔ Lt n x y := by
  constructor
  · rintro (h | ⟨h1, h2⟩)
    · exact .inr ⟨ht, .inl h⟩
    · rcases ld_or hx hy with h3 | h3 | h3
      · exact absurd h3 hne
      · exact .inr ⟨ht, .inr ⟨h1, h3⟩⟩
      · have h4 := ld_cmp h3 h1.symm
        rw [cmpL_anti _ _ h4] at h2
        omega
  · rintro (h | ⟨_, h | ⟨h1, h2⟩⟩)
    · omega
    · exact .inl h
    · exact .inr ⟨h1, by rw [ld_cmp h2 h1]; decide⟩
end Go.Proofs.YtahdbbgkgokkhaaDoor
