/- Completing types: the two ways to find parents agree. No program in sight. -/
import Derived.Test.YtahdbbgkgokkhaaDoorRcn
namespace Go.Proofs.YtahdbbgkgokkhaaDoor
open Go.RowKit
theorem pop_count (x : Nat) : pop 64 x = (List.range 64).countP (fun i => x.testBit i) := by unfold pop lst; rw [List.countP_eq_length_filter]
theorem pop_mono {x y : Nat} (h : subN x y = true) : pop 64 x ≤ pop 64 y := by
  rw [pop_count, pop_count]
  exact List.countP_mono_left (fun i _ hi => subN_iff.1 h i hi)
theorem pop_strict {x y : Nat} (h : subN x y = true) (hy : y < 18446744073709551616) (hn : ¬ subN y x = true) : pop 64 x < pop 64 y := by
  have hex : ∃ i, y.testBit i = true ∧ x.testBit i = false := by
    refine Classical.byContradiction (fun hc => hn (subN_iff.2 (fun i hi => ?_)))
    cases hx : x.testBit i with
    | true => rfl
    | false => exact absurd ⟨i, hi, hx⟩ hc
  obtain ⟨i, h1, h2⟩ := hex
  have hi : i < 64 := by
    refine Nat.lt_of_not_le (fun hle => ?_)
    rw [hi64 hy i hle] at h1; cases h1
  rw [pop_count, pop_count]
  exact countP_lt (fun j hj => subN_iff.1 h j hj) _ i (List.mem_range.2 hi) h1 h2
theorem subN_and (x y : Nat) : subN (x &&& y) x = true := subN_iff.2 (fun i hi => by rw [Nat.testBit_and] at hi; simp only [Bool.and_eq_true] at hi; exact hi.1)
theorem and_pop {x y : Nat} (hx : x < 18446744073709551616) : (¬ pop 64 (x &&& y) < pop 64 x) ↔ subN x y = true := by
  constructor
  · intro h
    cases hs : subN x y with
    | true => rfl
    | false =>
      refine absurd (pop_strict (subN_and x y) hx (fun h2 => ?_)) h
      have : subN x y = true := subN_iff.2 (fun i hi => by
        have := subN_iff.1 h2 i hi
        rw [Nat.testBit_and] at this
        simp only [Bool.and_eq_true] at this
        exact this.2)
      rw [hs] at this; cases this
  · intro h
    have : x &&& y = x := by simpa [subN] using h
    rw [this]; omega
theorem and_popE {x y : Nat} (hx : x < 18446744073709551616) : pop 64 (x &&& y) = pop 64 x ↔ subN x y = true := by
  rw [← and_pop hx]
  have := pop_mono (subN_and x y)
  omega
theorem subN_trans {x y z : Nat} (h : subN x y = true) (k : subN y z = true) : subN x z = true := subN_iff.2 (fun i hi => subN_iff.1 k i (subN_iff.1 h i hi))
theorem subN_anti {x y : Nat} (h : subN x y = true) (k : subN y x = true) : x = y := Nat.eq_of_testBit_eq (fun i => by
  cases hx : x.testBit i with
  | true => exact (subN_iff.1 h i hx).symm
  | false =>
    cases hy : y.testBit i with
    | false => rfl
    | true => rw [subN_iff.1 k i hy] at hx; cases hx)
/-- no set holds an earlier one -/
def Fwd (M : List Nat) : Prop := ∀ a b, a < b → b < M.length → ¬ subN (M.getD a 0) (M.getD b 0) = true
theorem dir_eq {M : List Nat} (hb : ∀ x ∈ M, x < 18446744073709551616) (hF : Fwd M) {i j : Nat} (hi : i < M.length) (hj : j < M.length) : dirR M i j = (decide (j < i) && dirB M i j) := by
  have bi := getD_lt hb hi
  have bj := getD_lt hb hj
  have key : ∀ {a b : Nat}, a < M.length → b < M.length → subN (M.getD a 0) (M.getD b 0) = true → a ≠ b → b < a ∧ pop 64 (M.getD a 0) < pop 64 (M.getD b 0) := fun {a b} ha hb' hs hne => by
    have h1 : b < a := by
      refine Nat.lt_of_not_le (fun h => hF a b (by omega) hb' hs)
    exact ⟨h1, pop_strict hs (getD_lt hb hb') (hF b a h1 ha)⟩
  have hany : subN (M.getD i 0) (M.getD j 0) = true → j < i → (List.range M.length).any (bR M i j) = (List.range i).any (btw M i j) := fun _ hji => by
    rw [Bool.eq_iff_iff, List.any_eq_true, List.any_eq_true]
    constructor
    · rintro ⟨k, hk, h⟩
      have hkl := List.mem_range.1 hk
      unfold bR at h
      simp only [Bool.and_eq_true, decide_eq_true_eq] at h
      obtain ⟨⟨⟨h1, h2⟩, h3⟩, h4⟩ := h
      have s1 := (and_popE bi).1 h3
      have s2 := (and_popE (getD_lt hb hkl)).1 h4
      have hik : i ≠ k := fun e => by rw [e] at h1; omega
      have hkj : k ≠ j := fun e => by rw [e] at h2; omega
      refine ⟨k, List.mem_range.2 (key hi hkl s1 hik).1, ?_⟩
      unfold btw
      rw [s1, s2, decide_eq_true hkj]; rfl
    · rintro ⟨k, hk, h⟩
      have hki := List.mem_range.1 hk
      have hkl : k < M.length := by omega
      unfold btw at h
      simp only [Bool.and_eq_true, decide_eq_true_eq] at h
      obtain ⟨⟨h1, s1⟩, s2⟩ := h
      refine ⟨k, List.mem_range.2 hkl, ?_⟩
      unfold bR
      rw [decide_eq_true (key hi hkl s1 (by omega)).2, decide_eq_true (key hkl hj s2 h1).2, decide_eq_true ((and_popE bi).2 s1), decide_eq_true ((and_popE (getD_lt hb hkl)).2 s2)]
      rfl
  unfold dirR dirB
  by_cases hs : subN (M.getD i 0) (M.getD j 0) = true
  · by_cases e : i = j
    · subst e
      simp
    · obtain ⟨h1, h2⟩ := key hi hj hs e
      rw [decide_eq_true h1, decide_eq_true h2, hs, decide_eq_false ((and_pop bi).2 hs), hany hs h1]
      simp
  · have h1 : pop 64 (M.getD i 0 &&& M.getD j 0) < pop 64 (M.getD i 0) := Decidable.not_not.1 (fun h => hs ((and_pop bi).1 h))
    rw [decide_eq_true h1, Bool.eq_false_iff.2 hs]
    simp
theorem filt_range {p : Nat → Bool} {i : Nat} : ∀ n, i ≤ n → (List.range n).filter (fun j => decide (j < i) && p j) = (List.range i).filter p := fun n h => by
  obtain ⟨d, rfl⟩ : ∃ d, n = i + d := ⟨n - i, by omega⟩
  rw [List.range_add, List.filter_append]
  have e1 : ((List.range d).map (i + ·)).filter (fun j => decide (j < i) && p j) = [] := by
    rw [List.filter_eq_nil_iff]
    intro a ha
    obtain ⟨q, _, rfl⟩ := List.mem_map.1 ha
    simp only [Bool.and_eq_true, decide_eq_true_eq]
    intro h; omega
  rw [e1, List.append_nil]
  exact List.filter_congr (fun j hj => by rw [decide_eq_true (List.mem_range.1 hj)]; rfl)
theorem par_eq {M : List Nat} (hb : ∀ x ∈ M, x < 18446744073709551616) (hF : Fwd M) {i : Nat} (hi : i < M.length) : parR M i M.length = parK M i i := by
  unfold parR parK
  congr 1
  exact (List.filter_congr (fun j hj => dir_eq hb hF hi (List.mem_range.1 hj))).trans (filt_range M.length (by omega))
theorem outR_eq {O : List (Nat × ByteArray)} (hb : ∀ x ∈ O.map Prod.fst, x < 18446744073709551616) (hF : Fwd (O.map Prod.fst)) : outR O O.length = outT O := by
  unfold outR outT
  refine List.map_congr_left (fun i hi => ?_)
  unfold tyR tyO
  have hi2 : i < (O.map Prod.fst).length := by rw [List.length_map]; exact List.mem_range.1 hi
  rw [par_eq hb hF hi2]
/-! ## the list that is written: no set holds an earlier one -/
theorem outG_fwd {l : List Ty} {nm : Nat → ByteArray} {u : Nat → Bool} (hv : VT l) (h60 : l.length ≤ 60) : ∀ (k i a : Nat) (D : List Nat), k = (l.length - i) + D.length → i ≤ l.length → (∀ x ∈ D, DnS l x ∧ i ≤ tz x ∧ ¬ x ∈ base l) → D.Pairwise (Lt 64) →
    ((∀ y ∈ (outG (downN l) nm u k i a D).map Prod.fst, y ∈ D ∨ ∃ i', i ≤ i' ∧ i' < l.length ∧ y = downN l i') ∧ ((outG (downN l) nm u k i a D).map Prod.fst).Pairwise (fun x y => ¬ subN x y = true))
  | 0, i, a, D, _, _, _, _ => ⟨(fun y hy => by cases hy), List.Pairwise.nil⟩
  | k + 1, i, a, D, hk, hi, hD, hs => by
    by_cases hpop : ∃ x D', D = x :: D' ∧ tz x = i
    · obtain ⟨x, D', rfl, ht⟩ := hpop
      rw [outG_pop ht, List.map_cons]
      obtain ⟨s1, s2⟩ := List.pairwise_cons.1 hs
      obtain ⟨i1, i2⟩ := outG_fwd hv h60 k i (nxt u a) D' (by rw [List.length_cons] at hk; omega) hi (fun y hy => hD y (List.mem_cons_of_mem _ hy)) s2
      obtain ⟨d1, _, d3⟩ := hD x (List.mem_cons_self ..)
      obtain ⟨t1, t2, t3⟩ := d1.tz h60
      refine ⟨fun y hy => ?_, List.pairwise_cons.2 ⟨fun y hy hsub => ?_, i2⟩⟩
      · rcases List.mem_cons.1 hy with rfl | hy
        · exact .inl (List.mem_cons_self ..)
        · exact (i1 y hy).imp (fun h => List.mem_cons_of_mem _ h) id
      · have hsub : subN x y = true := hsub
        rcases i1 y hy with h | ⟨i', h1, h2, rfl⟩
        · have hp := pop_mono hsub
          rcases s1 y h with e | ⟨e1, e | ⟨_, e⟩⟩
          · obtain ⟨_, _, u3⟩ := (hD y (List.mem_cons_of_mem _ h)).1.tz h60
            have := subN_iff.1 hsub _ t2
            rw [u3 _ e] at this; cases this
          · omega
          · obtain ⟨d, _, _, e3, e4⟩ := e
            rw [subN_iff.1 hsub d e3] at e4; cases e4
        · have hb := subN_iff.1 hsub _ t2
          rw [ht, down_bit] at hb
          simp only [Bool.and_eq_true, decide_eq_true_eq] at hb
          have h3 := sub_le' hv hb.2
          have h4 : i' = i := by omega
          subst h4
          refine d3 ?_
          have : x = downN l i' := by
            refine subN_anti hsub (subN_iff.2 (fun j hj => ?_))
            rw [down_bit] at hj
            simp only [Bool.and_eq_true, decide_eq_true_eq] at hj
            rw [ht] at t2
            exact d1.dn i' j hj.1 t2 hj.2
          rw [this]
          exact List.mem_map.2 ⟨i', List.mem_range.2 h2, rfl⟩
    · have hno : ∀ x ∈ D.head?, tz x ≠ i := fun x hx e => by
        cases D with
        | nil => cases hx
        | cons y D' => cases hx; exact hpop ⟨_, _, rfl, e⟩
      have hgt : ∀ x ∈ D, i + 1 ≤ tz x := fun x hx => by
        cases D with
        | nil => cases hx
        | cons y D' =>
          have h1 := hno y rfl
          have h2 := (hD y (List.mem_cons_self ..)).2.1
          rcases List.mem_cons.1 hx with rfl | hx
          · omega
          · rcases (List.pairwise_cons.1 hs).1 x hx with e | ⟨e, _⟩ <;> omega
      have hil : i < l.length := by
        refine Nat.lt_of_not_le (fun h => ?_)
        have : 0 < D.length := by omega
        obtain ⟨x, hx⟩ := List.exists_mem_of_length_pos this
        have h1 := hgt x hx
        have h2 := ((hD x hx).1.tz h60).1
        omega
      rw [outG_old hno, List.map_cons]
      obtain ⟨i1, i2⟩ := outG_fwd hv h60 k (i + 1) a D (by omega) hil (fun y hy => ⟨(hD y hy).1, hgt y hy, (hD y hy).2.2⟩) hs
      refine ⟨fun y hy => ?_, List.pairwise_cons.2 ⟨fun y hy hsub => ?_, i2⟩⟩
      · rcases List.mem_cons.1 hy with rfl | hy
        · exact .inr ⟨i, Nat.le_refl _, hil, rfl⟩
        · rcases i1 y hy with h | ⟨i', h1, h2, h3⟩
          · exact .inl h
          · exact .inr ⟨i', by omega, h2, h3⟩
      · have hsub : subN (downN l i) y = true := hsub
        have hbi : (downN l i).testBit i = true := by rw [down_bit]; simp [hil, sub_refl hv]
        have hb := subN_iff.1 hsub i hbi
        rcases i1 y hy with h | ⟨i', h1, h2, rfl⟩
        · obtain ⟨_, _, u3⟩ := (hD y h).1.tz h60
          rw [u3 i (hgt y h)] at hb; cases hb
        · rw [down_bit] at hb
          simp only [Bool.and_eq_true, decide_eq_true_eq] at hb
          have h3 := sub_le' hv hb.2
          omega
/-- what is known of the sets that are added -/
structure AddD (l : List Ty) (D : List Nat) : Prop where
  dn : ∀ x ∈ D, DnS l x
  new : ∀ x ∈ D, ¬ x ∈ base l
  so : D.Pairwise (Lt 64)
  nd : D.Nodup
  sz : l.length + D.length ≤ 60
theorem addD_of {l : List Ty} (hv : VT l) (h60 : l.length ≤ 60) {ds D : List Nat} (h : compS l = some (base l ++ ds)) (hp : D.Perm ds) (hw : D.Pairwise (fun x y => ¬ cmpU y x < 0)) : AddD l D := by
  have hk := comp_keep hv h60 h
  have hdn := comp_dn hv h60 h hp
  have hnd := List.nodup_append.1 hk.nd
  have hDn : D.Nodup := hp.symm.nodup hnd.2.1
  have hle := hk.le
  rw [List.length_append, base_len, ← hp.length_eq] at hle
  exact ⟨hdn, fun x hx hb => hnd.2.2 x hb x (hp.mem_iff.1 hx) rfl, sorted_Lt (fun x hx => (hdn x hx).lt64 h60) hDn hw, hDn, hle⟩
theorem AddD.bd {l : List Ty} {D : List Nat} (h : AddD l D) (h60 : l.length ≤ 60) : ∀ x ∈ D, x < 18446744073709551616 := fun x hx => (h.dn x hx).lt64 h60
theorem AddD.fwd {l : List Ty} {D : List Nat} (h : AddD l D) (hv : VT l) (h60 : l.length ≤ 60) : Fwd ((outL l D).map Prod.fst) := by
  have := (outG_fwd hv h60 (nm := nmL l) (u := usedB l) (l.length + D.length) 0 0 D (by omega) (Nat.zero_le _) (fun x hx => ⟨h.dn x hx, Nat.zero_le _, h.new x hx⟩) h.so).2
  intro a b hab hb hs
  have h1 := List.pairwise_iff_getElem.1 this a b (by unfold outL at hb; omega) (by unfold outL at hb; exact hb) hab
  refine h1 ?_
  unfold outL at hs hb
  have ha : a < ((outG (downN l) (nmL l) (usedB l) (l.length + D.length) 0 0 D).map Prod.fst).length := by omega
  simp only [List.getD_eq_getElem?_getD, List.getElem?_eq_getElem hb, List.getElem?_eq_getElem ha, Option.getD_some] at hs
  exact hs
theorem AddD.out {l : List Ty} {D : List Nat} (h : AddD l D) (hv : VT l) (h60 : l.length ≤ 60) : outR (outL l D) (outL l D).length = outT (outL l D) := outR_eq (outM_lt h60 (h.bd h60) rfl) (h.fwd hv h60)
end Go.Proofs.YtahdbbgkgokkhaaDoor
