/- Plain laws of the order of types: meets, joins, remainders. No program in sight. -/
import Derived.Test.YtlaihbaneoeffaaDoorHFault
namespace Go.Proofs.YtlaihbaneoeffaaDoor
open Go.RowKit
/-! ## clearing the least member -/
theorem clear_low {p : Nat → Bool} {n : Nat} (hn : n ≤ 60) (h0 : mask p n ≠ 0) : mask p n &&& (mask p n - 1) = mask (fun j => p j && !(decide (j = Lib.ctz 64 (mask p n)))) n := by
  have hlt : mask p n < 2 ^ 64 := by
    have h1 := mask_lt64 p hn
    have h2 : (2 : Nat) ^ 64 = 18446744073709551616 := by decide
    omega
  obtain ⟨m, hm, hk⟩ := Lib.ctzFrom_spec 64 (mask p n) (by omega) hlt
  have e : Lib.ctz 64 (mask p n) = Lib.ctzFrom 64 (mask p n) := by simp [Lib.ctz, h0]
  rw [e]
  generalize Lib.ctzFrom 64 (mask p n) = c at *
  have hp2 := Nat.two_pow_pos c
  have hb : ∀ j, (mask p n).testBit j = (decide (c ≤ j) && (2 * m + 1).testBit (j - c)) := by
    intro j
    rw [hm, Nat.mul_comm, Nat.testBit_mul_two_pow]
  have hx1 : mask p n - 1 = 2 ^ c * (2 * m) + (2 ^ c - 1) := by
    have h1 : mask p n = 2 ^ c * (2 * m) + 2 ^ c := by rw [hm, Nat.mul_add, Nat.mul_one]
    omega
  have hb1 : ∀ j, c ≤ j → (mask p n - 1).testBit j = (2 * m).testBit (j - c) := by
    intro j hj
    rw [hx1, Nat.testBit_two_pow_mul_add _ (by omega), if_neg (by omega)]
  apply mask_ext
  intro j
  rw [Nat.testBit_and]
  by_cases hj : c ≤ j
  · rw [hb1 j hj]
    by_cases e2 : j = c
    · subst e2
      simp
    · have h3 : (decide (j < n) && p j) = (2 * m + 1).testBit (j - c) := by
        rw [← mask_bit, hb]; simp [hj]
      obtain ⟨t, ht⟩ : ∃ t, j - c = t + 1 := ⟨j - c - 1, by omega⟩
      rw [hb, ht]
      rw [ht] at h3
      have h4 : (2 * m + 1).testBit (t + 1) = m.testBit t := by rw [Nat.testBit_succ]; congr 1; omega
      have h5 : (2 * m).testBit (t + 1) = m.testBit t := by rw [Nat.testBit_succ]; congr 1; omega
      rw [h4, h5]
      rw [h4] at h3
      simp only [e2, decide_false, Bool.not_false, Bool.and_true, h3, hj, decide_true, Bool.true_and, Bool.and_self]
  · have h3 : (decide (j < n) && p j) = false := by rw [← mask_bit, hb]; simp [hj]
    rw [hb]
    simp only [hj, decide_false, Bool.false_and]
    cases h4 : decide (j < n) <;> simp_all
/-! ## joins -/
def capB (l : List Ty) (a b c : Nat) : Bool := sub l a c && sub l b c
def joinB (l : List Ty) (a b c : Nat) : Bool := capB l a b c && (List.range l.length).all (fun j => !(!(decide (j = c)) && sub l j c && capB l a b j))
def joinsK (l : List Ty) (a b k : Nat) : List Int := ((List.range k).filter (joinB l a b)).map (fun (n : Nat) => (n : Int))
theorem joinsK_yes {l : List Ty} {a b k : Nat} (h : joinB l a b k = true) : joinsK l a b (k + 1) = joinsK l a b k ++ [(k : Int)] := by
  simp [joinsK, List.range_succ, List.filter_append, h]
theorem joinsK_no {l : List Ty} {a b k : Nat} (h : joinB l a b k = false) : joinsK l a b (k + 1) = joinsK l a b k := by
  simp [joinsK, List.range_succ, List.filter_append, h]
theorem joinsK_skip {l : List Ty} {a b k : Nat} : ∀ d, (∀ j, k ≤ j → j < k + d → joinB l a b j = false) → joinsK l a b (k + d) = joinsK l a b k
  | 0, _ => rfl
  | d + 1, h => by
    rw [← Nat.add_assoc, joinsK_no (h (k + d) (by omega) (by omega))]
    exact joinsK_skip d (fun j h1 h2 => h j h1 (by omega))
theorem joinsK_le (l : List Ty) (a b k : Nat) : (joinsK l a b k).length ≤ k := by
  have := List.length_filter_le (joinB l a b) (List.range k)
  simpa [joinsK] using this
theorem joinB_cap {l : List Ty} {a b c : Nat} (h : capB l a b c = false) : joinB l a b c = false := by simp [joinB, h]
theorem joinB_iff {l : List Ty} {a b c : Nat} : joinB l a b c = true ↔ capB l a b c = true ∧ ∀ j, j < l.length → j ≠ c → sub l j c = true → capB l a b j = false := by
  unfold joinB
  rw [Bool.and_eq_true, List.all_eq_true]
  refine and_congr_right (fun _ => ⟨fun h j hj hne hs => ?_, fun h j hj => ?_⟩)
  · have := h j (List.mem_range.2 hj)
    simpa [hne, hs] using this
  · have hj' := List.mem_range.1 hj
    by_cases hne : j = c
    · simp [hne]
    · cases hs : sub l j c
      · simp
      · simp [h j hj' hne hs]
theorem cap_and (l : List Ty) (a b : Nat) : upN l a &&& upN l b = mask (capB l a b) l.length := mask_and _ _ _
theorem join_test {l : List Ty} (hv : VT l) {a b i : Nat} (hi : i < l.length) (hb : capB l a b i = true) : (downN l i &&& mask (capB l a b) l.length = 2 ^ i) ↔ joinB l a b i = true := by
  unfold downN
  rw [mask_and, mask_one hi, mask_inj, joinB_iff]
  constructor
  · intro h
    refine ⟨hb, fun j hj hne hs => ?_⟩
    have := h j hj
    simpa [hs, hne] using this
  · rintro ⟨_, h⟩ j hj
    by_cases hne : j = i
    · subst hne; simp [sub_refl hv, hb]
    · cases hs : sub l j i
      · simp [hne]
      · simp [hne, h j hj hne hs]
/-- what is left of the common supertypes from k on -/
def restN (l : List Ty) (a b k : Nat) : Nat := mask (fun i => capB l a b i && decide (k ≤ i)) l.length
theorem restN_zero (l : List Ty) (a b : Nat) : restN l a b 0 = mask (capB l a b) l.length := mask_congr (fun j _ => by simp)
theorem restN_lt {l : List Ty} (h : l.length ≤ 60) (a b k : Nat) : restN l a b k < 18446744073709551616 := mask_lt64 _ h
structure RestAt (l : List Ty) (a b k i : Nat) : Prop where
  lt : i < l.length
  le : k ≤ i
  cap : capB l a b i = true
  gap : ∀ j, k ≤ j → j < i → joinB l a b j = false
  next : restN l a b k &&& (restN l a b k - 1) = restN l a b (i + 1)
theorem rest_at {l : List Ty} (h60 : l.length ≤ 60) {a b k : Nat} (h0 : restN l a b k ≠ 0) : RestAt l a b k (Lib.ctz 64 (restN l a b k)) := by
  obtain ⟨h1, h2, h3⟩ := ctz_mask h60 h0
  simp only [Bool.and_eq_true, decide_eq_true_eq] at h2
  have hc : ∀ j, k ≤ j → j < Lib.ctz 64 (restN l a b k) → capB l a b j = false := fun j hj hl => by
    have := h3 j hl
    simpa [hj] using this
  refine ⟨h1, h2.2, h2.1, fun j hj hl => joinB_cap (hc j hj hl), ?_⟩
  unfold restN
  rw [clear_low h60 h0]
  refine mask_congr (fun j hj => ?_)
  show (capB l a b j && decide (k ≤ j) && !decide (j = Lib.ctz 64 (restN l a b k))) = (capB l a b j && decide (Lib.ctz 64 (restN l a b k) + 1 ≤ j))
  have hkc : k ≤ Lib.ctz 64 (restN l a b k) := h2.2
  clear h1 h2 h3
  generalize Lib.ctz 64 (restN l a b k) = c at *
  by_cases e : j = c
  · subst e; simp
  · by_cases hkj : k ≤ j
    · by_cases hlt : j < c
      · simp [hc j hkj hlt]
      · have : c + 1 ≤ j := by omega
        simp [e, hkj, this]
    · have : ¬ c + 1 ≤ j := by omega
      simp [hkj, this]
theorem rest_end {l : List Ty} {a b k : Nat} (hk : k ≤ l.length) (h0 : restN l a b k = 0) : joinsK l a b l.length = joinsK l a b k := by
  obtain ⟨d, hd⟩ : ∃ d, l.length = k + d := ⟨l.length - k, by omega⟩
  rw [hd]
  refine joinsK_skip d (fun j hj hl => joinB_cap ?_)
  have := mask_eq_zero.1 h0 j (by omega)
  simpa [hj] using this
/-! ## meets -/
theorem meet_is {l : List Ty} (hv : VT l) (h60 : l.length ≤ 60) {a b m : Nat} (hm : m < l.length) (hcm : comm l a b m = true) (hs : ∀ i, i < l.length → comm l a b i = true → sub l i m = true) : meet l a b = (m, true, false) := by
  have h0 : commN l a b ≠ 0 := fun h => by
    have := mask_eq_zero.1 h m hm
    rw [hcm] at this; cases this
  have hz := ctz_mask h60 h0
  have he : Lib.ctz 64 (commN l a b) = m := by
    have h1 : ¬ m < Lib.ctz 64 (commN l a b) := fun h => by
      have := hz.2.2 m h
      rw [hcm] at this; cases this
    have h2 := sub_le' hv (hs _ hz.1 hz.2.1)
    exact Nat.le_antisymm (Nat.le_of_not_lt h1) h2
  have hd : downN l (Lib.ctz 64 (commN l a b)) = commN l a b := by
    rw [he]
    refine mask_congr (fun i hi => ?_)
    cases h1 : sub l i m with
    | true =>
      simp only [comm, Bool.and_eq_true] at hcm
      simp [comm, sub_tr hv h1 hcm.1, sub_tr hv h1 hcm.2]
    | false =>
      cases h2 : comm l a b i with
      | false => rfl
      | true => rw [hs i hi h2] at h1; cases h1
  unfold meet
  rw [if_neg h0, if_neg (fun h => h hd), he]
theorem meet_spec {l : List Ty} (h60 : l.length ≤ 60) {a b : Nat} (h : (meet l a b).2.1 = true) : (meet l a b).1 < l.length ∧ comm l a b (meet l a b).1 = true ∧ ∀ i, i < l.length → comm l a b i = true → sub l i (meet l a b).1 = true := by
  by_cases h0 : commN l a b = 0
  · simp only [meet, if_pos h0] at h; cases h
  by_cases hd : downN l (Lib.ctz 64 (commN l a b)) ≠ commN l a b
  · simp only [meet, if_neg h0, if_pos hd] at h; cases h
  have e : meet l a b = (Lib.ctz 64 (commN l a b), true, false) := by simp only [meet, if_neg h0, if_neg hd]
  have hz := ctz_mask h60 h0
  rw [e]
  refine ⟨hz.1, hz.2.1, fun i hi hc => ?_⟩
  have hd' : downN l (Lib.ctz 64 (commN l a b)) = commN l a b := Decidable.not_not.1 hd
  have := mask_inj.1 hd' i hi
  rw [hc] at this; exact this
theorem meet_zero {l : List Ty} {a b : Nat} (h : (meet l a b).2.1 = false) : (meet l a b).1 = 0 := by
  unfold meet at h ⊢
  split
  · rfl
  · rename_i h0
    rw [if_neg h0] at h
    split
    · rfl
    · rename_i hd
      rw [if_neg hd] at h; cases h
theorem meet_none_of {l : List Ty} (_hv : VT l) (h60 : l.length ≤ 60) {a b : Nat} (h : ∀ m, m < l.length → comm l a b m = true → ∃ i, i < l.length ∧ comm l a b i = true ∧ sub l i m = false) : (meet l a b).2.1 = false ∧ (meet l a b).1 = 0 := by
  cases hok : (meet l a b).2.1 with
  | false => exact ⟨rfl, meet_zero hok⟩
  | true =>
    obtain ⟨h1, h2, h3⟩ := meet_spec h60 hok
    obtain ⟨i, hi, hc, hs⟩ := h _ h1 h2
    rw [h3 i hi hc] at hs; cases hs
theorem meet_comm (l : List Ty) (a b : Nat) : meet l b a = meet l a b := by
  have e : commN l b a = commN l a b := mask_congr (fun i _ => Bool.and_comm _ _)
  unfold meet; rw [e]
/-- in a hierarchy without faults common subtypes have a meet -/
structure Sound (l : List Ty) : Prop where
  vt : VT l
  pos : 0 < l.length
  le : l.length ≤ 60
  all : ∀ a b i, a < l.length → b < l.length → i < l.length → comm l a b i = true → (meet l a b).2.1 = true
theorem sound_of {l : List Ty} {fs : List Ft} (h : (hierFault l fs).1 = 0) : Sound l := by
  unfold hierFault at h
  by_cases h4 : 40 < fs.length
  · rw [if_pos h4] at h; cases h
  rw [if_neg h4] at h
  by_cases ht : (typesFault l).1 ≠ 0
  · rw [if_pos ht] at h; exact absurd h ht
  rw [if_neg ht] at h
  have ht0 := Decidable.not_not.1 ht
  by_cases hu : (unmetF l).1 ≠ 0
  · rw [if_pos hu] at h; exact absurd h hu
  have hu0 := Decidable.not_not.1 hu
  have hv := vt_of ht0
  have hl := types_len ht0
  have h60 : l.length ≤ 60 := by omega
  have hlt : ∀ a b, a < b → b < l.length → (meet l a b).2.2 = false := fun a b hab hb => by
    have h1 := firstF_zero hu0 b (Nat.zero_le _) (by omega)
    cases h2 : (meet l a b).2.2 with
    | false => rfl
    | true => rw [unmF_yes hab h2] at h1; cases h1
  have hall : ∀ a b, a < l.length → b < l.length → (meet l a b).2.2 = false := fun a b ha hb => by
    rcases Nat.lt_trichotomy a b with h1 | h1 | h1
    · exact hlt a b h1 hb
    · subst h1
      have := meet_is hv h60 (a := a) (b := a) ha (by simp [comm, sub_refl hv]) (fun i _ hc => by
        simp only [comm, Bool.and_eq_true] at hc
        exact hc.1)
      rw [this]
    · rw [← meet_comm]; exact hlt b a h1 ha
  refine ⟨hv, by omega, h60, fun a b i ha hb hi hc => ?_⟩
  have h1 := hall a b ha hb
  have h0 : commN l a b ≠ 0 := fun h => by
    have := mask_eq_zero.1 h i hi
    rw [hc] at this; cases this
  by_cases hd : downN l (Lib.ctz 64 (commN l a b)) ≠ commN l a b
  · simp only [meet, if_neg h0, if_pos hd] at h1; cases h1
  · simp only [meet, if_neg h0, if_neg hd]
theorem sub_anti {l : List Ty} (hv : VT l) {a b : Nat} (h : sub l a b = true) (h2 : sub l b a = true) : a = b := Nat.le_antisymm (sub_le' hv h2) (sub_le' hv h)
theorem sub_meet {l : List Ty} (hs : Sound l) {a b : Nat} (ha : a < l.length) : sub l a b = ((meet l a b).2.1 && decide ((meet l a b).1 = a)) := by
  cases h : sub l a b with
  | true =>
    have := meet_is hs.vt hs.le (a := a) (b := b) ha (by simp [comm, sub_refl hs.vt, h]) (fun i _ hc => by
      simp only [comm, Bool.and_eq_true] at hc
      exact hc.1)
    rw [this]; simp
  | false =>
    cases hok : (meet l a b).2.1 with
    | false => rfl
    | true =>
      obtain ⟨h1, h2, h3⟩ := meet_spec hs.le hok
      by_cases e : (meet l a b).1 = a
      · rw [e] at h2
        simp only [comm, Bool.and_eq_true] at h2
        rw [h] at h2; cases h2.2
      · simp [e]
/-- the meet of three -/
structure Tri (l : List Ty) (a b c m : Nat) (ok : Bool) : Prop where
  yes : ok = true → m < l.length ∧ (sub l m a = true ∧ sub l m b = true ∧ sub l m c = true) ∧ ∀ i, i < l.length → sub l i a = true → sub l i b = true → sub l i c = true → sub l i m = true
  no : ok = false → m = 0 ∧ ∀ i, i < l.length → sub l i a = true → sub l i b = true → sub l i c = true → False
theorem Tri.uniq {l : List Ty} (hv : VT l) {a b c m n : Nat} {p q : Bool} (h : Tri l a b c m p) (k : Tri l a b c n q) : p = q ∧ m = n := by
  cases p with
  | true =>
    obtain ⟨h1, ⟨h2, h3, h4⟩, h5⟩ := h.yes rfl
    cases q with
    | true =>
      obtain ⟨k1, ⟨k2, k3, k4⟩, k5⟩ := k.yes rfl
      exact ⟨rfl, sub_anti hv (k5 m h1 h2 h3 h4) (h5 n k1 k2 k3 k4)⟩
    | false => exact ((k.no rfl).2 m h1 h2 h3 h4).elim
  | false =>
    cases q with
    | true =>
      obtain ⟨k1, ⟨k2, k3, k4⟩, k5⟩ := k.yes rfl
      exact ((h.no rfl).2 n k1 k2 k3 k4).elim
    | false => exact ⟨rfl, (h.no rfl).1.trans (k.no rfl).1.symm⟩
def meet3 (l : List Ty) (a b c : Nat) : Nat × Bool := if (meet l a b).2.1 = true then ((meet l (meet l a b).1 c).1, (meet l (meet l a b).1 c).2.1) else (0, false)
def meet3r (l : List Ty) (a b c : Nat) : Nat × Bool := if (meet l b c).2.1 = true then ((meet l a (meet l b c).1).1, (meet l a (meet l b c).1).2.1) else (0, false)
theorem tri_left {l : List Ty} (hs : Sound l) {a b c : Nat} (ha : a < l.length) (hb : b < l.length) (hc : c < l.length) : Tri l a b c (meet3 l a b c).1 (meet3 l a b c).2 := by
  unfold meet3
  by_cases h1 : (meet l a b).2.1 = true
  · rw [if_pos h1]
    obtain ⟨e1, e2, e3⟩ := meet_spec hs.le h1
    simp only [comm, Bool.and_eq_true] at e2 e3
    refine ⟨fun h2 => ?_, fun h2 => ⟨meet_zero h2, fun i hi p q r => ?_⟩⟩
    · obtain ⟨g1, g2, g3⟩ := meet_spec hs.le h2
      simp only [comm, Bool.and_eq_true] at g2 g3
      exact ⟨g1, ⟨sub_tr hs.vt g2.1 e2.1, sub_tr hs.vt g2.1 e2.2, g2.2⟩, fun i hi p q r => g3 i hi ⟨e3 i hi ⟨p, q⟩, r⟩⟩
    · have := hs.all _ c i e1 hc hi (by simp [comm, e3 i hi ⟨p, q⟩, r])
      rw [this] at h2; cases h2
  · rw [if_neg h1]
    refine ⟨fun h => (by cases h), fun _ => ⟨rfl, fun i hi p q r => h1 (hs.all a b i ha hb hi (by simp [comm, p, q]))⟩⟩
theorem tri_right {l : List Ty} (hs : Sound l) {a b c : Nat} (ha : a < l.length) (hb : b < l.length) (hc : c < l.length) : Tri l a b c (meet3r l a b c).1 (meet3r l a b c).2 := by
  unfold meet3r
  by_cases h1 : (meet l b c).2.1 = true
  · rw [if_pos h1]
    obtain ⟨e1, e2, e3⟩ := meet_spec hs.le h1
    simp only [comm, Bool.and_eq_true] at e2 e3
    refine ⟨fun h2 => ?_, fun h2 => ⟨meet_zero h2, fun i hi p q r => ?_⟩⟩
    · obtain ⟨g1, g2, g3⟩ := meet_spec hs.le h2
      simp only [comm, Bool.and_eq_true] at g2 g3
      exact ⟨g1, ⟨g2.1, sub_tr hs.vt g2.2 e2.1, sub_tr hs.vt g2.2 e2.2⟩, fun i hi p q r => g3 i hi ⟨p, e3 i hi ⟨q, r⟩⟩⟩
    · have := hs.all a _ i ha e1 hi (by simp [comm, e3 i hi ⟨q, r⟩, p])
      rw [this] at h2; cases h2
  · rw [if_neg h1]
    refine ⟨fun h => (by cases h), fun _ => ⟨rfl, fun i hi p q r => h1 (hs.all b c i hb hc hi (by simp [comm, q, r]))⟩⟩
theorem meet_assoc {l : List Ty} (hs : Sound l) {a b c : Nat} (ha : a < l.length) (hb : b < l.length) (hc : c < l.length) : meet3 l a b c = meet3r l a b c := by
  have := (tri_left hs ha hb hc).uniq hs.vt (tri_right hs ha hb hc)
  exact Prod.ext this.2 this.1
theorem join_meet {l : List Ty} (hs : Sound l) {a b : Nat} (ha : a < l.length) (h : (meet l a b).2.1 = true) : joinsK l a (meet l a b).1 l.length = [(a : Int)] := by
  obtain ⟨e1, e2, _⟩ := meet_spec hs.le h
  generalize (meet l a b).1 = m at *
  simp only [comm, Bool.and_eq_true] at e2
  have hj : ∀ c, joinB l a m c = decide (c = a) := fun c => by
    by_cases e : c = a
    · subst e
      simp only [decide_true]
      refine joinB_iff.2 ⟨by simp [capB, sub_refl hs.vt, e2.1], fun j hj hne hsj => ?_⟩
      cases hc : capB l c m j with
      | false => rfl
      | true =>
        simp only [capB, Bool.and_eq_true] at hc
        exact absurd (sub_anti hs.vt hsj hc.1) hne
    · simp only [e, decide_false]
      cases hc : joinB l a m c with
      | false => rfl
      | true =>
        obtain ⟨h1, h2⟩ := joinB_iff.1 hc
        simp only [capB, Bool.and_eq_true] at h1
        have := h2 a ha (Ne.symm e) h1.1
        simp [capB, sub_refl hs.vt, e2.1] at this
  have hlt : ∀ k, k ≤ a → joinsK l a m k = [] := fun k => by
    induction k with
    | zero => intro _; rfl
    | succ k ih =>
      intro hk
      rw [joinsK_no (by rw [hj]; exact decide_eq_false (by omega)), ih (by omega)]
  obtain ⟨d, hd⟩ : ∃ d, l.length = (a + 1) + d := ⟨l.length - (a + 1), by omega⟩
  rw [hd, joinsK_skip d (fun j h1 _ => by rw [hj]; exact decide_eq_false (by omega)), joinsK_yes (by rw [hj]; simp), hlt a (Nat.le_refl _)]
  rfl
/-! ## remainders -/
def modI (a n : Int) : Int := if a.tmod n < 0 then a.tmod n + n else a.tmod n
theorem modI_range (a : Int) {n : Int} (h : 0 < n) : 0 ≤ modI a n ∧ modI a n < n := by
  have h1 := Int.tmod_lt_of_pos a h
  have h2 := Int.lt_tmod_of_pos a h
  unfold modI; split <;> omega
def modN (a : Int) (n : Nat) : Nat := (modI a n).toNat
theorem modN_lt (a : Int) {n : Nat} (h : 0 < n) : modN a n < n := by
  have := modI_range a (n := n) (by omega)
  unfold modN; omega
theorem modN_eq (a : Int) {n : Nat} (h : 0 < n) : modI a n = (modN a n : Nat) := by
  have := modI_range a (n := n) (by omega)
  unfold modN; omega
theorem rest_no {l : List Ty} {a b k i : Nat} (h : RestAt l a b k i) (hj : joinB l a b i = false) : joinsK l a b (i + 1) = joinsK l a b k := by
  obtain ⟨d, hd⟩ : ∃ d, i = k + d := ⟨i - k, by have := h.le; omega⟩
  rw [joinsK_no hj, hd]
  exact joinsK_skip d (fun j h1 h2 => h.gap j h1 (by omega))
theorem rest_yes {l : List Ty} {a b k i : Nat} (h : RestAt l a b k i) (hj : joinB l a b i = true) : joinsK l a b (i + 1) = joinsK l a b k ++ [(i : Int)] := by
  obtain ⟨d, hd⟩ : ∃ d, i = k + d := ⟨i - k, by have := h.le; omega⟩
  rw [joinsK_yes hj]
  congr 1
  rw [hd]
  exact joinsK_skip d (fun j h1 h2 => h.gap j h1 (by omega))
/-! ## two types of a hierarchy -/
def twoF (l : List Ty) (fs : List Ft) (a b : Int) : Fl :=
  if (hierFault l fs).1 ≠ 0 then hierFault l fs else if a < 0 ∨ (l.length : Int) ≤ a then (3, -2) else if b < 0 ∨ (l.length : Int) ≤ b then (3, -3) else (0, 0)
theorem two_fault {l : List Ty} {fs : List Ft} {a b : Int} (h : ¬ (hierFault l fs).1 = 0) : twoF l fs a b = ((hierFault l fs).1, (hierFault l fs).2) := by unfold twoF; rw [if_pos h]
theorem two_a {l : List Ty} {fs : List Ft} {a b : Int} (h : (hierFault l fs).1 = 0) (ha : a < 0 ∨ (l.length : Int) ≤ a) : twoF l fs a b = (3, -2) := by unfold twoF; rw [if_neg (fun e => e h), if_pos ha]
theorem two_b {l : List Ty} {fs : List Ft} {a b : Int} (h : (hierFault l fs).1 = 0) (ha : ¬ (a < 0 ∨ (l.length : Int) ≤ a)) (hb : b < 0 ∨ (l.length : Int) ≤ b) : twoF l fs a b = (3, -3) := by unfold twoF; rw [if_neg (fun e => e h), if_neg ha, if_pos hb]
theorem two_zero {l : List Ty} {fs : List Ft} {a b : Int} (h : (hierFault l fs).1 = 0) (ha : ¬ (a < 0 ∨ (l.length : Int) ≤ a)) (hb : ¬ (b < 0 ∨ (l.length : Int) ≤ b)) : twoF l fs a b = (0, 0) := by unfold twoF; rw [if_neg (fun e => e h), if_neg ha, if_neg hb]
structure TwoOk (l : List Ty) (fs : List Ft) (a b : Int) : Prop where
  h : (hierFault l fs).1 = 0
  s : Sound l
  a0 : 0 ≤ a
  al : a < l.length
  b0 : 0 ≤ b
  bl : b < l.length
  z : twoF l fs a b = (0, 0)
theorem two_ok {l : List Ty} {fs : List Ft} {a b : Int} (h : (twoF l fs a b).1 = 0) : TwoOk l fs a b := by
  by_cases h0 : (hierFault l fs).1 = 0
  · by_cases ha : a < 0 ∨ (l.length : Int) ≤ a
    · rw [two_a h0 ha] at h; cases h
    · by_cases hb : b < 0 ∨ (l.length : Int) ≤ b
      · rw [two_b h0 ha hb] at h; cases h
      · exact ⟨h0, sound_of h0, by omega, by omega, by omega, by omega, two_zero h0 ha hb⟩
  · rw [two_fault h0] at h; exact absurd h h0
def hmeet (l : List Ty) (fs : List Ft) (a b : Int) : Nat × Bool := if (twoF l fs a b).1 ≠ 0 then (0, false) else ((meet l a.toNat b.toNat).1, (meet l a.toNat b.toNat).2.1)
def hsub (l : List Ty) (fs : List Ft) (a b : Int) : Bool := if (twoF l fs a b).1 ≠ 0 then false else sub l a.toNat b.toNat
def hjoin (l : List Ty) (fs : List Ft) (a b : Int) : List Int := if (twoF l fs a b).1 ≠ 0 then [] else joinsK l a.toNat b.toNat l.length
/-! ## a slice of ints of one's own -/
def IOwn (w : World) (base : Nat) (A : Option Addr) (cap : Nat) (xs : List Int) : Prop := Own w base 3 1 A xs.length cap (xs.map (Value.int .i64))
theorem own_ints {w : World} {base : Nat} {A : Option Addr} {cap : Nat} {xs : List Int} (h : Own w base 3 1 A xs.length cap (xs.map (Value.int .i64))) : IntsIn w A xs :=
  ⟨h.max, fun hn => by
    obtain ⟨g, e, hb, hg, hc⟩ := h.cell (by simpa using hn)
    refine ⟨g, 0, e, hg, fun k hk => ?_⟩
    have := hc k (.int .i64 xs[k]) (by simp [hk])
    simpa using this⟩
theorem own_snoc {w : World} {base : Nat} {A : Option Addr} {cap : Nat} {xs : List Int} {z : Int} (h : Own w base 3 1 A (xs.length + 1) cap (xs.map (Value.int .i64) ++ [Value.int .i64 z])) : Own w base 3 1 A (xs ++ [z]).length cap ((xs ++ [z]).map (Value.int .i64)) := by
  rw [List.length_append, List.map_append]; exact h
theorem sl_snoc (A : Option Addr) (cap : Nat) (xs : List Int) (z : Int) : Value.slice A (xs.length + 1) cap = Value.slice A (xs ++ [z]).length cap := by rw [List.length_append]; rfl
end Go.Proofs.YtlaihbaneoeffaaDoor
