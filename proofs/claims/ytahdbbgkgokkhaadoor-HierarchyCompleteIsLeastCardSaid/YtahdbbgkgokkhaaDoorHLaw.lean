/- Plain laws of the order of types: meets, joins, remainders. No program in sight. -/
import Derived.Test.YtahdbbgkgokkhaaDoorHFault
namespace Go.Proofs.YtahdbbgkgokkhaaDoor
open Go.RowKit
/-! ## clearing the least member -/
/-! ## joins -/
def capB (l : List Ty) (a b c : Nat) : Bool := sub l a c && sub l b c
def joinB (l : List Ty) (a b c : Nat) : Bool := capB l a b c && (List.range l.length).all (fun j => !(!(decide (j = c)) && sub l j c && capB l a b j))
/-- what is left of the common supertypes from k on -/
def restN (l : List Ty) (a b k : Nat) : Nat := mask (fun i => capB l a b i && decide (k ≤ i)) l.length
structure RestAt (l : List Ty) (a b k i : Nat) : Prop where
  lt : i < l.length
  le : k ≤ i
  cap : capB l a b i = true
  gap : ∀ j, k ≤ j → j < i → joinB l a b j = false
  next : restN l a b k &&& (restN l a b k - 1) = restN l a b (i + 1)
/-! ## meets -/
theorem meet_is {l : List Ty} (hv : VT l) (h60 : l.length ≤ 60) {a b m : Nat} (hm : m < l.length) (hcm : comm l a b m = true) (hs : ∀ i, i < l.length → comm l a b i = true → sub l i m = true) : meet l a b = (m, true, false) := by
  have h0 : commN l a b ≠ 0 := fun h => by
    have := mask_eq_zero.1 h m hm
    rw [hcm] at this; cases this
  have hz := ctz_mask h60 h0
  have he : Lib.ctz 64 (commN l a b) = m := by
    have h1 : ¬ m < Lib.ctz 64 (commN l a b) := fun h => by
      have := hz.2.2 m h
      rw [hcm] at this; cases this
    have h2 := sub_le' hv (hs _ hz.1 hz.2.1)
    exact Nat.le_antisymm (Nat.le_of_not_lt h1) h2
  have hd : downN l (Lib.ctz 64 (commN l a b)) = commN l a b := by
    rw [he]
    refine mask_congr (fun i hi => ?_)
    cases h1 : sub l i m with
    | true =>
      simp only [comm, Bool.and_eq_true] at hcm
      simp [comm, sub_tr hv h1 hcm.1, sub_tr hv h1 hcm.2]
    | false =>
      cases h2 : comm l a b i with
      | false => rfl
      | true => rw [hs i hi h2] at h1; cases h1
  unfold meet
  rw [if_neg h0, if_neg (fun h => h hd), he]
theorem meet_spec {l : List Ty} (h60 : l.length ≤ 60) {a b : Nat} (h : (meet l a b).2.1 = true) : (meet l a b).1 < l.length ∧ comm l a b (meet l a b).1 = true ∧ ∀ i, i < l.length → comm l a b i = true → sub l i (meet l a b).1 = true := by
  by_cases h0 : commN l a b = 0
  · simp only [meet, if_pos h0] at h; cases h
  by_cases hd : downN l (Lib.ctz 64 (commN l a b)) ≠ commN l a b
  · simp only [meet, if_neg h0, if_pos hd] at h; cases h
  have e : meet l a b = (Lib.ctz 64 (commN l a b), true, false) := by simp only [meet, if_neg h0, if_neg hd]
  have hz := ctz_mask h60 h0
  rw [e]
  refine ⟨hz.1, hz.2.1, fun i hi hc => ?_⟩
  have hd' : downN l (Lib.ctz 64 (commN l a b)) = commN l a b := Decidable.not_not.1 hd
  have := mask_inj.1 hd' i hi
  rw [hc] at this; exact this
theorem meet_zero {l : List Ty} {a b : Nat} (h : (meet l a b).2.1 = false) : (meet l a b).1 = 0 := by
  unfold meet at h ⊢
  split
  · rfl
  · rename_i h0
    rw [if_neg h0] at h
    split
    · rfl
    · rename_i hd
      rw [if_neg hd] at h; cases h
theorem meet_none_of {l : List Ty} (_hv : VT l) (h60 : l.length ≤ 60) {a b : Nat} (h : ∀ m, m < l.length → comm l a b m = true → ∃ i, i < l.length ∧ comm l a b i = true ∧ sub l i m = false) : (meet l a b).2.1 = false ∧ (meet l a b).1 = 0 := by
  cases hok : (meet l a b).2.1 with
  | false => exact ⟨rfl, meet_zero hok⟩
  | true =>
    obtain ⟨h1, h2, h3⟩ := meet_spec h60 hok
    obtain ⟨i, hi, hc, hs⟩ := h _ h1 h2
    rw [h3 i hi hc] at hs; cases hs
/-- in a hierarchy without faults common subtypes have a meet -/
structure Sound (l : List Ty) : Prop where
  vt : VT l
  pos : 0 < l.length
  le : l.length ≤ 60
  all : ∀ a b i, a < l.length → b < l.length → i < l.length → comm l a b i = true → (meet l a b).2.1 = true
theorem sub_anti {l : List Ty} (hv : VT l) {a b : Nat} (h : sub l a b = true) (h2 : sub l b a = true) : a = b := Nat.le_antisymm (sub_le' hv h2) (sub_le' hv h)
/-- the meet of three -/
structure Tri (l : List Ty) (a b c m : Nat) (ok : Bool) : Prop where
  yes : ok = true → m < l.length ∧ (sub l m a = true ∧ sub l m b = true ∧ sub l m c = true) ∧ ∀ i, i < l.length → sub l i a = true → sub l i b = true → sub l i c = true → sub l i m = true
  no : ok = false → m = 0 ∧ ∀ i, i < l.length → sub l i a = true → sub l i b = true → sub l i c = true → False
theorem Tri.uniq {l : List Ty} (hv : VT l) {a b c m n : Nat} {p q : Bool} (h : Tri l a b c m p) (k : Tri l a b c n q) : p = q ∧ m = n := by
  cases p with
  | true =>
    obtain ⟨h1, ⟨h2, h3, h4⟩, h5⟩ := h.yes rfl
    cases q with
    | true =>
      obtain ⟨k1, ⟨k2, k3, k4⟩, k5⟩ := k.yes rfl
      exact ⟨rfl, sub_anti hv (k5 m h1 h2 h3 h4) (h5 n k1 k2 k3 k4)⟩
    | false => exact ((k.no rfl).2 m h1 h2 h3 h4).elim
  | false =>
    cases q with
    | true =>
      obtain ⟨k1, ⟨k2, k3, k4⟩, k5⟩ := k.yes rfl
      exact ((h.no rfl).2 n k1 k2 k3 k4).elim
    | false => exact ⟨rfl, (h.no rfl).1.trans (k.no rfl).1.symm⟩
/-! ## remainders -/
/-! ## two types of a hierarchy -/
def twoF (l : List Ty) (fs : List Ft) (a b : Int) : Fl :=
  if (hierFault l fs).1 ≠ 0 then hierFault l fs else if a < 0 ∨ (l.length : Int) ≤ a then (3, -2) else if b < 0 ∨ (l.length : Int) ≤ b then (3, -3) else (0, 0)
structure TwoOk (l : List Ty) (fs : List Ft) (a b : Int) : Prop where
  h : (hierFault l fs).1 = 0
  s : Sound l
  a0 : 0 ≤ a
  al : a < l.length
  b0 : 0 ≤ b
  bl : b < l.length
  z : twoF l fs a b = (0, 0)
def hsub (l : List Ty) (fs : List Ft) (a b : Int) : Bool := if (twoF l fs a b).1 ≠ 0 then false else sub l a.toNat b.toNat
/-! ## a slice of ints of one's own -/
theorem own_ints {w : World} {base : Nat} {A : Option Addr} {cap : Nat} {xs : List Int} (h : Own w base 3 1 A xs.length cap (xs.map (Value.int .i64))) : IntsIn w A xs :=
  ⟨h.max, fun hn => by
    obtain ⟨g, e, hb, hg, hc⟩ := h.cell (by simpa using hn)
    refine ⟨g, 0, e, hg, fun k hk => ?_⟩
    have := hc k (.int .i64 xs[k]) (by simp [hk])
    simpa using this⟩
theorem own_snoc {w : World} {base : Nat} {A : Option Addr} {cap : Nat} {xs : List Int} {z : Int} (h : Own w base 3 1 A (xs.length + 1) cap (xs.map (Value.int .i64) ++ [Value.int .i64 z])) : Own w base 3 1 A (xs ++ [z]).length cap ((xs ++ [z]).map (Value.int .i64)) := by
  rw [List.length_append, List.map_append]; exact h
theorem sl_snoc (A : Option Addr) (cap : Nat) (xs : List Int) (z : Int) : Value.slice A (xs.length + 1) cap = Value.slice A (xs ++ [z]).length cap := by rw [List.length_append]; rfl
end Go.Proofs.YtahdbbgkgokkhaaDoor
