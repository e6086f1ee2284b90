/- Sets of small numbers as bits. -/
import Derived.Test.YtahdbbgkgokkhaaDoorSub
import Derived.Lib.TrailingZeros
namespace Go.Proofs.YtahdbbgkgokkhaaDoor
open Go.RowKit
def mask (p : Nat → Bool) : Nat → Nat
  | 0 => 0
  | n + 1 => mask p n ||| (if p n then 2 ^ n else 0)
theorem mask_bit (p : Nat → Bool) : ∀ (n j : Nat), (mask p n).testBit j = (decide (j < n) && p j)
  | 0, j => by simp [mask]
  | n + 1, j => by
    rw [mask, Nat.testBit_or, mask_bit p n j]
    by_cases h : j = n
    · subst h
      cases hp : p j <;> simp [Nat.testBit_two_pow_self]
    · have h1 : (if p n then 2 ^ n else 0 : Nat).testBit j = false := by
        cases hp : p n
        · simp
        · simp [Ne.symm h]
      have h2 : decide (j < n + 1) = decide (j < n) := by simp; omega
      rw [h1, h2]; simp
theorem mask_lt (p : Nat → Bool) (n : Nat) : mask p n < 2 ^ n := by
  apply Nat.lt_pow_two_of_testBit
  intro i hi
  rw [mask_bit]
  simp; omega
theorem mask_lt64 (p : Nat → Bool) {n : Nat} (h : n ≤ 60) : mask p n < 18446744073709551616 := by
  have h1 := mask_lt p n
  have h2 : 2 ^ n ≤ 2 ^ 60 := Nat.pow_le_pow_right (by decide) h
  have h3 : (2 : Nat) ^ 60 = 1152921504606846976 := by decide
  omega
theorem mask_ext {x : Nat} {p : Nat → Bool} {n : Nat} (h : ∀ j, x.testBit j = (decide (j < n) && p j)) : x = mask p n :=
  Nat.eq_of_testBit_eq (fun j => by rw [h, mask_bit])
theorem mask_congr {p q : Nat → Bool} {n : Nat} (h : ∀ j, j < n → p j = q j) : mask p n = mask q n := by
  apply mask_ext
  intro j
  rw [mask_bit]
  by_cases hj : j < n
  · rw [h j hj]
  · simp [hj]
theorem mask_or (p q : Nat → Bool) (n : Nat) : mask p n ||| mask q n = mask (fun j => p j || q j) n :=
  mask_ext (fun j => by rw [Nat.testBit_or, mask_bit, mask_bit]; cases decide (j < n) <;> simp)
theorem mask_and (p q : Nat → Bool) (n : Nat) : mask p n &&& mask q n = mask (fun j => p j && q j) n :=
  mask_ext (fun j => by rw [Nat.testBit_and, mask_bit, mask_bit]; cases decide (j < n) <;> simp)
theorem mask_one {k n : Nat} (h : k < n) : 2 ^ k = mask (fun j => decide (j = k)) n := by
  apply mask_ext
  intro j
  rw [Nat.testBit_two_pow]
  by_cases e : k = j
  · subst e; simp [h]
  · simp [e, Ne.symm e]
theorem mask_zero (n : Nat) : mask (fun _ => false) n = 0 := by
  symm; apply mask_ext; intro j; simp
theorem mask_eq_zero {p : Nat → Bool} {n : Nat} : mask p n = 0 ↔ ∀ j, j < n → p j = false := by
  constructor
  · intro h j hj
    have := mask_bit p n j
    rw [h] at this
    simpa [hj] using this.symm
  · intro h
    rw [← mask_zero n]; exact mask_congr h
theorem mask_inj {p q : Nat → Bool} {n : Nat} : mask p n = mask q n ↔ ∀ j, j < n → p j = q j := by
  constructor
  · intro h j hj
    have h1 := mask_bit p n j
    have h2 := mask_bit q n j
    rw [h] at h1
    rw [h1] at h2
    simpa [hj] using h2
  · exact mask_congr
theorem shift_bit (x j : Nat) : decide (((x >>> j) &&& 1) = 1) = x.testBit j := by
  rw [Nat.testBit_eq_decide_div_mod_eq, Nat.shiftRight_eq_div_pow, Nat.and_one_is_mod]
/-- the least member -/
theorem ctz_mask {p : Nat → Bool} {n : Nat} (hn : n ≤ 60) (h0 : mask p n ≠ 0) : Lib.ctz 64 (mask p n) < n ∧ p (Lib.ctz 64 (mask p n)) = true ∧ ∀ j, j < Lib.ctz 64 (mask p n) → p j = false := by
  have hlt : mask p n < 2 ^ 64 := by
    have h1 := mask_lt64 p hn
    have h2 : (2 : Nat) ^ 64 = 18446744073709551616 := by decide
    omega
  obtain ⟨m, hm, hk⟩ := Lib.ctzFrom_spec 64 (mask p n) (by omega) hlt
  have e : Lib.ctz 64 (mask p n) = Lib.ctzFrom 64 (mask p n) := by simp [Lib.ctz, h0]
  rw [e]
  generalize hc : Lib.ctzFrom 64 (mask p n) = c at *
  have hb : ∀ j, (mask p n).testBit j = (decide (c ≤ j) && (2 * m + 1).testBit (j - c)) := by
    intro j
    rw [hm, Nat.mul_comm, Nat.testBit_mul_two_pow]
  have hcb : (mask p n).testBit c = true := by rw [hb]; simp
  rw [mask_bit] at hcb
  simp only [Bool.and_eq_true, decide_eq_true_eq] at hcb
  refine ⟨hcb.1, hcb.2, fun j hj => ?_⟩
  have := hb j
  rw [mask_bit] at this
  have hcj : ¬ c ≤ j := by omega
  simp only [hcj, decide_false, Bool.false_and] at this
  have hjn : j < n := by omega
  simpa [hjn] using this

/-- the table of math/bits -/
def TabIn (w : World) : Prop := 0 < w.heap.size ∧ ∀ k, k < 64 → w.cell? ⟨0, 0 + k * 1, none⟩ = some (.int .u8 ((Lib.deBruijn64tab.getD k 0 : Nat) : Int))
theorem TabIn.mono {w w' : World} (h : TabIn w) (hb : Bel w w') : TabIn w' := ⟨Nat.lt_of_lt_of_le h.1 hb.size, fun k hk => hb.cell h.1 (h.2 k hk)⟩
theorem ctz_eq {x c : Nat} (h0 : x ≠ 0) (hx : x < 18446744073709551616) (hc : 18446744073709551616 - x = c) : x &&& c = 2 ^ Lib.ctz 64 x ∧ Lib.ctz 64 x < 64 := by
  subst hc
  exact Lib.lowest_bit 64 x h0 (by have : (2 : Nat) ^ 64 = 18446744073709551616 := by decide
                                   omega)
/-- the place in the table -/
def tzI (x : Nat) : Nat := ((x &&& (18446744073709551616 - x)) * 285870213051353865 % 18446744073709551616) >>> 58
theorem tzI_spec {x : Nat} (h0 : x ≠ 0) (hx : x < 18446744073709551616) : tzI x < 64 ∧ Lib.deBruijn64tab.getD (tzI x) 0 = Lib.ctz 64 x := by
  have h := ctz_eq h0 hx rfl
  have h2 := Lib.deBruijn64_at (Lib.ctz 64 x) h.2
  unfold tzI
  rw [h.1, Nat.shiftRight_eq_div_pow]
  exact h2

/-! ## the table of a hierarchy -/
def upN (l : List Ty) (i : Nat) : Nat := mask (fun j => sub l i j) l.length
def downN (l : List Ty) (j : Nat) : Nat := mask (fun i => sub l i j) l.length
def rU (n : Nat) (g : Nat → Nat) : Array Value := row n (fun i => .int .u64 (g i))
def TableIn (w : World) (l : List Ty) (bu bd : Nat) : Prop := Blk w bu 49 (rU l.length (upN l)) ∧ Blk w bd 49 (rU l.length (downN l))
theorem Blk.bel {w w' : World} {b : Nat} {t : TypeId} {cs : Array Value} (h : Blk w b t cs) (hb : Bel w w') : Blk w' b t cs := (hb.block b h.lt).trans h
theorem TableIn.mono {w w' : World} {l : List Ty} {bu bd : Nat} (h : TableIn w l bu bd) (hb : Bel w w') : TableIn w' l bu bd := ⟨h.1.bel hb, h.2.bel hb⟩
theorem TableIn.up {w : World} {l : List Ty} {bu bd i : Nat} (h : TableIn w l bu bd) (hi : i < l.length) : w.cell? ⟨bu, 0 + i * 1, none⟩ = some (.int .u64 (upN l i)) := h.1.cell (row_get hi)
theorem upN_lt {l : List Ty} (h : l.length ≤ 60) (i : Nat) : upN l i < 18446744073709551616 := mask_lt64 _ h
theorem downN_lt {l : List Ty} (h : l.length ≤ 60) (i : Nat) : downN l i < 18446744073709551616 := mask_lt64 _ h
def tabV (n bu bd : Nat) : Value := .agg #[.slice (some ⟨bu, 0, none⟩) n n, .slice (some ⟨bd, 0, none⟩) n n]
/-- the common subtypes -/
def comm (l : List Ty) (a b : Nat) (i : Nat) : Bool := sub l i a && sub l i b
def commN (l : List Ty) (a b : Nat) : Nat := mask (comm l a b) l.length
theorem comm_and (l : List Ty) (a b : Nat) : downN l a &&& downN l b = commN l a b := mask_and _ _ _
/-- what the method Meet returns: the meet, whether there is one, whether there are common subtypes without a meet -/
def meet (l : List Ty) (a b : Nat) : Nat × Bool × Bool :=
  if commN l a b = 0 then (0, false, false)
  else if downN l (Lib.ctz 64 (commN l a b)) ≠ commN l a b then (0, false, true)
  else (Lib.ctz 64 (commN l a b), true, false)
end Go.Proofs.YtahdbbgkgokkhaaDoor
