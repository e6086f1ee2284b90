/- Counting and turning round the bits of a word of 64 bits, as math/bits does it. No program in sight. -/
import Derived.Test.YtahdbbgkgokkhaaDoorCpl
namespace Go.Proofs.YtahdbbgkgokkhaaDoor
open Go.RowKit
/-! ## turning round -/
def M1 : Nat := 6148914691236517205
def M2 : Nat := 3689348814741910323
def M4 : Nat := 1085102592571150095
def M8 : Nat := 71777214294589695
def M16 : Nat := 281470681808895
def swp (k m x : Nat) : Nat := ((x >>> k) &&& m) ||| ((x &&& m) * 2 ^ k)
def sg (k j : Nat) : Nat := if j / k % 2 = 0 then j + k else j - k
theorem swp_bit {k m : Nat} (hk : 0 < k) (hm : ∀ j, j < 64 → m.testBit j = decide (j / k % 2 = 0)) {x j : Nat} (hj : j < 64) (hs : ∀ j, j < 64 → ¬ j / k % 2 = 0 → k ≤ j ∧ (j - k) / k % 2 = 0) : (swp k m x).testBit j = x.testBit (sg k j) := by
  unfold swp sg
  rw [Nat.testBit_or, Nat.testBit_and, Nat.testBit_shiftRight, hm j hj, Nat.testBit_mul_two_pow, Nat.testBit_and]
  by_cases h : j / k % 2 = 0
  · rw [if_pos h]
    have h2 : (decide (k ≤ j) && (x.testBit (j - k) && m.testBit (j - k))) = false := by
      by_cases hkj : k ≤ j
      · rw [hm (j - k) (by omega)]
        have h3 : ¬ (j - k) / k % 2 = 0 := by
          have e : j = (j - k) + k := by omega
          rw [e, Nat.add_div_right _ hk] at h
          omega
        simp [h3]
      · simp [hkj]
    rw [h2]; simp [h, Nat.add_comm]
  · rw [if_neg h]
    obtain ⟨h1, h2⟩ := hs j hj h
    rw [hm (j - k) (by omega)]
    simp [h, h1, h2]
theorem and_lt_right {a m B : Nat} (h : m < B) : a &&& m < B := Nat.lt_of_le_of_lt Nat.and_le_right h
theorem or_lt64 {a b : Nat} (ha : a < 18446744073709551616) (hb : b < 18446744073709551616) : a ||| b < 18446744073709551616 := Nat.or_lt_two_pow (n := 64) ha hb
theorem swp_lt {k m x : Nat} (hm : m * 2 ^ k < 18446744073709551616) (hm2 : m < 18446744073709551616) : swp k m x < 18446744073709551616 := by
  unfold swp
  refine or_lt64 (and_lt_right hm2) ?_
  exact Nat.lt_of_le_of_lt (Nat.mul_le_mul_right _ Nat.and_le_right) hm
def rbN (x : Nat) : Nat := (swp 16 M16 (swp 8 M8 x) >>> 32) ||| (swp 16 M16 (swp 8 M8 x) * 2 ^ 32 % 18446744073709551616)
def revN (x : Nat) : Nat := rbN (swp 4 M4 (swp 2 M2 (swp 1 M1 x)))
theorem rb_bit {x j : Nat} (hj : j < 64) : (rbN x).testBit j = x.testBit (sg 8 (sg 16 (sg 32 j))) := by
  have hl : swp 16 M16 (swp 8 M8 x) < 2 ^ 64 := swp_lt (by decide) (by decide)
  have h1 : (rbN x).testBit j = (swp 16 M16 (swp 8 M8 x)).testBit (sg 32 j) := by
    unfold rbN sg
    rw [Nat.testBit_or, Nat.testBit_shiftRight, show (18446744073709551616 : Nat) = 2 ^ 64 from rfl, Nat.testBit_mod_two_pow, Nat.testBit_mul_two_pow]
    by_cases h : j < 32
    · have e : j / 32 % 2 = 0 := by omega
      rw [if_pos e]
      simp [hj, show ¬ 32 ≤ j by omega, Nat.add_comm]
    · have e : ¬ j / 32 % 2 = 0 := by omega
      rw [if_neg e]
      have h2 : (swp 16 M16 (swp 8 M8 x)).testBit (32 + j) = false := Nat.testBit_lt_two_pow (Nat.lt_of_lt_of_le hl (Nat.pow_le_pow_right (by decide) (by omega)))
      simp [hj, h2, show 32 ≤ j by omega]
  rw [h1, swp_bit (by decide) (by decide +kernel) (by unfold sg; split <;> omega) (by decide +kernel), swp_bit (by decide) (by decide +kernel) ?_ (by decide +kernel)]
  have : ∀ j, j < 64 → sg 16 (sg 32 j) < 64 := by decide +kernel
  exact this j hj
theorem rev_bit {x : Nat} : ∀ j, j < 64 → (revN x).testBit j = x.testBit (63 - j) := fun j hj => by
  have h1 : ∀ j, j < 64 → sg 8 (sg 16 (sg 32 j)) < 64 := by decide +kernel
  have h2 : ∀ j, j < 64 → sg 4 (sg 8 (sg 16 (sg 32 j))) < 64 := by decide +kernel
  have h3 : ∀ j, j < 64 → sg 2 (sg 4 (sg 8 (sg 16 (sg 32 j)))) < 64 := by decide +kernel
  have h4 : ∀ j, j < 64 → sg 1 (sg 2 (sg 4 (sg 8 (sg 16 (sg 32 j))))) = 63 - j := by decide +kernel
  unfold revN
  rw [rb_bit hj, swp_bit (by decide) (by decide +kernel) (h1 j hj) (by decide +kernel), swp_bit (by decide) (by decide +kernel) (h2 j hj) (by decide +kernel), swp_bit (by decide) (by decide +kernel) (h3 j hj) (by decide +kernel), h4 j hj]
theorem rev_lt64 (x : Nat) : revN x < 18446744073709551616 := by
  unfold revN rbN
  refine or_lt64 ?_ (Nat.mod_lt _ (by decide))
  exact Nat.lt_of_le_of_lt (Nat.shiftRight_le _ _) (swp_lt (by decide) (by decide))
theorem rev_hi (x : Nat) : ∀ i, 64 ≤ i → (revN x).testBit i = false := fun i hi => Nat.testBit_lt_two_pow (Nat.lt_of_lt_of_le (rev_lt64 x) (Nat.pow_le_pow_right (n := 2) (by decide) hi))
/-! ## counting -/
/-- the sum of n digits at base b -/
def ds (b : Nat) : Nat → Nat → Nat
  | 0, _ => 0
  | n + 1, x => x % b + ds b n (x / b)
def mkk (k : Nat) : Nat → Nat
  | 0 => 0
  | n + 1 => mkk k n * 2 ^ (k + k) + (2 ^ k - 1)
theorem split_and {a c b d K : Nat} (hb : b < 2 ^ K) (hd : d < 2 ^ K) : (a * 2 ^ K + b) &&& (c * 2 ^ K + d) = (a &&& c) * 2 ^ K + (b &&& d) := by
  have h3 : b &&& d < 2 ^ K := Nat.and_lt_two_pow _ hd
  rw [Nat.mul_comm a, Nat.mul_comm c, Nat.mul_comm (a &&& c)]
  refine Nat.eq_of_testBit_eq (fun i => ?_)
  rw [Nat.testBit_and, Nat.testBit_two_pow_mul_add _ hb, Nat.testBit_two_pow_mul_add _ hd, Nat.testBit_two_pow_mul_add _ h3]
  split <;> simp
theorem and_low (x k K : Nat) (h : k ≤ K) : x % 2 ^ K &&& (2 ^ k - 1) = x % 2 ^ k := by
  rw [Nat.and_two_pow_sub_one_eq_mod, Nat.mod_mod_of_dvd _ (Nat.pow_dvd_pow 2 h)]
theorem mk_and (k n x : Nat) : x &&& mkk k (n + 1) = (x / 2 ^ (k + k) &&& mkk k n) * 2 ^ (k + k) + x % 2 ^ k := by
  have h1 : 2 ^ k ≤ 2 ^ (k + k) := Nat.pow_le_pow_right (by decide) (by omega)
  have h0 := Nat.two_pow_pos k
  conv => lhs; rw [← Nat.div_add_mod x (2 ^ (k + k)), Nat.mul_comm]
  rw [show mkk k (n + 1) = mkk k n * 2 ^ (k + k) + (2 ^ k - 1) from rfl, split_and (Nat.mod_lt _ (Nat.two_pow_pos _)) (by omega), and_low _ _ _ (by omega)]
def hv (k m x : Nat) : Nat := ((x >>> k) &&& m) + (x &&& m)
theorem hv_step (k n x : Nat) : hv k (mkk k (n + 1)) x = hv k (mkk k n) (x / 2 ^ (k + k)) * 2 ^ (k + k) + (x % 2 ^ k + x / 2 ^ k % 2 ^ k) := by
  unfold hv
  rw [mk_and, mk_and, Nat.add_mul, Nat.shiftRight_eq_div_pow, Nat.shiftRight_eq_div_pow, Nat.div_div_eq_div_mul, Nat.div_div_eq_div_mul, Nat.mul_comm (2 ^ k) (2 ^ (k + k))]
  omega
theorem hv_ds (k : Nat) (hk : 0 < k) : ∀ (n x : Nat), ds (2 ^ (k + k)) n (hv k (mkk k n) x) = ds (2 ^ k) (n + n) x
  | 0, _ => rfl
  | n + 1, x => by
    have hk2 : 2 ^ (k + k) = 2 ^ k * 2 ^ k := Nat.pow_add ..
    have hp : 2 ≤ 2 ^ k := by
      have := Nat.pow_le_pow_right (n := 2) (by decide) hk
      simpa using this
    have h0 := Nat.two_pow_pos (k + k)
    have hlt : x % 2 ^ k + x / 2 ^ k % 2 ^ k < 2 ^ (k + k) := by
      have h1 := Nat.mod_lt x (Nat.two_pow_pos k)
      have h2 := Nat.mod_lt (x / 2 ^ k) (Nat.two_pow_pos k)
      have h3 : 2 ^ k + 2 ^ k ≤ 2 ^ k * 2 ^ k := by
        have := Nat.mul_le_mul_right (2 ^ k) hp
        omega
      omega
    have e1 : hv k (mkk k (n + 1)) x % 2 ^ (k + k) = x % 2 ^ k + x / 2 ^ k % 2 ^ k := by
      rw [hv_step, Nat.mul_comm, Nat.mul_add_mod, Nat.mod_eq_of_lt hlt]
    have e2 : hv k (mkk k (n + 1)) x / 2 ^ (k + k) = hv k (mkk k n) (x / 2 ^ (k + k)) := by
      rw [hv_step, Nat.mul_comm, Nat.mul_add_div h0, Nat.div_eq_of_lt hlt, Nat.add_zero]
    show _ % _ + ds _ n (_ / _) = _
    rw [e1, e2, hv_ds k hk n, show n + 1 + (n + 1) = n + n + 1 + 1 by omega]
    show _ = _ + (_ + ds _ _ (x / 2 ^ k / 2 ^ k))
    rw [Nat.div_div_eq_div_mul, ← hk2]
    omega
theorem hv_lt {k n x : Nat} (h : n * (k + k) ≤ 64) (hk : 0 < k) : hv k (mkk k n) x < 2 ^ (n * (k + k)) := by
  induction n generalizing x with
  | zero => simp [hv, mkk]
  | succ n ih =>
    have hk2 : 2 ^ (k + k) = 2 ^ k * 2 ^ k := Nat.pow_add ..
    have hp : 2 ≤ 2 ^ k := by
      have := Nat.pow_le_pow_right (n := 2) (by decide) hk
      simpa using this
    have hlt : x % 2 ^ k + x / 2 ^ k % 2 ^ k < 2 ^ (k + k) := by
      have h1 := Nat.mod_lt x (Nat.two_pow_pos k)
      have h2 := Nat.mod_lt (x / 2 ^ k) (Nat.two_pow_pos k)
      have h3 : 2 ^ k + 2 ^ k ≤ 2 ^ k * 2 ^ k := by
        have := Nat.mul_le_mul_right (2 ^ k) hp
        omega
      omega
    have h4 := ih (x := x / 2 ^ (k + k)) (by rw [Nat.add_mul] at h; omega)
    rw [hv_step, Nat.add_mul, Nat.one_mul, Nat.pow_add 2 (n * (k + k)) (k + k)]
    have h5 := Nat.mul_le_mul_right (2 ^ (k + k)) (Nat.succ_le_of_lt h4)
    rw [Nat.succ_mul] at h5
    exact Nat.lt_of_lt_of_le (Nat.add_lt_add_left hlt _) h5
theorem ds_count : ∀ (n x : Nat), ds 2 n x = (List.range n).countP (fun i => x.testBit i)
  | 0, _ => rfl
  | n + 1, x => by
    rw [List.range_succ_eq_map, List.countP_cons, List.countP_map]
    show x % 2 + ds 2 n (x / 2) = _
    rw [ds_count n (x / 2), Nat.add_comm]
    congr 1
    · exact congrFun (congrArg _ (funext fun i => by simp [Function.comp, Nat.testBit_succ])) _
    · rw [Nat.testBit_zero]
      rcases Nat.mod_two_eq_zero_or_one x with h | h <;> simp [h]
/-- digits at base 16 that are at most 4, two by two -/
theorem third {n : Nat} : ∀ {x : Nat}, (∀ i, x / 16 ^ i % 16 ≤ 4) → ds 256 n (((x >>> 4) + x) &&& mkk 4 n) = ds 16 (n + n) x ∧ ∀ i, ((((x >>> 4) + x) &&& mkk 4 n) / 256 ^ i % 256) ≤ 8 := by
  induction n with
  | zero => intro x _; exact ⟨rfl, fun i => by simp [mkk]⟩
  | succ n ih =>
    intro x h
    have d0 := h 0
    have d1 := h 1
    have d2 := h 2
    simp only [Nat.pow_zero, Nat.div_one, Nat.pow_one, Nat.reducePow] at d0 d1 d2
    obtain ⟨i1, i2⟩ := ih (x := x / 256) (fun i => by
      have := h (i + 2)
      rwa [Nat.pow_add, Nat.mul_comm, ← Nat.div_div_eq_div_mul] at this)
    have e := mk_and 4 n ((x >>> 4) + x)
    rw [show (2 : Nat) ^ (4 + 4) = 256 from rfl, show (2 : Nat) ^ 4 = 16 from rfl] at e
    have e3 : ((x >>> 4) + x) / 256 = ((x / 256) >>> 4) + x / 256 := by
      rw [Nat.shiftRight_eq_div_pow, Nat.shiftRight_eq_div_pow]
      obtain ⟨s, t, p, q, hx, ht, hp, hq⟩ : ∃ s t p q, x = 4096 * s + 256 * t + 16 * p + q ∧ t ≤ 4 ∧ p ≤ 4 ∧ q ≤ 4 := ⟨x / 256 / 16, x / 256 % 16, x / 16 % 16, x % 16, by omega, d2, d1, d0⟩
      clear h d0 d1 d2 i1 i2 e ih
      have a1 : x / 2 ^ 4 = 256 * s + 16 * t + p := by omega
      have a2 : x / 256 = 16 * s + t := by omega
      rw [a1, a2]
      have a3 : (16 * s + t) / 2 ^ 4 = s := by omega
      rw [a3]
      omega
    have e4 : ((x >>> 4) + x) % 16 = x % 16 + x / 16 % 16 := by
      rw [Nat.shiftRight_eq_div_pow]
      omega
    rw [e3, e4] at e
    obtain ⟨y, hy⟩ : ∃ y, y = (((x / 256) >>> 4) + x / 256) &&& mkk 4 n := ⟨_, rfl⟩
    rw [← hy] at e i1 i2
    have e5 : (y * 256 + (x % 16 + x / 16 % 16)) % 256 = x % 16 + x / 16 % 16 := by omega
    have e6 : (y * 256 + (x % 16 + x / 16 % 16)) / 256 = y := by omega
    rw [e]
    refine ⟨?_, fun i => ?_⟩
    · show _ % _ + ds _ n (_ / _) = _
      rw [e5, e6, i1, show n + 1 + (n + 1) = n + n + 1 + 1 by omega]
      show _ = _ + (_ + ds _ _ (x / 16 / 16))
      rw [Nat.div_div_eq_div_mul, show 16 * 16 = 256 from rfl]
      omega
    · cases i with
      | zero => rw [Nat.pow_zero, Nat.div_one, e5]; omega
      | succ i =>
        rw [Nat.pow_succ, Nat.mul_comm (256 ^ i) 256, ← Nat.div_div_eq_div_mul, e6]
        exact i2 i
theorem pair_small {k n : Nat} (hk : 0 < k) {D : Nat} : ∀ {x : Nat}, (∀ i, x / (2 ^ k) ^ i % 2 ^ k ≤ D) → ∀ i, hv k (mkk k n) x / (2 ^ (k + k)) ^ i % 2 ^ (k + k) ≤ D + D := by
  induction n with
  | zero => intro x _ i; simp [hv, mkk]
  | succ n ih =>
    intro x h i
    have hk2 : 2 ^ (k + k) = 2 ^ k * 2 ^ k := Nat.pow_add ..
    have hp : 2 ≤ 2 ^ k := by
      have := Nat.pow_le_pow_right (n := 2) (by decide) hk
      simpa using this
    have h0 := Nat.two_pow_pos (k + k)
    have hlt : x % 2 ^ k + x / 2 ^ k % 2 ^ k < 2 ^ (k + k) := by
      have h1 := Nat.mod_lt x (Nat.two_pow_pos k)
      have h2 := Nat.mod_lt (x / 2 ^ k) (Nat.two_pow_pos k)
      have h3 : 2 ^ k + 2 ^ k ≤ 2 ^ k * 2 ^ k := by
        have := Nat.mul_le_mul_right (2 ^ k) hp
        omega
      omega
    have d0 := h 0
    have d1 := h 1
    simp only [Nat.pow_zero, Nat.div_one, Nat.pow_one] at d0 d1
    cases i with
    | zero => rw [Nat.pow_zero, Nat.div_one, hv_step, Nat.mul_comm, Nat.mul_add_mod, Nat.mod_eq_of_lt hlt]; omega
    | succ i =>
      rw [Nat.pow_succ, Nat.mul_comm, ← Nat.div_div_eq_div_mul, hv_step, Nat.mul_comm (hv _ _ _), Nat.mul_add_div h0, Nat.div_eq_of_lt hlt, Nat.add_zero]
      refine ih (fun i => ?_) i
      have := h (i + 2)
      rwa [show (2 ^ k) ^ (i + 2) = 2 ^ (k + k) * (2 ^ k) ^ i by rw [Nat.pow_add, hk2, Nat.mul_comm]; congr 1; exact Nat.pow_two _, ← Nat.div_div_eq_div_mul] at this
def o3 (x : Nat) : Nat := ((hv 2 M2 (hv 1 M1 x) >>> 4) + hv 2 M2 (hv 1 M1 x)) &&& M4
def o4 (x : Nat) : Nat := o3 x + (o3 x >>> 8)
def o5 (x : Nat) : Nat := o4 x + (o4 x >>> 16)
def o6 (x : Nat) : Nat := o5 x + (o5 x >>> 32)
theorem ds_cons {b n x y z : Nat} (h : x = y + b * z) (hy : y < b) : ds b (n + 1) x = y + ds b n z := by
  show x % b + ds b n (x / b) = _
  rw [h, Nat.add_mul_mod_self_left, Nat.mod_eq_of_lt hy, Nat.add_mul_div_left _ _ (by omega), Nat.div_eq_of_lt hy, Nat.zero_add]
theorem dv {a u v K : Nat} (h : a = u + K * v) (hu : u < K) : a / K = v := by
  rw [h, Nat.add_mul_div_left _ _ (by omega), Nat.div_eq_of_lt hu, Nat.zero_add]
theorem digits8 {y : Nat} (h : y < 18446744073709551616) : y = y % 256 + 256 * (y / 256 % 256 + 256 * (y / 65536 % 256 + 256 * (y / 16777216 % 256 + 256 * (y / 4294967296 % 256 + 256 * (y / 1099511627776 % 256 + 256 * (y / 281474976710656 % 256 + 256 * (y / 72057594037927936 % 256))))))) := by
  rw [show y / 65536 = y / 256 / 256 by simp [Nat.div_div_eq_div_mul], show y / 16777216 = y / 256 / 256 / 256 by simp [Nat.div_div_eq_div_mul], show y / 4294967296 = y / 256 / 256 / 256 / 256 by simp [Nat.div_div_eq_div_mul], show y / 1099511627776 = y / 256 / 256 / 256 / 256 / 256 by simp [Nat.div_div_eq_div_mul], show y / 281474976710656 = y / 256 / 256 / 256 / 256 / 256 / 256 by simp [Nat.div_div_eq_div_mul], show y / 72057594037927936 = y / 256 / 256 / 256 / 256 / 256 / 256 / 256 by simp [Nat.div_div_eq_div_mul]]
  have e : y / 256 / 256 / 256 / 256 / 256 / 256 / 256 % 256 = y / 256 / 256 / 256 / 256 / 256 / 256 / 256 := Nat.mod_eq_of_lt (by simp [Nat.div_div_eq_div_mul]; exact Nat.div_lt_of_lt_mul h)
  rw [e, Nat.mod_add_div, Nat.mod_add_div, Nat.mod_add_div, Nat.mod_add_div, Nat.mod_add_div, Nat.mod_add_div, Nat.mod_add_div]
theorem fold8 {y b0 b1 b2 b3 b4 b5 b6 b7 : Nat} (hy : y = b0 + 256 * (b1 + 256 * (b2 + 256 * (b3 + 256 * (b4 + 256 * (b5 + 256 * (b6 + 256 * b7))))))) (e0 : b0 ≤ 8) (e1 : b1 ≤ 8) (e2 : b2 ≤ 8) (e3 : b3 ≤ 8) (e4 : b4 ≤ 8) (e5 : b5 ≤ 8) (e6 : b6 ≤ 8) (e7 : b7 ≤ 8) :
    y ≤ 578721382704613384 ∧ y + (y >>> 8) + ((y + (y >>> 8)) >>> 16) + ((y + (y >>> 8) + ((y + (y >>> 8)) >>> 16)) >>> 32) < 9223372036854775808 ∧ (y + (y >>> 8) + ((y + (y >>> 8)) >>> 16) + ((y + (y >>> 8) + ((y + (y >>> 8)) >>> 16)) >>> 32)) % 128 = ds 256 8 y := by
  have d : ds 256 8 y = b0 + (b1 + (b2 + (b3 + (b4 + (b5 + (b6 + (b7 + 0))))))) := by
    rw [ds_cons hy (by omega), ds_cons rfl (by omega), ds_cons rfl (by omega), ds_cons rfl (by omega), ds_cons rfl (by omega), ds_cons rfl (by omega), ds_cons rfl (by omega), ds_cons (x := b7) (y := b7) (z := 0) (by omega) (by omega)]
    rfl
  rw [d]
  simp only [Nat.shiftRight_eq_div_pow, Nat.reducePow]
  have h1 : y / 256 = b1 + 256 * (b2 + 256 * (b3 + 256 * (b4 + 256 * (b5 + 256 * (b6 + 256 * b7))))) := dv hy (by omega)
  rw [h1]
  obtain ⟨z, hz⟩ : ∃ z, z = y + (b1 + 256 * (b2 + 256 * (b3 + 256 * (b4 + 256 * (b5 + 256 * (b6 + 256 * b7)))))) := ⟨_, rfl⟩
  rw [← hz]
  have hz2 : z = (b0 + b1 + 256 * (b1 + b2)) + 65536 * ((b2 + b3) + 256 * ((b3 + b4) + 256 * ((b4 + b5) + 256 * ((b5 + b6) + 256 * ((b6 + b7) + 256 * b7))))) := by rw [hz, hy]; clear h1 hz hy d e0 e1 e2 e3 e4 e5 e6 e7; omega
  rw [dv hz2 (by clear h1 hz hy hz2 d; omega)]
  obtain ⟨t, ht⟩ : ∃ t, t = z + ((b2 + b3) + 256 * ((b3 + b4) + 256 * ((b4 + b5) + 256 * ((b5 + b6) + 256 * ((b6 + b7) + 256 * b7))))) := ⟨_, rfl⟩
  rw [← ht]
  have ht2 : t = (b0 + b1 + b2 + b3 + 256 * (b1 + b2 + b3 + b4 + 256 * (b2 + b3 + b4 + b5 + 256 * (b3 + b4 + b5 + b6)))) + 4294967296 * ((b4 + b5 + b6 + b7) + 256 * ((b5 + b6 + b7) + 256 * ((b6 + b7) + 256 * b7))) := by rw [ht, hz2]; clear h1 hz hy hz2 ht d e0 e1 e2 e3 e4 e5 e6 e7; omega
  rw [dv ht2 (by clear h1 hz hy hz2 ht ht2 d; omega)]
  have h4 : t + ((b4 + b5 + b6 + b7) + 256 * ((b5 + b6 + b7) + 256 * ((b6 + b7) + 256 * b7))) = (b0 + (b1 + (b2 + (b3 + (b4 + (b5 + (b6 + (b7 + 0)))))))) + 128 * (2 * (b1 + b2 + b3 + b4 + b5 + b6 + b7 + 256 * (b2 + b3 + b4 + b5 + b6 + b7 + 256 * (b3 + b4 + b5 + b6 + b7))) + 33554432 * ((b4 + b5 + b6 + b7) + 256 * ((b5 + b6 + b7) + 256 * ((b6 + b7) + 256 * b7)))) := by rw [ht2]; clear h1 hz hy hz2 ht ht2 d e0 e1 e2 e3 e4 e5 e6 e7; omega
  rw [h4]
  refine ⟨by rw [hy]; clear h1 hz hy hz2 ht ht2 d h4; omega, by clear h1 hz hy hz2 ht ht2 d h4; omega, ?_⟩
  rw [Nat.add_mul_mod_self_left]
  exact Nat.mod_eq_of_lt (by clear h1 hz hy hz2 ht ht2 d h4; omega)
theorem ones_all {x : Nat} : o3 x ≤ 578721382704613384 ∧ o6 x < 9223372036854775808 ∧ o6 x % 128 = pop 64 x := by
  have h1 := hv_ds 1 (by decide) 32 x
  have h2 := hv_ds 2 (by decide) 16 (hv 1 M1 x)
  have m1 : mkk 1 32 = M1 := by decide +kernel
  have m2 : mkk 2 16 = M2 := by decide +kernel
  have m4 : mkk 4 8 = M4 := by decide +kernel
  rw [m1] at h1
  rw [m2] at h2
  have s1 := pair_small (k := 1) (n := 32) (D := 1) (by decide) (x := x) (fun i => by have := Nat.mod_lt (x / (2 ^ 1) ^ i) (show 0 < 2 ^ 1 by decide); omega)
  rw [m1] at s1
  have s2 := pair_small (k := 2) (n := 16) (D := 2) (by decide) (x := hv 1 M1 x) s1
  rw [m2] at s2
  obtain ⟨t1, t2⟩ := third (n := 8) (x := hv 2 M2 (hv 1 M1 x)) s2
  rw [m4] at t1 t2
  have hp : pop 64 x = ds 256 8 (o3 x) := by
    unfold pop lst
    rw [← List.countP_eq_length_filter, ← ds_count]
    exact (t1.trans (h2.trans h1)).symm
  have hl : o3 x < 18446744073709551616 := and_lt_right (by decide)
  have q0 := t2 0
  have q1 := t2 1
  have q2 := t2 2
  have q3 := t2 3
  have q4 := t2 4
  have q5 := t2 5
  have q6 := t2 6
  have q7 := t2 7
  change o3 x / 256 ^ 0 % 256 ≤ 8 at q0
  change o3 x / 256 ^ 1 % 256 ≤ 8 at q1
  change o3 x / 256 ^ 2 % 256 ≤ 8 at q2
  change o3 x / 256 ^ 3 % 256 ≤ 8 at q3
  change o3 x / 256 ^ 4 % 256 ≤ 8 at q4
  change o3 x / 256 ^ 5 % 256 ≤ 8 at q5
  change o3 x / 256 ^ 6 % 256 ≤ 8 at q6
  change o3 x / 256 ^ 7 % 256 ≤ 8 at q7
  rw [hp]
  unfold o6 o5 o4
  clear hp t1 t2 h1 h2 m1 m2 m4 s1 s2
  generalize o3 x = y at *
  simp only [Nat.reducePow, Nat.div_one] at q0 q1 q2 q3 q4 q5 q6 q7
  obtain ⟨b0, b1, b2, b3, b4, b5, b6, b7, hy, e0, e1, e2, e3, e4, e5, e6, e7⟩ : ∃ b0 b1 b2 b3 b4 b5 b6 b7, y = b0 + 256 * (b1 + 256 * (b2 + 256 * (b3 + 256 * (b4 + 256 * (b5 + 256 * (b6 + 256 * b7)))))) ∧ b0 ≤ 8 ∧ b1 ≤ 8 ∧ b2 ≤ 8 ∧ b3 ≤ 8 ∧ b4 ≤ 8 ∧ b5 ≤ 8 ∧ b6 ≤ 8 ∧ b7 ≤ 8 :=
    ⟨y % 256, y / 256 % 256, y / 65536 % 256, y / 16777216 % 256, y / 4294967296 % 256, y / 1099511627776 % 256, y / 281474976710656 % 256, y / 72057594037927936 % 256, digits8 hl, q0, q1, q2, q3, q4, q5, q6, q7⟩
  clear q0 q1 q2 q3 q4 q5 q6 q7
  exact fold8 hy e0 e1 e2 e3 e4 e5 e6 e7
end Go.Proofs.YtahdbbgkgokkhaaDoor
