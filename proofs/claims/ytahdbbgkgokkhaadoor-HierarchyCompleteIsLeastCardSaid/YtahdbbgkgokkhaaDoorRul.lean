/- Rules: words of 64 bits. No program in sight. -/
import Derived.Test.YtahdbbgkgokkhaaDoorPop
import Derived.Test.YtahdbbgkgokkhaaDoorTables
namespace Go.Proofs.YtahdbbgkgokkhaaDoor
open Go.RowKit
section rules
variable {P : Program} {n : Nat} {f : Fr} {w : World} {ty : TypeId} {pos : String} {af : Array Edge} {x y : Operand} {t t' : TypeId} {dst : Option Tmp} {gd : Option (Nat × Bool)}
theorem r_addU {a b c : Nat} (hx : ev n f x = .int .u64 (a : Int)) (hy : ev n f y = .int .u64 (b : Int)) (hc : a + b = c) (hr : c < 18446744073709551616) :
    RV P n f w ⟨dst, .binOp .add t x y t', ty, pos, af, gd⟩ (.int .u64 (c : Int)) w := by
  subst hc
  have h2 : IntKind.u64.wrap ((a : Int) + (b : Int)) = ((a + b : Nat) : Int) := by rw [IntKind.wrap_u64]; omega
  simp only [RV, execOp, hx, hy, eqGuard, binOp, Op.intArith, h2]
  simp
theorem r_shlV {a b c : Nat} {kb : IntKind} (hx : ev n f x = .int .u64 (a : Int)) (hy : ev n f y = .int kb (b : Int)) (hb : b < 64) (ha : a * 2 ^ b < 18446744073709551616) (hc : a * 2 ^ b = c) :
    RV P n f w ⟨dst, .binOp .shl t x y t', ty, pos, af, gd⟩ (.int .u64 (c : Int)) w := by
  subst hc
  have h1 : min b 64 = b := by omega
  have h2 : IntKind.u64.wrap ((a : Int) * 2 ^ b) = ((a * 2 ^ b : Nat) : Int) := by
    rw [IntKind.wrap_u64]
    have : ((a : Int) * 2 ^ b) = ((a * 2 ^ b : Nat) : Int) := by simp
    rw [this]
    generalize a * 2 ^ b = c at ha
    omega
  have h0 : ¬ ((b : Int) < 0) := by omega
  simp only [RV, execOp, hx, hy, eqGuard, binOp, Op.shift, IntKind.bits, if_neg h0, Int.toNat_natCast, h1, h2]
  rfl
theorem r_shlW {a b c : Nat} {kb : IntKind} (hx : ev n f x = .int .u64 (a : Int)) (hy : ev n f y = .int kb (b : Int)) (hb : b < 64) (hc : a * 2 ^ b % 18446744073709551616 = c) :
    RV P n f w ⟨dst, .binOp .shl t x y t', ty, pos, af, gd⟩ (.int .u64 (c : Int)) w := by
  subst hc
  have h1 : min b 64 = b := by omega
  have h2 : IntKind.u64.wrap ((a : Int) * 2 ^ b) = ((a * 2 ^ b % 18446744073709551616 : Nat) : Int) := by
    rw [IntKind.wrap_u64]
    have : ((a : Int) * 2 ^ b) = ((a * 2 ^ b : Nat) : Int) := by simp
    rw [this]
    generalize a * 2 ^ b = c
    omega
  have h0 : ¬ ((b : Int) < 0) := by omega
  simp only [RV, execOp, hx, hy, eqGuard, binOp, Op.shift, IntKind.bits, if_neg h0, Int.toNat_natCast, h1, h2]
  rfl
theorem i64_and127 (a : Nat) (ha : a < 9223372036854775808) : bits .and .i64 (a : Int) 127 = ((a % 128 : Nat) : Int) := by
  show IntKind.i64.wrap ((BitVec.ofInt 64 (a : Int) &&& BitVec.ofInt 64 127).toNat : Int) = _
  have e1 : (BitVec.ofInt 64 (a : Int)).toNat = a := by
    rw [BitVec.toNat_ofInt]; omega
  rw [BitVec.toNat_and, e1, show (BitVec.ofInt 64 127).toNat = 2 ^ 7 - 1 from rfl, Nat.and_two_pow_sub_one_eq_mod]
  have : a % 2 ^ 7 < 128 := Nat.mod_lt _ (by decide)
  rw [IntKind.wrap_i64]
  omega
theorem r_andI {a : Nat} (hx : ev n f x = .int .i64 (a : Int)) (hy : ev n f y = .int .i64 127) (ha : a < 9223372036854775808) :
    RV P n f w ⟨dst, .binOp .and t x y t', ty, pos, af, gd⟩ (.int .i64 ((a % 128 : Nat) : Int)) w := by
  have := i64_and127 a ha
  simp only [RV, execOp, hx, hy, eqGuard, binOp]
  simp [go_sem, this]
/-- what x has and y has not -/
def anN (a b : Nat) : Nat := a &&& (18446744073709551615 - b)
theorem u64_andNot (a b : Nat) (ha : a < 18446744073709551616) (hb : b < 18446744073709551616) : bits .andNot .u64 (a : Int) (b : Int) = ((anN a b : Nat) : Int) := by
  have hx : anN a b < 2 ^ 64 := Nat.lt_of_le_of_lt Nat.and_le_left ha
  show IntKind.u64.wrap ((BitVec.ofInt 64 (a : Int) &&& ~~~ (BitVec.ofInt 64 (b : Int))).toNat : Int) = _
  have e1 : (BitVec.ofInt 64 (a : Int)).toNat = a := by rw [BitVec.toNat_ofInt]; omega
  have e2 : (BitVec.ofInt 64 (b : Int)).toNat = b := by rw [BitVec.toNat_ofInt]; omega
  rw [BitVec.toNat_and, BitVec.toNat_not, e1, e2, IntKind.wrap_u64, show 2 ^ 64 - 1 - b = 18446744073709551615 - b from rfl]
  show ((anN a b : Nat) : Int) % _ = _
  omega
theorem r_anU {a b : Nat} (hx : ev n f x = .int .u64 (a : Int)) (hy : ev n f y = .int .u64 (b : Int)) (ha : a < 18446744073709551616) (hb : b < 18446744073709551616) :
    RV P n f w ⟨dst, .binOp .andNot t x y t', ty, pos, af, gd⟩ (.int .u64 ((anN a b : Nat) : Int)) w := by
  have := u64_andNot a b ha hb
  simp only [RV, execOp, hx, hy, eqGuard, binOp]
  simp [go_sem, this]
theorem r_addS {dst : Option Tmp} {gd : Option (Nat × Bool)} {p q : ByteArray} (hx : ev n f x = .string p) (hy : ev n f y = .string q) (hb : p.size + q.size ≤ 9223372036854775807) :
    RV P n f w ⟨dst, .binOp .add t x y t', ty, pos, af, gd⟩ (.string (p ++ q)) w := by
  have h : ¬ ((p.size + q.size : Nat) : Int) > IntKind.i64.max := by
    have e : IntKind.i64.max = 9223372036854775807 := by decide
    rw [e]; omega
  simp only [RV, execOp, hx, hy, eqGuard, binOp, Op.stringOp, if_neg h]
  rfl
end rules
/-- every member of x is one of y -/
def subN (x y : Nat) : Bool := decide (x &&& y = x)
theorem subN_iff {x y : Nat} : subN x y = true ↔ ∀ i, x.testBit i = true → y.testBit i = true := by
  unfold subN
  rw [decide_eq_true_iff]
  constructor
  · intro h i hi
    rw [← h, Nat.testBit_and] at hi
    simp only [Bool.and_eq_true] at hi
    exact hi.2
  · intro h
    refine Nat.eq_of_testBit_eq (fun i => ?_)
    rw [Nat.testBit_and]
    cases hx : x.testBit i with
    | false => rfl
    | true => rw [h i hx]; rfl
theorem anN_zero {a b : Nat} (ha : a < 18446744073709551616) (hb : b < 18446744073709551616) : anN a b = 0 ↔ subN a b = true := by
  have hbit : ∀ i, (anN a b).testBit i = (a.testBit i && !b.testBit i) := fun i => by
    unfold anN
    rw [Nat.testBit_and, show 18446744073709551615 - b = 2 ^ 64 - (b + 1) by omega, Nat.testBit_two_pow_sub_succ (by omega)]
    by_cases h : i < 64
    · simp [h]
    · have : a.testBit i = false := Nat.testBit_lt_two_pow (Nat.lt_of_lt_of_le (show a < 2 ^ 64 from ha) (Nat.pow_le_pow_right (by decide) (by omega)))
      simp [this]
  rw [subN_iff]
  constructor
  · intro h i hi
    have := hbit i
    rw [h, hi] at this
    simpa using this
  · intro h
    refine Nat.eq_of_testBit_eq (fun i => ?_)
    rw [hbit]
    cases hx : a.testBit i with
    | false => simp
    | true => rw [h i hx]; simp
def cmpI (a b : Int) : Int := if a < b then -1 else if b < a then 1 else 0
theorem cmpI_lt {a b : Int} : cmpI a b < 0 ↔ a < b := by unfold cmpI; split <;> (try split) <;> omega
theorem cmpI_eq {a b : Int} : cmpI a b = 0 ↔ a = b := by unfold cmpI; split <;> (try split) <;> omega
/-- how sets are compared -/
def cmpU (x y : Nat) : Int := if cmpI (tz x) (tz y) ≠ 0 then cmpI (tz x) (tz y) else if cmpI (pop 64 y) (pop 64 x) ≠ 0 then cmpI (pop 64 y) (pop 64 x) else cmpI (revN y) (revN x)
theorem hv1_lt (x : Nat) : hv 1 M1 x < 18446744073709551616 := by
  have h := hv_lt (k := 1) (n := 32) (x := x) (by decide) (by decide)
  rwa [show mkk 1 32 = M1 by decide +kernel] at h
theorem hv2_lt (x : Nat) : hv 2 M2 (hv 1 M1 x) < 9223372036854775808 := by
  have h := hv_lt (k := 2) (n := 16) (x := hv 1 M1 x) (by decide) (by decide)
  have s1 := pair_small (k := 1) (n := 32) (D := 1) (by decide) (x := x) (fun i => by have := Nat.mod_lt (x / (2 ^ 1) ^ i) (show 0 < 2 ^ 1 by decide); omega)
  rw [show mkk 1 32 = M1 by decide +kernel] at s1
  have s2 := pair_small (k := 2) (n := 16) (D := 2) (by decide) (x := hv 1 M1 x) s1 15
  rw [show mkk 2 16 = M2 by decide +kernel] at h s2
  simp only [Nat.reduceMul, Nat.reduceAdd, Nat.reducePow] at h s2
  generalize hv 2 M2 (hv 1 M1 x) = z at *
  omega
theorem o3_le (x : Nat) : o3 x ≤ 578721382704613384 := ones_all.1
theorem o6_lt (x : Nat) : o6 x < 9223372036854775808 := ones_all.2.1
theorem o6_pop (x : Nat) : o6 x % 128 = pop 64 x := ones_all.2.2
theorem o4_lt (x : Nat) : o4 x < 9223372036854775808 := Nat.lt_of_le_of_lt (Nat.le_trans (Nat.le_add_right _ _) (Nat.le_add_right _ _)) (o6_lt x)
theorem o5_lt (x : Nat) : o5 x < 9223372036854775808 := Nat.lt_of_le_of_lt (Nat.le_add_right _ _) (o6_lt x)
theorem sw_lt {m : Nat} (x k : Nat) (h : m * 2 ^ k < 18446744073709551616) : (x &&& m) * 2 ^ k < 18446744073709551616 := Nat.lt_of_le_of_lt (Nat.mul_le_mul_right _ Nat.and_le_right) h
theorem sh_lt {x : Nat} (k : Nat) (h : x < 18446744073709551616) : x >>> k < 18446744073709551616 := Nat.lt_of_le_of_lt (Nat.shiftRight_le _ _) h
/-! ## slices of words -/
def uV (x : Nat) : Value := .int .u64 (x : Int)
def UIn (w : World) (A : Option Addr) (xs : List Nat) : Prop :=
  xs.length ≤ maxI ∧ (xs ≠ [] → ∃ b o, A = some ⟨b, o, none⟩ ∧ b < w.heap.size ∧ ∀ k (h : k < xs.length), w.cell? ⟨b, o + k * 1, none⟩ = some (uV xs[k]))
theorem UIn.mono {w w' : World} {A : Option Addr} {xs : List Nat} (h : UIn w A xs) (hb : Bel w w') : UIn w' A xs :=
  ⟨h.1, fun hn => by
    obtain ⟨b, o, e, hl, hc⟩ := h.2 hn
    exact ⟨b, o, e, Nat.lt_of_lt_of_le hl hb.size, fun k hk => hb.cell hl (hc k hk)⟩⟩
theorem UIn.at_ {w : World} {A : Option Addr} {xs : List Nat} (h : UIn w A xs) {k : Nat} (hk : k < xs.length) : ∃ b o, A = some ⟨b, o, none⟩ ∧ b < w.heap.size ∧ w.cell? ⟨b, o + k * 1, none⟩ = some (uV xs[k]) := by
  obtain ⟨b, o, e, hl, hc⟩ := h.2 (by rintro rfl; simp at hk)
  exact ⟨b, o, e, hl, hc k hk⟩
def UOwn (w : World) (base : Nat) (A : Option Addr) (cap : Nat) (xs : List Nat) : Prop := Own w base 49 1 A xs.length cap (xs.map uV)
theorem UOwn.in_ {w : World} {base : Nat} {A : Option Addr} {cap : Nat} {xs : List Nat} (h : UOwn w base A cap xs) : UIn w A xs := by
  refine ⟨h.max, fun hn => ?_⟩
  obtain ⟨g, e, _, hl, hc⟩ := h.cell (fun e => hn (List.map_eq_nil_iff.1 e))
  exact ⟨g, 0, e, hl, fun k hk => by rw [Nat.zero_add, Nat.mul_one]; exact hc k _ (by simp [hk])⟩
theorem uown_snoc {w : World} {base : Nat} {A : Option Addr} {cap : Nat} {xs : List Nat} {z : Nat} (h : Own w base 49 1 A (xs.length + 1) cap (xs.map uV ++ [Value.int .u64 (z : Int)])) : UOwn w base A cap (xs ++ [z]) := by
  unfold UOwn
  rw [List.length_append, List.map_append]
  exact h
theorem usl_snoc (A : Option Addr) (cap : Nat) (xs : List Nat) (z : Nat) : Value.slice A (xs.length + 1) cap = Value.slice A (xs ++ [z]).length cap := by rw [List.length_append]; rfl
theorem row_uin {w : World} {b n : Nat} {f : Nat → Nat} (h : Blk w b 49 (rU n f)) (hn : n ≤ 1000) : UIn w (some ⟨b, 0, none⟩) ((List.range n).map f) := by
  refine ⟨by rw [List.length_map, List.length_range]; unfold maxI; omega, fun _ => ⟨b, 0, rfl, h.lt, fun k hk => ?_⟩⟩
  rw [List.length_map, List.length_range] at hk
  rw [List.getElem_map, List.getElem_range]
  exact h.cell (row_get hk)
end Go.Proofs.YtahdbbgkgokkhaaDoor
