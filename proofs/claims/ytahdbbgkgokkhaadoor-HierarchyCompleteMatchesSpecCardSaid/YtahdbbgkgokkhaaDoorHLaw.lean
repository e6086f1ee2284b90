/- Plain laws of the order of types: meets, joins, remainders. No program in sight. -/
import Derived.Test.YtahdbbgkgokkhaaDoorUnmet
namespace Go.Proofs.YtahdbbgkgokkhaaDoor
open Go.RowKit
/-! ## clearing the least member -/
/-! ## joins -/
def capB (l : List Ty) (a b c : Nat) : Bool := sub l a c && sub l b c
def joinB (l : List Ty) (a b c : Nat) : Bool := capB l a b c && (List.range l.length).all (fun j => !(!(decide (j = c)) && sub l j c && capB l a b j))
/-- what is left of the common supertypes from k on -/
def restN (l : List Ty) (a b k : Nat) : Nat := mask (fun i => capB l a b i && decide (k ≤ i)) l.length
structure RestAt (l : List Ty) (a b k i : Nat) : Prop where
  lt : i < l.length
  le : k ≤ i
  cap : capB l a b i = true
  gap : ∀ j, k ≤ j → j < i → joinB l a b j = false
  next : restN l a b k &&& (restN l a b k - 1) = restN l a b (i + 1)
/-! ## meets -/
/-- in a hierarchy without faults common subtypes have a meet -/
structure Sound (l : List Ty) : Prop where
  vt : VT l
  pos : 0 < l.length
  le : l.length ≤ 60
  all : ∀ a b i, a < l.length → b < l.length → i < l.length → comm l a b i = true → (meet l a b).2.1 = true
theorem sub_anti {l : List Ty} (hv : VT l) {a b : Nat} (h : sub l a b = true) (h2 : sub l b a = true) : a = b := Nat.le_antisymm (sub_le' hv h2) (sub_le' hv h)
/-- the meet of three -/
structure Tri (l : List Ty) (a b c m : Nat) (ok : Bool) : Prop where
  yes : ok = true → m < l.length ∧ (sub l m a = true ∧ sub l m b = true ∧ sub l m c = true) ∧ ∀ i, i < l.length → sub l i a = true → sub l i b = true → sub l i c = true → sub l i m = true
  no : ok = false → m = 0 ∧ ∀ i, i < l.length → sub l i a = true → sub l i b = true → sub l i c = true → False
/-! ## remainders -/
/-! ## two types of a hierarchy -/
def twoF (l : List Ty) (fs : List Ft) (a b : Int) : Fl :=
  if (hierFault l fs).1 ≠ 0 then hierFault l fs else if a < 0 ∨ (l.length : Int) ≤ a then (3, -2) else if b < 0 ∨ (l.length : Int) ≤ b then (3, -3) else (0, 0)
structure TwoOk (l : List Ty) (fs : List Ft) (a b : Int) : Prop where
  h : (hierFault l fs).1 = 0
  s : Sound l
  a0 : 0 ≤ a
  al : a < l.length
  b0 : 0 ≤ b
  bl : b < l.length
  z : twoF l fs a b = (0, 0)
def hsub (l : List Ty) (fs : List Ft) (a b : Int) : Bool := if (twoF l fs a b).1 ≠ 0 then false else sub l a.toNat b.toNat
/-! ## a slice of ints of one's own -/
theorem own_snoc {w : World} {base : Nat} {A : Option Addr} {cap : Nat} {xs : List Int} {z : Int} (h : Own w base 3 1 A (xs.length + 1) cap (xs.map (Value.int .i64) ++ [Value.int .i64 z])) : Own w base 3 1 A (xs ++ [z]).length cap ((xs ++ [z]).map (Value.int .i64)) := by
  rw [List.length_append, List.map_append]; exact h
theorem sl_snoc (A : Option Addr) (cap : Nat) (xs : List Int) (z : Int) : Value.slice A (xs.length + 1) cap = Value.slice A (xs ++ [z]).length cap := by rw [List.length_append]; rfl
end Go.Proofs.YtahdbbgkgokkhaaDoor
