/- What the data of hierarchies are as plain values, and how a world holds them. -/
import Derived.Test.YtahdbbgkgokkhaaDoorEng2
import Derived.Test.YtahdbbgkgokkhaaDoorEngH
namespace Go.Proofs.YtahdbbgkgokkhaaDoor
open Go.RowKit

structure Ty where
  name : ByteArray
  par : List Int
structure Ft where
  name : ByteArray
  of : Int
  val : Int
abbrev Fl := Int × Int
def flV (p : Fl) : Value := .agg #[.int .i64 p.1, .int .i64 p.2]
theorem ret_fl {c i : Int} {p : Fl} (h : p = (c, i)) : Ending.returned (.agg [.int .i64 c, .int .i64 i].toArray) = .returned (flV p) := by rw [h]; rfl

def maxI : Nat := 9223372036854775807
/-- a slice of ints -/
def IntsIn (w : World) (A : Option Addr) (xs : List Int) : Prop :=
  xs.length ≤ maxI ∧ (xs ≠ [] → ∃ b o, A = some ⟨b, o, none⟩ ∧ b < w.heap.size ∧ ∀ k (h : k < xs.length), w.cell? ⟨b, o + k * 1, none⟩ = some (.int .i64 xs[k]))
theorem IntsIn.mono {w w' : World} {A : Option Addr} {xs : List Int} (h : IntsIn w A xs) (hb : Bel w w') : IntsIn w' A xs :=
  ⟨h.1, fun hn => by
    obtain ⟨b, o, e, hl, hc⟩ := h.2 hn
    exact ⟨b, o, e, Nat.lt_of_lt_of_le hl hb.size, fun k hk => hb.cell hl (hc k hk)⟩⟩
theorem IntsIn.at_ {w : World} {A : Option Addr} {xs : List Int} (h : IntsIn w A xs) {k : Nat} (hk : k < xs.length) :
    ∃ b o, A = some ⟨b, o, none⟩ ∧ b < w.heap.size ∧ w.cell? ⟨b, o + k * 1, none⟩ = some (.int .i64 xs[k]) := by
  obtain ⟨b, o, e, hl, hc⟩ := h.2 (by rintro rfl; simp at hk)
  exact ⟨b, o, e, hl, hc k hk⟩
/-- one element of a slice of types, its parents' slice (A, c) -/
def TyIn (w : World) (b o : Nat) (t : Ty) : Prop := ∃ A c, w.rangeAt b o [.string t.name, .slice A t.par.length c] ∧ IntsIn w A t.par
def TypesIn (w : World) (A : Option Addr) (l : List Ty) : Prop :=
  l.length ≤ maxI ∧ (l ≠ [] → ∃ b o, A = some ⟨b, o, none⟩ ∧ b < w.heap.size ∧ ∀ k (h : k < l.length), TyIn w b (o + k * 2) l[k])
theorem TyIn.mono {w w' : World} {b o : Nat} {t : Ty} (h : TyIn w b o t) (hb : Bel w w') (hl : b < w.heap.size) : TyIn w' b o t := by
  obtain ⟨A, c, h1, h2⟩ := h
  exact ⟨A, c, hb.range hl h1, h2.mono hb⟩
theorem TypesIn.mono {w w' : World} {A : Option Addr} {l : List Ty} (h : TypesIn w A l) (hb : Bel w w') : TypesIn w' A l :=
  ⟨h.1, fun hn => by
    obtain ⟨b, o, e, hl, hc⟩ := h.2 hn
    exact ⟨b, o, e, Nat.lt_of_lt_of_le hl hb.size, fun k hk => (hc k hk).mono hb hl⟩⟩
theorem TypesIn.at_ {w w' : World} {A : Option Addr} {l : List Ty} (h : TypesIn w A l) (hb : Bel w w') {k : Nat} (hk : k < l.length) :
    ∃ b o A' c, A = some ⟨b, o, none⟩ ∧ b < w.heap.size ∧ w'.rangeAt b (o + k * 2) [.string (l[k]).name, .slice A' (l[k]).par.length c] ∧ IntsIn w A' (l[k]).par := by
  obtain ⟨b, o, e, hl, hc⟩ := h.2 (by rintro rfl; simp at hk)
  obtain ⟨A', c, h1, h2⟩ := hc k hk
  exact ⟨b, o, A', c, e, hl, hb.range hl h1, h2⟩
def FtIn (w : World) (b o : Nat) (t : Ft) : Prop := w.rangeAt b o [.string t.name, .int .i64 t.of, .int .i64 t.val]
def FeatsIn (w : World) (A : Option Addr) (l : List Ft) : Prop :=
  l.length ≤ maxI ∧ (l ≠ [] → ∃ b o, A = some ⟨b, o, none⟩ ∧ b < w.heap.size ∧ ∀ k (h : k < l.length), FtIn w b (o + k * 3) l[k])
theorem FeatsIn.mono {w w' : World} {A : Option Addr} {l : List Ft} (h : FeatsIn w A l) (hb : Bel w w') : FeatsIn w' A l :=
  ⟨h.1, fun hn => by
    obtain ⟨b, o, e, hl, hc⟩ := h.2 hn
    exact ⟨b, o, e, Nat.lt_of_lt_of_le hl hb.size, fun k hk => hb.range hl (hc k hk)⟩⟩
theorem FeatsIn.at_ {w w' : World} {A : Option Addr} {l : List Ft} (h : FeatsIn w A l) (hb : Bel w w') {k : Nat} (hk : k < l.length) :
    ∃ b o, A = some ⟨b, o, none⟩ ∧ b < w.heap.size ∧ w'.rangeAt b (o + k * 3) [.string (l[k]).name, .int .i64 (l[k]).of, .int .i64 (l[k]).val] := by
  obtain ⟨b, o, e, hl, hc⟩ := h.2 (by rintro rfl; simp at hk)
  exact ⟨b, o, e, hl, hb.range hl (hc k hk)⟩

/-! ## faults of types -/
def parFault (i : Int) : Int → List Int → Int
  | _, [] => 0
  | last, p :: ps => if p < 0 ∨ i ≤ p then 3 else if p ≤ last then 13 else parFault i p ps
def firstF (f : Nat → Int) : Nat → Nat → Fl
  | _, 0 => (0, 0)
  | i, m + 1 => if f i ≠ 0 then (f i, (i : Int)) else firstF f (i + 1) m
theorem firstF_hit {f : Nat → Int} {i m : Nat} {c : Int} (hm : 0 < m) (hc : f i = c) (h : c ≠ 0) : firstF f i m = (c, (i : Int)) := by
  subst hc
  cases m with
  | zero => omega
  | succ m => simp [firstF, h]
theorem firstF_miss {f : Nat → Int} {i n : Nat} (hm : i < n) (h : f i = 0) : firstF f i (n - i) = firstF f (i + 1) (n - (i + 1)) := by
  obtain ⟨m, hm'⟩ : ∃ m, n - i = m + 1 := ⟨n - i - 1, by omega⟩
  rw [hm', show n - (i + 1) = m from by omega]
  simp [firstF, h]
theorem firstF_end {f : Nat → Int} {i n : Nat} (h : n ≤ i) : firstF f i (n - i) = (0, 0) := by
  rw [show n - i = 0 from by omega]; rfl
def seen (l : List ByteArray) (s : ByteArray) : Bool := l.any (fun u => decide (u = s))
theorem seen_snoc (l : List ByteArray) (u s : ByteArray) : seen (l ++ [u]) s = (seen l s || decide (u = s)) := by simp [seen]
theorem take_snoc {α : Type} (l : List α) {k : Nat} (hk : k < l.length) : l.take (k + 1) = l.take k ++ [l[k]] := by
  rw [List.take_succ_eq_append_getElem hk]
end Go.Proofs.YtahdbbgkgokkhaaDoor
