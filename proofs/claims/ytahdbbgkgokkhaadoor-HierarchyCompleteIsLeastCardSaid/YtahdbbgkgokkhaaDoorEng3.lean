/- The engine's third part: regions that draw their order, with intervals of blocks. -/
import Derived.Test.YtahdbbgkgokkhaaDoorEng2
import Derived.Lib.AppendZerosOnto
namespace Go.Proofs.YtahdbbgkgokkhaaDoor
open Go.RowKit
/-! ## regions with intervals -/
section monoi
variable {P : Program} {Q : Exit → Act → World → Prop} {n : Nat} {f : Fr} {w : World}
/-! ## operations that float -/
def FinAll (p : List Nat → Prop) : List (List Nat) → Prop
  | [] => True
  | x :: r => p x ∧ FinAll p r
theorem FinAll.get {p : List Nat → Prop} : ∀ {xs : List (List Nat)}, FinAll p xs → ∀ x ∈ xs, p x
  | _ :: _, h, x, hx => by
    rcases List.mem_cons.1 hx with rfl | hx
    · exact h.1
    · exact FinAll.get h.2 x hx
end monoi
/-- what holds as long as an interval of blocks stays as it is -/
def Kept (lo hi : Nat) (w : World) (p : World → Prop) : Prop := hi ≤ w.heap.size ∧ ∀ w2 : World, hi ≤ w2.heap.size → (∀ b, lo ≤ b → b < hi → w2.heap[b]? = w.heap[b]?) → p w2
theorem Kept.tr {lo hi : Nat} {w w' : World} {p : World → Prop} {X : List Nat} (h : Kept lo hi w p) (hs : Same X w w') (hx : ∀ g ∈ X, g < lo ∨ hi ≤ g) : Kept lo hi w' p :=
  ⟨Nat.le_trans h.1 hs.size, fun w2 h2 hb => h.2 w2 h2 (fun b h3 h4 => (hb b h3 h4).trans (hs.blk b (Nat.lt_of_lt_of_le h4 h.1) (fun hX => by rcases hx b hX with h5 | h5 <;> omega)))⟩
theorem Kept.tr0 {lo hi : Nat} {w w' : World} {p : World → Prop} (h : Kept lo hi w p) (hs : Same [] w w') : Kept lo hi w' p := h.tr hs (by simp)
theorem Kept.tr1 {lo hi b : Nat} {w w' : World} {p : World → Prop} (h : Kept lo hi w p) (hs : Same [b] w w') (hx : b < lo ∨ hi ≤ b) : Kept lo hi w' p := h.tr hs (fun g hg => by rw [List.mem_singleton.1 hg]; exact hx)
theorem Kept.imp {lo hi : Nat} {w : World} {p q : World → Prop} (h : Kept lo hi w p) (k : ∀ w2, p w2 → q w2) : Kept lo hi w q := ⟨h.1, fun w2 h2 hb => k w2 (h.2 w2 h2 hb)⟩
end Go.Proofs.YtahdbbgkgokkhaaDoor
