/- What these functions of the program compute, at every world: slices.Clone[[][]int,[]int], slices.Insert[[][]int,[]int]. -/
import Derived.Test.YtahdbbgkgokkhaaDoorRcm
import Derived.Test.YtahdbbgkgokkhaaDoorEng3
namespace Go.Proofs.YtahdbbgkgokkhaaDoor
open Go.RowKit

def SameQ (X : List Nat) (w w' : World) : Prop := Same X w w'
theorem SameQ.trans {X : List Nat} {a b c : World} (h : SameQ X a b) {Y : List Nat} (k : Same Y b c) (hy : ∀ g ∈ Y, g ∈ X) : SameQ X a c := Same.trans h (k.weak hy)
end Go.Proofs.YtahdbbgkgokkhaaDoor
