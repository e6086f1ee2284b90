/- Structs of a string and two ints, compared. No program in sight. -/
import Derived.Test.YtahdbbgkgokkhaaDoorEng2
import Derived.Test.YtahdbbgkgokkhaaDoorData
namespace Go.Proofs.YtahdbbgkgokkhaaDoor
open Go.RowKit
theorem ty_ext {a b : Ty} (h1 : a.name = b.name) (h2 : a.par = b.par) : a = b := by
  cases a; cases b
  simp only at h1 h2
  rw [h1, h2]
section eqs
variable {P : Program} {Q : Exit → Act → World → Prop} {n : Nat} {f : Fr} {w w' : World} {ty t' : TypeId} {pos : String} {af : Array Edge} {dst : Option Tmp} {gd : Option (Nat × Bool)} {x y : Operand} {t ts ti : TypeId} {s s' : ByteArray} {a b a' b' : Int}
end eqs
end Go.Proofs.YtahdbbgkgokkhaaDoor
