/- What these functions of the program compute, at every world: glosswright/glosswrightlaw3.UnifyInAnyOrder. -/
import Derived.Test.YteoncmfiiknfbaaDoorEng4
import Derived.Test.YteoncmfiiknfbaaDoorEng3
import Derived.Test.YteoncmfiiknfbaaDoorUAll
namespace Go.Proofs.YteoncmfiiknfbaaDoor
open Go.RowKit

inductive GrVs (w : World) : List (List Nd) → List Value → Prop
  | nil : GrVs w [] []
  | cons {A : Option Addr} {g : List Nd} {c : Nat} {gs : List (List Nd)} {vs : List Value} (h : NodesIn w A g) (k : GrVs w gs vs) : GrVs w (g :: gs) (.slice A g.length c :: vs)
theorem GrVs.get {w : World} : ∀ {gs : List (List Nd)} {vs : List Value}, GrVs w gs vs → ∀ k (hk : k < gs.length), ∃ A c, vs[k]? = some (.slice A (gs[k]).length c) ∧ NodesIn w A gs[k]
  | _, _, .cons h _, 0, _ => ⟨_, _, rfl, h⟩
  | _, _, .cons _ r, k + 1, hk => by
    obtain ⟨A, c, h1, h2⟩ := r.get k (by simpa using hk)
    exact ⟨A, c, by simpa using h1, h2⟩
theorem grs_of_blk {w : World} {b t : Nat} {gs : List (List Nd)} {vs : List Value} (h : Blk w b t vs.toArray) (hv : GrVs w gs vs) (hl : gs.length ≤ maxI) : GrsIn w (some ⟨b, 0, none⟩) gs :=
  ⟨hl, fun _ => ⟨b, 0, rfl, h.lt, fun k hk => by
    obtain ⟨A, c, h1, h2⟩ := hv.get k hk
    refine ⟨A, c, fun j v hj => ?_, h2⟩
    match j, hj with
    | 0, hj => cases hj; exact h.cell (by simpa using h1)
    | _ + 1, hj => cases hj⟩⟩
theorem fn10_UOrd : callable Tryd.prog 10 = true := by kernel_rfl
theorem fn11_UOrd : callable Tryd.prog 11 = true := by kernel_rfl
theorem fn12 : callable Tryd.prog 12 = true := by kernel_rfl
theorem fn13_UOrd : callable Tryd.prog 13 = true := by kernel_rfl
theorem fn14_UOrd : callable Tryd.prog 14 = true := by kernel_rfl
theorem fn16_UOrd : callable Tryd.prog 16 = true := by kernel_rfl
theorem fn9 : callable Tryd.prog 9 = true := by kernel_rfl
end Go.Proofs.YteoncmfiiknfbaaDoor
