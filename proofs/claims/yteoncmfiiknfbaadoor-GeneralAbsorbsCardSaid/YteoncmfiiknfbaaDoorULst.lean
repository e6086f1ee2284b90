/- What these functions of the program compute, at every world: glosswright/glosswrightlaw3.UnifyInAnyOrder. What these functions of the program compute, at every world: glosswright/glosswrightlaw3.UnifyIsLeastBound. -/
import Derived.Test.YteoncmfiiknfbaaDoorGenC
import Derived.Test.YteoncmfiiknfbaaDoorUAll
namespace Go.Proofs.YteoncmfiiknfbaaDoor
open Go.RowKit
inductive GrVs (w : World) : List (List Nd) → List Value → Prop
  | nil : GrVs w [] []
  | cons {A : Option Addr} {g : List Nd} {c : Nat} {gs : List (List Nd)} {vs : List Value} (h : NodesIn w A g) (k : GrVs w gs vs) : GrVs w (g :: gs) (.slice A g.length c :: vs)
theorem GrVs.get {w : World} : ∀ {gs : List (List Nd)} {vs : List Value}, GrVs w gs vs → ∀ k (hk : k < gs.length), ∃ A c, vs[k]? = some (.slice A (gs[k]).length c) ∧ NodesIn w A gs[k]
  | _, _, .cons h _, 0, _ => ⟨_, _, rfl, h⟩
  | _, _, .cons _ r, k + 1, hk => by
    obtain ⟨A, c, h1, h2⟩ := r.get k (by simpa using hk)
    exact ⟨A, c, by simpa using h1, h2⟩
theorem fn10_UOrd : callable Tryd.prog 10 = true := by kernel_rfl
theorem fn11_UOrd : callable Tryd.prog 11 = true := by kernel_rfl
theorem fn13_UOrd : callable Tryd.prog 13 = true := by kernel_rfl
theorem fn14_UOrd : callable Tryd.prog 14 = true := by kernel_rfl
theorem fn16_UOrd : callable Tryd.prog 16 = true := by kernel_rfl
end Go.Proofs.YteoncmfiiknfbaaDoor
namespace Go.Proofs.YteoncmfiiknfbaaDoor
open Go.RowKit
section least
variable {l : List Ty} {fs : List Ft} {ga gb X : List Nd} {ok : Bool} {f : Fl}
theorem uni_bounds (ha : (graphF l fs ga).1 = 0) (hb : (graphF l fs gb).1 = 0) (h : UnifyS l fs ga gb ok f X) (hok : ok = true) : subB l fs ga X = true ∧ subB l fs gb X = true ∧ (graphF l fs X).1 = 0 := by
  subst hok
  have hva := gv_of ha
  have hvb := gv_of hb
  rcases h with ⟨_, h, _⟩ | ⟨_, h, _⟩ | ⟨_, h, _⟩ | ⟨_, _, _, h1, h2⟩
  · cases h
  · cases h
  · cases h
  · have hX0 : (graphF l fs X).1 = 0 := by rw [uni_valid hva hvb h1 h2]
    have hl := uni_lub hva.gx hvb.gx h1
    exact ⟨(subB_iff ha hX0).2 hl.left, (subB_iff hb hX0).2 hl.right, hX0⟩
end least
end Go.Proofs.YteoncmfiiknfbaaDoor
