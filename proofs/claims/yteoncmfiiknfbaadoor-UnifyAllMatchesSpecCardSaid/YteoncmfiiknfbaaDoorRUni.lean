/- What these functions of the program compute, at every world: glosswright/glosswrightlaw3.shared. Unifying in any order: what All and Unify tell, compared. No program in sight. What these functions of the program compute, at every world: glosswright/glosswrightlaw3.UnifyInAnyOrder. What these functions of the program compute, at every world: glosswright/glosswrightref3.Unified. -/
import Derived.Test.YteoncmfiiknfbaaDoorU
import Derived.Test.YteoncmfiiknfbaaDoorPool
import Derived.Test.YteoncmfiiknfbaaDoorOrd
import Derived.Test.YteoncmfiiknfbaaDoorTurn
import Derived.Test.YteoncmfiiknfbaaDoorEng3
import Derived.Test.YteoncmfiiknfbaaDoorUAll
import Derived.Test.YteoncmfiiknfbaaDoorRJoin
namespace Go.Proofs.YteoncmfiiknfbaaDoor
open Go.RowKit
def sharedG : List Nd := [⟨1, [(0, 1), (1, 1)]⟩, ⟨2, []⟩]
theorem shared_ok : (graphF pairT pairF sharedG).1 = 0 := by
  have h0 : Rch sharedG 0 := .zero
  have hu : (-1 : Int) = unrI sharedG := unr_is (.inl ⟨rfl, fun i hi => by
    have hi3 : i < 2 := hi
    match i, hi3 with
    | 0, _ => exact h0
    | 1, _ => exact Rch.step (x := (0, 1)) h0 dE dE⟩)
  rw [gf_in (by rw [pair_fault]), wi_zero (by decide +kernel) (by decide +kernel) om]
theorem shared_any (w : World) : Calls Tryd.prog 11 #[] w fun e w' => (∃ A, e = .returned (.agg #[.slice A 2 2]) ∧ NodesIn w' A sharedG) ∧ Bel w w' := by
 refine enter Tryd.func11 Tryd.ntmps11 rfl (Nat.le_of_ble_eq_true rfl) ?_
 have hB : Bel w w := Below.refl _ _
 refine c_seq (c_region ?_)
 refine wl_al (cs := #[.slice none 0 0]) ze28_GTgt rfl (fun b0 w1 hb0 hs hr => ?_)
 have lo0 := lT (Bel.size hB) hr
 replace hB := hB.tr0 hs
 clear hs
 clear hr
 refine x_nil (e_S (c_seq (c_region (wl (r_bd2 (v0 := .int _ _) (v1 := .int _ _) (fun v0 v1 => #[v0, v1]) rfl rfl kR) (wl (r_bd2 (v0 := .int _ _) (v1 := .int _ _) (fun v0 v1 => #[v0, v1]) rfl rfl kR) ?_)))))
 refine wl_bs (cs := #[_, _, _, _]) [(0, .agg _), (1, .agg _)] rfl U53 sz74_GSearch ze74 dE dE kR rfl (fun b3 w2 hb3 hs hr => ?_)
 have or_b0_b3 : b0 < b3 := lL hb0.lt hr
 have lo3 := lT (Bel.size hB) hr
 replace hB := hB.tr0 hs
 replace hb0 := hb0.tr0 hs
 clear hs
 clear hr
 refine wl (r_bd2 (v0 := .int _ _) (v1 := .slice _ _ _) (fun v0 v1 => #[v0, v1]) rfl rfl kR) (wl (r_bd1 (v0 := .int _ _) (fun v0 => #[v0, .slice none 0 0]) rfl kR) ?_)
 refine wl_bs (cs := #[_, _, _, _]) [(0, .agg _), (1, .agg _)] rfl U26 sz55 ze55 dE dE kR rfl (fun b6 w3 hb6 hs hr => ?_)
 have or_b0_b6 : b0 < b6 := lL hb0.lt hr
 have or_b3_b6 : b3 < b6 := lL hb3.lt hr
 have lo6 := lT (Bel.size hB) hr
 replace hB := hB.tr0 hs
 replace hb0 := hb0.tr0 hs
 replace hb3 := hb3.tr0 hs
 clear hs
 clear hr
 refine wl (r_bd1 (v0 := .slice _ _ _) (fun v0 => #[v0]) rfl kR) ?_
 refine wl_stW hb0 rfl rfl sz28_GTgt rfl oneA (fun w4 hq hs => ?_)
 replace hB := hB.tr1 hs lo0
 replace hb3 := hb3.tr1 hs om
 replace hb6 := hb6.tr1 hs om
 clear hs
 replace hb0 := hq
 refine x_nil (e_S (c_ret (fin1 (.inl rfl) rfl (rr_cell U28 rfl rfl hb0.range0 sz28_GTgt) ?_)))
 exact ⟨⟨_, rfl, nodes_of_blk (l := sharedG) hb6 (.cons (links_of_blk [(0, 1), (1, 1)] hb3 rfl dE) (.cons (links_nil _ _) .nil)) dE⟩, hB⟩
end Go.Proofs.YteoncmfiiknfbaaDoor
namespace Go.Proofs.YteoncmfiiknfbaaDoor
open Go.RowKit
section many
variable {l : List Ty} {fs : List Ft}
def Sup (gs hs : List (List Nd)) : Prop := ∀ i (hi : i < gs.length), ∃ j, ∃ hj : j < hs.length, gs[i] = hs[j]
theorem Sup.of {gs hs : List (List Nd)} (h : ∀ g ∈ gs, g ∈ hs) : Sup gs hs := fun i hi => by
  obtain ⟨j, hj, e⟩ := List.getElem_of_mem (h _ (List.getElem_mem hi))
  exact ⟨j, hj, e.symm⟩
def AMaps (l : List Ty) (gs : List (List Nd)) (c : List Nd) : Prop := ∀ i (hi : i < gs.length), Maps l gs[i] c
theorem AMaps.sup {gs hs : List (List Nd)} {c : List Nd} (h : AMaps l hs c) (s : Sup gs hs) : AMaps l gs c := fun i hi => by
  obtain ⟨j, hj, e⟩ := s i hi
  rw [e]; exact h j hj
theorem all_zero {gs : List (List Nd)} (h : (hierFault l fs).1 = 0) (hn : gs.length ≤ 300) (hv : ∀ g ∈ gs, (graphF l fs g).1 = 0) : (allF l fs gs).1 = 0 := by
  unfold allF
  rw [if_neg (fun k => k h), if_neg om, witF_no (fun i hi => by
    have := hv _ (List.getElem_mem hi)
    rw [gf_in h] at this; exact this)]
end many
end Go.Proofs.YteoncmfiiknfbaaDoor
namespace Go.Proofs.YteoncmfiiknfbaaDoor
open Go.RowKit
inductive GrVs (w : World) : List (List Nd) → List Value → Prop
  | nil : GrVs w [] []
  | cons {A : Option Addr} {g : List Nd} {c : Nat} {gs : List (List Nd)} {vs : List Value} (h : NodesIn w A g) (k : GrVs w gs vs) : GrVs w (g :: gs) (.slice A g.length c :: vs)
theorem GrVs.get {w : World} : ∀ {gs : List (List Nd)} {vs : List Value}, GrVs w gs vs → ∀ k (hk : k < gs.length), ∃ A c, vs[k]? = some (.slice A (gs[k]).length c) ∧ NodesIn w A gs[k]
  | _, _, .cons h _, 0, _ => ⟨_, _, rfl, h⟩
  | _, _, .cons _ r, k + 1, hk => by
    obtain ⟨A, c, h1, h2⟩ := r.get k (by simpa using hk)
    exact ⟨A, c, by simpa using h1, h2⟩
theorem grs_of_blk {w : World} {b t : Nat} {gs : List (List Nd)} {vs : List Value} (h : Blk w b t vs.toArray) (hv : GrVs w gs vs) (hl : gs.length ≤ maxI) : GrsIn w (some ⟨b, 0, none⟩) gs :=
  ⟨hl, fun _ => ⟨b, 0, rfl, h.lt, fun k hk => by
    obtain ⟨A, c, h1, h2⟩ := hv.get k hk
    refine ⟨A, c, fun j v hj => ?_, h2⟩
    match j, hj with
    | 0, hj => cases hj; exact h.cell (by simpa using h1)
    | _ + 1, hj => cases hj⟩⟩
theorem fd30 : (Tryd.prog.fieldsOf 30).toList.map (fun f => (f.name == "_", f.type, f.offset)) = [(false, 3, 0), (false, 3, 1)] := by kernel_rfl
theorem fn10_UOrd : callable Tryd.prog 10 = true := by kernel_rfl
theorem fn11_UOrd : callable Tryd.prog 11 = true := by kernel_rfl
theorem fn12 : callable Tryd.prog 12 = true := by kernel_rfl
theorem fn13_UOrd : callable Tryd.prog 13 = true := by kernel_rfl
theorem fn9 : callable Tryd.prog 9 = true := by kernel_rfl
theorem ft30 : Tryd.prog.underlying 30 = some (.struct (Tryd.prog.fieldsOf 30)) := by kernel_rfl
end Go.Proofs.YteoncmfiiknfbaaDoor
namespace Go.Proofs.YteoncmfiiknfbaaDoor
open Go.RowKit
def single3 : List Nd := [⟨3, []⟩]
theorem single3_ok : (graphF pairT pairF single3).1 = 0 := by
  have h0 : Rch single3 0 := .zero
  have hu : (-1 : Int) = unrI single3 := unr_is (.inl ⟨rfl, fun i hi => by
    have hi3 : i < 1 := hi
    match i, hi3 with
    | 0, _ => exact h0⟩)
  rw [gf_in (by rw [pair_fault]), wi_zero (by decide +kernel) (by decide +kernel) om]
theorem fn22 : callable Tryd.prog 22 = true := by kernel_rfl
end Go.Proofs.YteoncmfiiknfbaaDoor
