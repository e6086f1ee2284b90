/- What these functions of the program compute, at every world: glosswright/glosswrightlaw3.apart. -/
import Derived.Test.YteoncmfiiknfbaaDoorGRFrom
import Derived.Test.YteoncmfiiknfbaaDoorGLaw
namespace Go.Proofs.YteoncmfiiknfbaaDoor
open Go.RowKit

theorem links_of_blk {w : World} {b t : Nat} {cs : Array Value} (xs : List (Int × Int)) (h : Blk w b t cs) (he : cs = (lnV xs).toArray) (hl : xs.length ≤ maxI) : LinksIn w (some ⟨b, 0, none⟩) xs := by
  subst he
  refine ⟨hl, fun _ => ⟨b, 0, rfl, h.lt, fun k hk j v hj => ?_⟩⟩
  have h2 := lnV_get xs k hk
  match j, hj with
  | 0, hj => cases hj; exact h.cell (by simpa using h2.1)
  | 1, hj => cases hj; exact h.cell (by simpa using h2.2)
  | _ + 2, hj => cases hj
theorem links_nil (w : World) (A : Option Addr) : LinksIn w A [] := ⟨Nat.zero_le _, fun h => absurd rfl h⟩
inductive NdVs (w : World) : List Nd → List Value → Prop
  | nil : NdVs w [] []
  | cons {x : Nd} {l : List Nd} {vs : List Value} {A : Option Addr} {c : Nat} (h : LinksIn w A x.ln) (r : NdVs w l vs) : NdVs w (x :: l) (.int .i64 x.ty :: .slice A x.ln.length c :: vs)
theorem NdVs.get {w : World} {l : List Nd} {vs : List Value} (h : NdVs w l vs) : ∀ k (hk : k < l.length), ∃ A c, vs[k * 2]? = some (.int .i64 (l[k]).ty) ∧ vs[k * 2 + 1]? = some (.slice A (l[k]).ln.length c) ∧ LinksIn w A (l[k]).ln := by
  induction h with
  | nil => intro k hk; simp at hk
  | cons h r ih =>
    intro k hk
    match k, hk with
    | 0, _ => exact ⟨_, _, rfl, rfl, h⟩
    | k + 1, hk =>
      obtain ⟨A, c, h1, h2, h3⟩ := ih k (by simpa using hk)
      refine ⟨A, c, ?_, ?_, h3⟩
      · rw [show (k + 1) * 2 = k * 2 + 1 + 1 from by omega]; simpa using h1
      · rw [show (k + 1) * 2 + 1 = k * 2 + 1 + 1 + 1 from by omega]; simpa using h2
theorem nodes_of_blk {w : World} {b t : Nat} {l : List Nd} {vs : List Value} (h : Blk w b t vs.toArray) (hv : NdVs w l vs) (hl : l.length ≤ maxI) : NodesIn w (some ⟨b, 0, none⟩) l :=
  ⟨hl, fun _ => ⟨b, 0, rfl, h.lt, fun k hk => by
    obtain ⟨A, c, h1, h2, h3⟩ := hv.get k hk
    refine ⟨A, c, fun j v hj => ?_, h3⟩
    match j, hj with
    | 0, hj => cases hj; exact h.cell (by simpa using h1)
    | 1, hj => cases hj; exact h.cell (by simpa using h2)
    | _ + 2, hj => cases hj⟩⟩
/-- the order of the traversal, the canonical form -/
noncomputable def ordI (g : List Nd) : List Nat := @Classical.epsilon (List Nat) ⟨[]⟩ (fun o => DL g [0] [] o)
theorem ord_is {g : List Nd} {o : List Nat} (h : DL g [0] [] o) : ordI g = o := (@Classical.epsilon_spec (List Nat) (fun o => DL g [0] [] o) ⟨o, h⟩).det h
noncomputable def canF (l : List Ty) (fs : List Ft) (g : List Nd) : List Nd := if (graphF l fs g).1 = 0 then canG g (ordI g) else []
theorem canF_ok {l : List Ty} {fs : List Ft} {g : List Nd} {o : List Nat} (h : (graphF l fs g).1 = 0) (hd : DL g [0] [] o) : canF l fs g = canG g o := by unfold canF; rw [if_pos h, ord_is hd]
theorem same_any (A B : Option Addr) (n m c d : Nat) (ga gb : List Nd) (w : World) (hA : NodesIn w A ga) (hBn : NodesIn w B gb) (ha : ga.length = n) (hb : gb.length = m) (he : ga = gb) : Calls Tryd.prog 13 #[.agg #[.slice A n c], .agg #[.slice B m d]] w fun e w' => e = .returned (.bool true) ∧ Bel w w' := by
  subst ha hb
  have h := nodes_any A B c d ga gb w hA hBn
  rw [decide_eq_true he] at h
  exact h
theorem rcan_any (G : Option Addr) (n cg : Nat) (l : List Ty) (fs : List Ft) (gr : List Nd) (w : World) (hG : NodesIn w G gr) (hn : gr.length = n) (h0 : (graphF l fs gr).1 = 0) : Calls Tryd.prog 19 #[.agg #[.slice G n cg]] w fun e w' => (∃ A c, e = .returned (.agg #[.slice A (canF l fs gr).length c]) ∧ (∀ w2, FrSame w.heap.size w' w2 → NodesIn w2 A (canF l fs gr))) ∧ Bel w w' := by
  subst hn
  have hgv := gv_of h0
  refine (rcanon_any G cg l.length fs.length gr w hG hgv.gok (by have := hgv.few; omega)).mono fun e w' h => ?_
  obtain ⟨⟨o, A, c, hD, he, hN⟩, hs⟩ := h
  refine ⟨⟨A, c, ?_, ?_⟩, hs⟩
  · rw [he, canF_ok h0 hD, canG_len]
  · rw [canF_ok h0 hD]; exact hN
end Go.Proofs.YteoncmfiiknfbaaDoor
