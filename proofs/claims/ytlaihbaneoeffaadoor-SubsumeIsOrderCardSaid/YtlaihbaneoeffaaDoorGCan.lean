/- What these functions of the program compute, at every world: glosswright/glosswrightlaw3.apart. -/
import Derived.Test.YtlaihbaneoeffaaDoorGRFrom
import Derived.Test.YtlaihbaneoeffaaDoorGLaw
namespace Go.Proofs.YtlaihbaneoeffaaDoor
open Go.RowKit

theorem links_of_blk {w : World} {b t : Nat} {cs : Array Value} (xs : List (Int × Int)) (h : Blk w b t cs) (he : cs = (lnV xs).toArray) (hl : xs.length ≤ maxI) : LinksIn w (some ⟨b, 0, none⟩) xs := by
  subst he
  refine ⟨hl, fun _ => ⟨b, 0, rfl, h.lt, fun k hk j v hj => ?_⟩⟩
  have h2 := lnV_get xs k hk
  match j, hj with
  | 0, hj => cases hj; exact h.cell (by simpa using h2.1)
  | 1, hj => cases hj; exact h.cell (by simpa using h2.2)
  | _ + 2, hj => cases hj
theorem links_nil (w : World) (A : Option Addr) : LinksIn w A [] := ⟨Nat.zero_le _, fun h => absurd rfl h⟩
inductive NdVs (w : World) : List Nd → List Value → Prop
  | nil : NdVs w [] []
  | cons {x : Nd} {l : List Nd} {vs : List Value} {A : Option Addr} {c : Nat} (h : LinksIn w A x.ln) (r : NdVs w l vs) : NdVs w (x :: l) (.int .i64 x.ty :: .slice A x.ln.length c :: vs)
theorem NdVs.get {w : World} {l : List Nd} {vs : List Value} (h : NdVs w l vs) : ∀ k (hk : k < l.length), ∃ A c, vs[k * 2]? = some (.int .i64 (l[k]).ty) ∧ vs[k * 2 + 1]? = some (.slice A (l[k]).ln.length c) ∧ LinksIn w A (l[k]).ln := by
  induction h with
  | nil => intro k hk; simp at hk
  | cons h r ih =>
    intro k hk
    match k, hk with
    | 0, _ => exact ⟨_, _, rfl, rfl, h⟩
    | k + 1, hk =>
      obtain ⟨A, c, h1, h2, h3⟩ := ih k (by simpa using hk)
      refine ⟨A, c, ?_, ?_, h3⟩
      · rw [show (k + 1) * 2 = k * 2 + 1 + 1 from by omega]; simpa using h1
      · rw [show (k + 1) * 2 + 1 = k * 2 + 1 + 1 + 1 from by omega]; simpa using h2
theorem nodes_of_blk {w : World} {b t : Nat} {l : List Nd} {vs : List Value} (h : Blk w b t vs.toArray) (hv : NdVs w l vs) (hl : l.length ≤ maxI) : NodesIn w (some ⟨b, 0, none⟩) l :=
  ⟨hl, fun _ => ⟨b, 0, rfl, h.lt, fun k hk => by
    obtain ⟨A, c, h1, h2, h3⟩ := hv.get k hk
    refine ⟨A, c, fun j v hj => ?_, h3⟩
    match j, hj with
    | 0, hj => cases hj; exact h.cell (by simpa using h1)
    | 1, hj => cases hj; exact h.cell (by simpa using h2)
    | _ + 2, hj => cases hj⟩⟩
/-- the order of the traversal, the canonical form -/
noncomputable def ordI (g : List Nd) : List Nat := @Classical.epsilon (List Nat) ⟨[]⟩ (fun o => DL g [0] [] o)
theorem ord_is {g : List Nd} {o : List Nat} (h : DL g [0] [] o) : ordI g = o := (@Classical.epsilon_spec (List Nat) (fun o => DL g [0] [] o) ⟨o, h⟩).det h
noncomputable def canF (l : List Ty) (fs : List Ft) (g : List Nd) : List Nd := if (graphF l fs g).1 = 0 then canG g (ordI g) else []
theorem canF_ok {l : List Ty} {fs : List Ft} {g : List Nd} {o : List Nat} (h : (graphF l fs g).1 = 0) (hd : DL g [0] [] o) : canF l fs g = canG g o := by unfold canF; rw [if_pos h, ord_is hd]
theorem canF_no {l : List Ty} {fs : List Ft} {g : List Nd} (h : ¬ (graphF l fs g).1 = 0) : canF l fs g = [] := by unfold canF; rw [if_neg h]
theorem gf_zz {l : List Ty} {fs : List Ft} {g : List Nd} (h : (graphF l fs g).1 = 0) : graphF l fs g = (0, 0) := by
  have hg := gv_of h
  rw [gf_in hg.h, wi_zero hg.lo hg.t hg.u]
theorem same_any (A B : Option Addr) (n m c d : Nat) (ga gb : List Nd) (w : World) (hA : NodesIn w A ga) (hBn : NodesIn w B gb) (ha : ga.length = n) (hb : gb.length = m) (he : ga = gb) : Calls Tryd.prog 13 #[.agg #[.slice A n c], .agg #[.slice B m d]] w fun e w' => e = .returned (.bool true) ∧ Bel w w' := by
  subst ha hb
  have h := nodes_any A B c d ga gb w hA hBn
  rw [decide_eq_true he] at h
  exact h
def apartG : List Nd := [⟨1, [(0, 2), (1, 1)]⟩, ⟨2, []⟩, ⟨0, []⟩]
def wantG : List Nd := [⟨1, [(0, 1), (1, 2)]⟩, ⟨0, []⟩, ⟨2, []⟩]
theorem apart_dl : DL apartG [0] [] [0, 2, 1] :=
  .new (by decide) (.new (is := [1]) (i := 2) (o1 := [0, 2]) (by decide) .nil (.new (i := 1) (o1 := [0, 2, 1]) (by decide) .nil .nil)) .nil
theorem apart_ok : (graphF pairT pairF apartG).1 = 0 := by
  have h0 : Rch apartG 0 := .zero
  have hu : (-1 : Int) = unrI apartG := unr_is (.inl ⟨rfl, fun i hi => by
    have hi3 : i < 3 := hi
    match i, hi3 with
    | 0, _ => exact h0
    | 1, _ => exact Rch.step (x := (1, 1)) h0 (by decide) (by decide)
    | 2, _ => exact Rch.step (x := (0, 2)) h0 (by decide) (by decide)⟩)
  rw [gf_in (by rw [pair_fault]), wi_zero (by decide +kernel) (by decide +kernel) (by omega)]
theorem apart_can : canF pairT pairF apartG = wantG := by
  rw [canF_ok apart_ok apart_dl]; decide +kernel
theorem rcan_any (G : Option Addr) (n cg : Nat) (l : List Ty) (fs : List Ft) (gr : List Nd) (w : World) (hG : NodesIn w G gr) (hn : gr.length = n) (h0 : (graphF l fs gr).1 = 0) : Calls Tryd.prog 23 #[.agg #[.slice G n cg]] w fun e w' => (∃ A c, e = .returned (.agg #[.slice A (canF l fs gr).length c]) ∧ (∀ w2, FrSame w.heap.size w' w2 → NodesIn w2 A (canF l fs gr))) ∧ Bel w w' := by
  subst hn
  have hgv := gv_of h0
  refine (rcanon_any G cg l.length fs.length gr w hG hgv.gok (by have := hgv.few; omega)).mono fun e w' h => ?_
  obtain ⟨⟨o, A, c, hD, he, hN⟩, hs⟩ := h
  refine ⟨⟨A, c, ?_, ?_⟩, hs⟩
  · rw [he, canF_ok h0 hD, canG_len]
  · rw [canF_ok h0 hD]; exact hN
theorem canF_idem {l : List Ty} {fs : List Ft} {g : List Nd} {o : List Nat} (h0 : (graphF l fs g).1 = 0) (hD : DL g [0] [] o) (he : canF l fs g = canG g o) : (graphF l fs (canF l fs g)).1 = 0 ∧ ((∃ o2, DL (canF l fs g) [0] [] o2 ∧ canF l fs (canF l fs g) = canG (canF l fs g) o2) → canF l fs (canF l fs g) = canF l fs g) := by
  have hgv := gv_of h0
  have tr := tr_of hgv.gok hD
  have hv : (graphF l fs (canF l fs g)).1 = 0 := by rw [he]; exact canon_valid hgv tr
  refine ⟨hv, fun ⟨o2, h2, e2⟩ => ?_⟩
  rw [e2]
  rw [he] at h2 ⊢
  exact canon_self tr h2


theorem apart_any (w : World) : Calls Tryd.prog 15 #[] w fun e w' => (∃ A, e = .returned (.agg #[.slice A 3 3]) ∧ NodesIn w' A apartG) ∧ Bel w w' := by
 refine enter Tryd.func15 Tryd.ntmps15 rfl (Nat.le_of_ble_eq_true rfl) ?_
 have hB : Bel w w := Below.refl _ _
 refine c_seq ?_
 refine c_region ?_
 refine wl_al (cs := #[.slice none 0 0]) ze28 rfl (fun b0 w1 hb0 hs hr => ?_)
 have lo0 := Nat.le_trans (Bel.size hB) hr
 replace hB := hB.tr0 hs
 clear hs
 clear hr
 refine x_nil ?_
 refine e_S ?_
 refine c_seq ?_
 refine c_region ?_
 refine wl (r_bd2 (v0 := .int _ _) (v1 := .int _ _) (fun v0 v1 => #[v0, v1]) rfl rfl (by kernel_rfl)) ?_
 refine wl (r_bd2 (v0 := .int _ _) (v1 := .int _ _) (fun v0 v1 => #[v0, v1]) rfl rfl (by kernel_rfl)) ?_
 refine wl_bs (cs := #[_, _, _, _]) [(0, .agg _), (1, .agg _)] rfl Tryd.underlying31 sz30 ze30 (by decide) (by decide) (by kernel_rfl) rfl (fun b3 w2 hb3 hs hr => ?_)
 have or_b0_b3 : b0 < b3 := Nat.lt_of_lt_of_le hb0.lt hr
 have lo3 := Nat.le_trans (Bel.size hB) hr
 replace hB := hB.tr0 hs
 replace hb0 := hb0.tr0 hs
 clear hs
 clear hr
 refine wl (r_bd2 (v0 := .int _ _) (v1 := .slice _ _ _) (fun v0 v1 => #[v0, v1]) rfl rfl (by kernel_rfl)) ?_
 refine wl (r_bd1 (v0 := .int _ _) (fun v0 => #[v0, .slice none 0 0]) rfl (by kernel_rfl)) ?_
 refine wl (r_bd (vs := #[]) (cs := #[.int .i64 0, .slice none 0 0]) (by simp) (by kernel_rfl)) ?_
 refine wl_bs (cs := #[_, _, _, _, _, _]) [(0, .agg _), (1, .agg _), (2, .agg _)] rfl Tryd.underlying26 sz33 ze33 (by decide) (by decide) (by kernel_rfl) rfl (fun b7 w3 hb7 hs hr => ?_)
 have or_b0_b7 : b0 < b7 := Nat.lt_of_lt_of_le hb0.lt hr
 have or_b3_b7 : b3 < b7 := Nat.lt_of_lt_of_le hb3.lt hr
 have lo7 := Nat.le_trans (Bel.size hB) hr
 replace hB := hB.tr0 hs
 replace hb0 := hb0.tr0 hs
 replace hb3 := hb3.tr0 hs
 clear hs
 clear hr
 refine wl (r_bd1 (v0 := .slice _ _ _) (fun v0 => #[v0]) rfl (by kernel_rfl)) ?_
 refine wl_stW hb0 rfl rfl sz28 rfl (by repeat (first | rfl | refine one_cons (by first | rfl | assumption) ?_)) (fun w4 hq hs => ?_)
 replace hB := hB.tr1 hs lo0
 replace hb3 := hb3.tr1 hs (by omega)
 replace hb7 := hb7.tr1 hs (by omega)
 clear hs
 replace hb0 := hq
 refine x_nil ?_
 refine e_S ?_
 refine c_ret ?_
 refine fin1 (.inl rfl) rfl (rr_cell Tryd.underlying28 rfl rfl hb0.range0 sz28) ?_
 exact ⟨⟨_, rfl, nodes_of_blk (l := apartG) hb7 (.cons (links_of_blk [(0, 2), (1, 1)] hb3 rfl (by decide)) (.cons (links_nil _ _) (.cons (links_nil _ _) .nil))) (by decide)⟩, hB⟩
end Go.Proofs.YtlaihbaneoeffaaDoor
