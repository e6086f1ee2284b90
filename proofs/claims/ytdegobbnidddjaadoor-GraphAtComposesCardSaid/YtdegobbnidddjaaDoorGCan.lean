/- What these functions of the program compute, at every world: glosswright/glosswrightlaw3.apart, glosswright/glosswrightlaw3.GraphCanonicalMatchesSpec. -/
import Derived.Test.YtdegobbnidddjaaDoorGRFrom
import Derived.Test.YtdegobbnidddjaaDoorGLaw
namespace Go.Proofs.YtdegobbnidddjaaDoor
open Go.RowKit

theorem links_of_blk {w : World} {b t : Nat} {cs : Array Value} (xs : List (Int × Int)) (h : Blk w b t cs) (he : cs = (lnV xs).toArray) (hl : xs.length ≤ maxI) : LinksIn w (some ⟨b, 0, none⟩) xs := by
  subst he
  refine ⟨hl, fun _ => ⟨b, 0, rfl, h.lt, fun k hk j v hj => ?_⟩⟩
  have h2 := lnV_get xs k hk
  match j, hj with
  | 0, hj => cases hj; exact h.cell (by simpa using h2.1)
  | 1, hj => cases hj; exact h.cell (by simpa using h2.2)
  | _ + 2, hj => cases hj
theorem links_nil (w : World) (A : Option Addr) : LinksIn w A [] := ⟨Nat.zero_le _, fun h => absurd rfl h⟩
inductive NdVs (w : World) : List Nd → List Value → Prop
  | nil : NdVs w [] []
  | cons {x : Nd} {l : List Nd} {vs : List Value} {A : Option Addr} {c : Nat} (h : LinksIn w A x.ln) (r : NdVs w l vs) : NdVs w (x :: l) (.int .i64 x.ty :: .slice A x.ln.length c :: vs)
theorem NdVs.get {w : World} {l : List Nd} {vs : List Value} (h : NdVs w l vs) : ∀ k (hk : k < l.length), ∃ A c, vs[k * 2]? = some (.int .i64 (l[k]).ty) ∧ vs[k * 2 + 1]? = some (.slice A (l[k]).ln.length c) ∧ LinksIn w A (l[k]).ln := by
  induction h with
  | nil => intro k hk; simp at hk
  | cons h r ih =>
    intro k hk
    match k, hk with
    | 0, _ => exact ⟨_, _, rfl, rfl, h⟩
    | k + 1, hk =>
      obtain ⟨A, c, h1, h2, h3⟩ := ih k (by simpa using hk)
      refine ⟨A, c, ?_, ?_, h3⟩
      · rw [show (k + 1) * 2 = k * 2 + 1 + 1 from by omega]; simpa using h1
      · rw [show (k + 1) * 2 + 1 = k * 2 + 1 + 1 + 1 from by omega]; simpa using h2
theorem nodes_of_blk {w : World} {b t : Nat} {l : List Nd} {vs : List Value} (h : Blk w b t vs.toArray) (hv : NdVs w l vs) (hl : l.length ≤ maxI) : NodesIn w (some ⟨b, 0, none⟩) l :=
  ⟨hl, fun _ => ⟨b, 0, rfl, h.lt, fun k hk => by
    obtain ⟨A, c, h1, h2, h3⟩ := hv.get k hk
    refine ⟨A, c, fun j v hj => ?_, h3⟩
    match j, hj with
    | 0, hj => cases hj; exact h.cell (by simpa using h1)
    | 1, hj => cases hj; exact h.cell (by simpa using h2)
    | _ + 2, hj => cases hj⟩⟩
/-- the order of the traversal, the canonical form -/
noncomputable def ordI (g : List Nd) : List Nat := @Classical.epsilon (List Nat) ⟨[]⟩ (fun o => DL g [0] [] o)
theorem ord_is {g : List Nd} {o : List Nat} (h : DL g [0] [] o) : ordI g = o := (@Classical.epsilon_spec (List Nat) (fun o => DL g [0] [] o) ⟨o, h⟩).det h
noncomputable def canF (l : List Ty) (fs : List Ft) (g : List Nd) : List Nd := if (graphF l fs g).1 = 0 then canG g (ordI g) else []
theorem canF_ok {l : List Ty} {fs : List Ft} {g : List Nd} {o : List Nat} (h : (graphF l fs g).1 = 0) (hd : DL g [0] [] o) : canF l fs g = canG g o := by unfold canF; rw [if_pos h, ord_is hd]
theorem canF_no {l : List Ty} {fs : List Ft} {g : List Nd} (h : ¬ (graphF l fs g).1 = 0) : canF l fs g = [] := by unfold canF; rw [if_neg h]
theorem gf_zz {l : List Ty} {fs : List Ft} {g : List Nd} (h : (graphF l fs g).1 = 0) : graphF l fs g = (0, 0) := by
  have hg := gv_of h
  rw [gf_in hg.h, wi_zero hg.lo hg.t hg.u]
theorem can_any (A B G : Option Addr) (c d cg : Nat) (l : List Ty) (fs : List Ft) (gr : List Nd) (w : World) (hTab : TabIn w) (hT : TypesIn w A l) (hF : FeatsIn w B fs) (hG : NodesIn w G gr) : Calls Tryd.prog 12 #[.agg #[.slice A l.length c, .slice B fs.length d], .agg #[.slice G gr.length cg]] w fun e w' => (∃ A', e = .returned (.tuple #[.agg #[.slice A' (canF l fs gr).length (canF l fs gr).length], .agg #[.int .i64 (graphF l fs gr).1, .int .i64 (graphF l fs gr).2]]) ∧ (∀ w2, FrSame w.heap.size w' w2 → NodesIn w2 A' (canF l fs gr)) ∧ ((graphF l fs gr).1 = 0 → ∃ o, DL gr [0] [] o ∧ canF l fs gr = canG gr o)) ∧ Bel w w' := by
  refine (canonical_any A B G c d cg l fs gr w hTab hT hF hG).mono fun e w' h => ?_
  obtain ⟨h, hs⟩ := h
  refine ⟨?_, hs⟩
  rcases h with ⟨h0, he⟩ | ⟨h0, o, A', hD, _, he, hN⟩
  · refine ⟨none, ?_, ?_, fun h => absurd h h0⟩
    · rw [he, canF_no h0]; rfl
    · rw [canF_no h0]; exact fun w2 _ => nodes_nil w2 none
  · refine ⟨A', ?_, ?_, fun _ => ⟨o, hD, canF_ok h0 hD⟩⟩
    · rw [he, canF_ok h0 hD, gf_zz h0, canG_len]
    · rw [canF_ok h0 hD]; exact hN
theorem same_any (A B : Option Addr) (n m c d : Nat) (ga gb : List Nd) (w : World) (hA : NodesIn w A ga) (hBn : NodesIn w B gb) (ha : ga.length = n) (hb : gb.length = m) (he : ga = gb) : Calls Tryd.prog 15 #[.agg #[.slice A n c], .agg #[.slice B m d]] w fun e w' => e = .returned (.bool true) ∧ Bel w w' := by
  subst ha hb
  have h := nodes_any A B c d ga gb w hA hBn
  rw [decide_eq_true he] at h
  exact h
def apartG : List Nd := [⟨1, [(0, 2), (1, 1)]⟩, ⟨2, []⟩, ⟨0, []⟩]
def wantG : List Nd := [⟨1, [(0, 1), (1, 2)]⟩, ⟨0, []⟩, ⟨2, []⟩]
theorem apart_dl : DL apartG [0] [] [0, 2, 1] :=
  .new (by decide) (.new (is := [1]) (i := 2) (o1 := [0, 2]) (by decide) .nil (.new (i := 1) (o1 := [0, 2, 1]) (by decide) .nil .nil)) .nil
theorem apart_ok : (graphF pairT pairF apartG).1 = 0 := by
  have h0 : Rch apartG 0 := .zero
  have hu : (-1 : Int) = unrI apartG := unr_is (.inl ⟨rfl, fun i hi => by
    have hi3 : i < 3 := hi
    match i, hi3 with
    | 0, _ => exact h0
    | 1, _ => exact Rch.step (x := (1, 1)) h0 (by decide) (by decide)
    | 2, _ => exact Rch.step (x := (0, 2)) h0 (by decide) (by decide)⟩)
  rw [gf_in (by rw [pair_fault]), wi_zero (by decide +kernel) (by decide +kernel) (by omega)]
theorem apart_can : canF pairT pairF apartG = wantG := by
  rw [canF_ok apart_ok apart_dl]; decide +kernel
theorem canap_any {w : World} {A B G : Option Addr} (hTab : TabIn w) (hT : TypesIn w A pairT) (hF : FeatsIn w B pairF) (hG : NodesIn w G apartG) : Calls Tryd.prog 12 #[.agg #[.slice A 4 4, .slice B 2 2], .agg #[.slice G 3 3]] w fun e w' => (∃ A', e = .returned (.tuple #[.agg #[.slice A' 3 3], .agg #[.int .i64 0, .int .i64 0]]) ∧ NodesIn w' A' wantG) ∧ Bel w w' := by
  refine (can_any A B G 4 2 3 pairT pairF apartG w hTab hT hF hG).mono fun e w' h => ?_
  obtain ⟨⟨A', he, hN, _⟩, hs⟩ := h
  rw [apart_can] at hN
  rw [apart_can, gf_zz apart_ok] at he
  exact ⟨⟨A', he, hN w' (FrSame.refl _ _)⟩, hs⟩
theorem rcan_any (G : Option Addr) (n cg : Nat) (l : List Ty) (fs : List Ft) (gr : List Nd) (w : World) (hG : NodesIn w G gr) (hn : gr.length = n) (h0 : (graphF l fs gr).1 = 0) : Calls Tryd.prog 16 #[.agg #[.slice G n cg]] w fun e w' => (∃ A c, e = .returned (.agg #[.slice A (canF l fs gr).length c]) ∧ (∀ w2, FrSame w.heap.size w' w2 → NodesIn w2 A (canF l fs gr))) ∧ Bel w w' := by
  subst hn
  have hgv := gv_of h0
  refine (rcanon_any G cg l.length fs.length gr w hG hgv.gok (by have := hgv.few; omega)).mono fun e w' h => ?_
  obtain ⟨⟨o, A, c, hD, he, hN⟩, hs⟩ := h
  refine ⟨⟨A, c, ?_, ?_⟩, hs⟩
  · rw [he, canF_ok h0 hD, canG_len]
  · rw [canF_ok h0 hD]; exact hN
theorem canF_idem {l : List Ty} {fs : List Ft} {g : List Nd} {o : List Nat} (h0 : (graphF l fs g).1 = 0) (hD : DL g [0] [] o) (he : canF l fs g = canG g o) : (graphF l fs (canF l fs g)).1 = 0 ∧ ((∃ o2, DL (canF l fs g) [0] [] o2 ∧ canF l fs (canF l fs g) = canG (canF l fs g) o2) → canF l fs (canF l fs g) = canF l fs g) := by
  have hgv := gv_of h0
  have tr := tr_of hgv.gok hD
  have hv : (graphF l fs (canF l fs g)).1 = 0 := by rw [he]; exact canon_valid hgv tr
  refine ⟨hv, fun ⟨o2, h2, e2⟩ => ?_⟩
  rw [e2]
  rw [he] at h2 ⊢
  exact canon_self tr h2

theorem fn12 : callable Tryd.prog 12 = true := by kernel_rfl
theorem fn13 : callable Tryd.prog 13 = true := by kernel_rfl
theorem fn15 : callable Tryd.prog 15 = true := by kernel_rfl
theorem fn16 : callable Tryd.prog 16 = true := by kernel_rfl
theorem apart_any (w : World) : Calls Tryd.prog 13 #[] w fun e w' => (∃ A, e = .returned (.agg #[.slice A 3 3]) ∧ NodesIn w' A apartG) ∧ Bel w w' := by
  refine enter Tryd.func13 Tryd.ntmps13 rfl (Nat.le_of_ble_eq_true rfl) ?_
  have hB : Bel w w := Below.refl _ _
  refine c_seq ?_
  refine c_region ?_
  refine wl_al (cs := #[.slice none 0 0]) ze28 rfl (fun b0 w1 hb0 hs hr => ?_)
  have lo0 := Nat.le_trans (Bel.size hB) hr
  replace hB := hB.tr0 hs
  clear hs
  clear hr
  refine x_nil ?_
  refine e_S ?_
  refine c_seq ?_
  refine c_region ?_
  refine wl (r_bd2 (v0 := .int _ _) (v1 := .int _ _) (fun v0 v1 => #[v0, v1]) rfl rfl (by kernel_rfl)) ?_
  refine wl (r_bd2 (v0 := .int _ _) (v1 := .int _ _) (fun v0 v1 => #[v0, v1]) rfl rfl (by kernel_rfl)) ?_
  refine wl_bs (cs := #[_, _, _, _]) [(0, .agg _), (1, .agg _)] rfl Tryd.underlying37 sz41 ze41 (by decide) (by decide) (by kernel_rfl) rfl (fun b3 w2 hb3 hs hr => ?_)
  have or_b0_b3 : b0 < b3 := Nat.lt_of_lt_of_le hb0.lt hr
  have lo3 := Nat.le_trans (Bel.size hB) hr
  replace hB := hB.tr0 hs
  replace hb0 := hb0.tr0 hs
  clear hs
  clear hr
  refine wl (r_bd2 (v0 := .int _ _) (v1 := .slice _ _ _) (fun v0 v1 => #[v0, v1]) rfl rfl (by kernel_rfl)) ?_
  refine wl (r_bd1 (v0 := .int _ _) (fun v0 => #[v0, .slice none 0 0]) rfl (by kernel_rfl)) ?_
  refine wl (r_bd (vs := #[]) (cs := #[.int .i64 0, .slice none 0 0]) (by simp) (by kernel_rfl)) ?_
  refine wl_bs (cs := #[_, _, _, _, _, _]) [(0, .agg _), (1, .agg _), (2, .agg _)] rfl Tryd.underlying26 sz39 ze39 (by decide) (by decide) (by kernel_rfl) rfl (fun b7 w3 hb7 hs hr => ?_)
  have or_b0_b7 : b0 < b7 := Nat.lt_of_lt_of_le hb0.lt hr
  have or_b3_b7 : b3 < b7 := Nat.lt_of_lt_of_le hb3.lt hr
  have lo7 := Nat.le_trans (Bel.size hB) hr
  replace hB := hB.tr0 hs
  replace hb0 := hb0.tr0 hs
  replace hb3 := hb3.tr0 hs
  clear hs
  clear hr
  refine wl (r_bd1 (v0 := .slice _ _ _) (fun v0 => #[v0]) rfl (by kernel_rfl)) ?_
  refine wl_stW hb0 rfl rfl sz28 rfl (by repeat (first | rfl | refine one_cons (by first | rfl | assumption) ?_)) (fun w4 hq hs => ?_)
  replace hB := hB.tr1 hs lo0
  replace hb3 := hb3.tr1 hs (by omega)
  replace hb7 := hb7.tr1 hs (by omega)
  clear hs
  replace hb0 := hq
  refine x_nil ?_
  refine e_S ?_
  refine c_ret ?_
  refine fin1 (.inl rfl) rfl (rr_cell Tryd.underlying28 rfl rfl hb0.range0 sz28) ?_
  exact ⟨⟨_, rfl, nodes_of_blk (l := apartG) hb7 (.cons (links_of_blk [(0, 2), (1, 1)] hb3 rfl (by decide)) (.cons (links_nil _ _) (.cons (links_nil _ _) .nil))) (by decide)⟩, hB⟩

set_option maxHeartbeats 1000000 in
theorem law7_any (A B G : Option Addr) (c d cg : Nat) (l : List Ty) (fs : List Ft) (gr : List Nd) (w : World) (hTab : TabIn w) (hcl : l.length ≤ c) (hdl : fs.length ≤ d) (hT : TypesIn w A l) (hF : FeatsIn w B fs) (hG : NodesIn w G gr) : Calls Tryd.prog 5 #[.agg #[.slice A l.length c, .slice B fs.length d], .agg #[.slice G gr.length cg]] w fun e w' => e = .returned (.bool true) ∧ Bel w w' := by
  refine enter Tryd.func5 Tryd.ntmps5 rfl (Nat.le_of_ble_eq_true rfl) ?_
  have hB : Bel w w := Below.refl _ _
  refine c_seq ?_
  refine c_region ?_
  refine wl_bx (v := .agg #[_, _]) (cs := #[_, _]) rfl rfl (fun b2 w1 hb2 hs hr => ?_)
  have lo2 := Nat.le_trans (Bel.size hB) hr
  replace hB := hB.tr0 hs
  clear hs
  clear hr
  refine wl_bx (v := .agg #[_]) (cs := #[_]) rfl rfl (fun b3 w2 hb3 hs hr => ?_)
  have or_b2_b3 : b2 < b3 := Nat.lt_of_lt_of_le hb2.lt hr
  have lo3 := Nat.le_trans (Bel.size hB) hr
  replace hB := hB.tr0 hs
  replace hb2 := hb2.tr0 hs
  clear hs
  clear hr
  refine wl (r_as (v := .bool _) rfl) ?_
  refine x_nil ?_
  refine e_S ?_
  refine c_seq ?_
  refine c_region ?_
  refine wl (r_bd2 (v0 := .int _ _) (v1 := .int _ _) (fun v0 v1 => #[v0, v1]) rfl rfl (by kernel_rfl)) ?_
  refine wl (r_bd2 (v0 := .int _ _) (v1 := .int _ _) (fun v0 v1 => #[v0, v1]) rfl rfl (by kernel_rfl)) ?_
  refine wl_bs (cs := #[_, _, _, _]) [(0, .agg _), (1, .agg _)] rfl Tryd.underlying37 sz41 ze41 (by decide) (by decide) (by kernel_rfl) rfl (fun b15 w3 hb15 hs hr => ?_)
  have or_b2_b15 : b2 < b15 := Nat.lt_of_lt_of_le hb2.lt hr
  have or_b3_b15 : b3 < b15 := Nat.lt_of_lt_of_le hb3.lt hr
  have lo15 := Nat.le_trans (Bel.size hB) hr
  replace hB := hB.tr0 hs
  replace hb2 := hb2.tr0 hs
  replace hb3 := hb3.tr0 hs
  clear hs
  clear hr
  refine wl (r_bd2 (v0 := .int _ _) (v1 := .slice _ _ _) (fun v0 v1 => #[v0, v1]) rfl rfl (by kernel_rfl)) ?_
  refine wl (r_bd (vs := #[]) (cs := #[.int .i64 0, .slice none 0 0]) (by simp) (by kernel_rfl)) ?_
  refine wl (r_bd1 (v0 := .int _ _) (fun v0 => #[v0, .slice none 0 0]) rfl (by kernel_rfl)) ?_
  refine wl_bs (cs := #[_, _, _, _, _, _]) [(0, .agg _), (1, .agg _), (2, .agg _)] rfl Tryd.underlying26 sz39 ze39 (by decide) (by decide) (by kernel_rfl) rfl (fun b19 w4 hb19 hs hr => ?_)
  have or_b2_b19 : b2 < b19 := Nat.lt_of_lt_of_le hb2.lt hr
  have or_b3_b19 : b3 < b19 := Nat.lt_of_lt_of_le hb3.lt hr
  have or_b15_b19 : b15 < b19 := Nat.lt_of_lt_of_le hb15.lt hr
  have lo19 := Nat.le_trans (Bel.size hB) hr
  replace hB := hB.tr0 hs
  replace hb2 := hb2.tr0 hs
  replace hb3 := hb3.tr0 hs
  replace hb15 := hb15.tr0 hs
  clear hs
  clear hr
  refine wl (r_bd1 (v0 := .slice _ _ _) (fun v0 => #[v0]) rfl (by kernel_rfl)) ?_
  refine wl_al (cs := #[.slice none 0 0]) ze28 rfl (fun b5 w5 hb5 hs hr => ?_)
  have or_b2_b5 : b2 < b5 := Nat.lt_of_lt_of_le hb2.lt hr
  have or_b3_b5 : b3 < b5 := Nat.lt_of_lt_of_le hb3.lt hr
  have or_b15_b5 : b15 < b5 := Nat.lt_of_lt_of_le hb15.lt hr
  have or_b19_b5 : b19 < b5 := Nat.lt_of_lt_of_le hb19.lt hr
  have lo5 := Nat.le_trans (Bel.size hB) hr
  replace hB := hB.tr0 hs
  replace hb2 := hb2.tr0 hs
  replace hb3 := hb3.tr0 hs
  replace hb15 := hb15.tr0 hs
  replace hb19 := hb19.tr0 hs
  clear hs
  clear hr
  refine wl_stW hb5 rfl rfl sz28 rfl (by repeat (first | rfl | refine one_cons (by first | rfl | assumption) ?_)) (fun w6 hq hs => ?_)
  replace hB := hB.tr1 hs lo5
  replace hb2 := hb2.tr1 hs (by omega)
  replace hb3 := hb3.tr1 hs (by omega)
  replace hb15 := hb15.tr1 hs (by omega)
  replace hb19 := hb19.tr1 hs (by omega)
  clear hs
  replace hb5 := hq
  have hW := nodes_of_blk (l := wantG) hb19 (.cons (links_of_blk [(0, 1), (1, 2)] hb15 rfl (by decide)) (.cons (links_nil _ _) (.cons (links_nil _ _) .nil))) (by decide)
  have hB1 : Bel w6 w6 := Below.refl _ _
  refine x_nil ?_
  refine e_S ?_
  refine c_seq ?_
  refine c_seq ?_
  refine c_region ?_
  refine wl_cl fn10 (pair_any _) rfl (fun e' w7 hr => ?_)
  obtain ⟨⟨Ap, Bp, rfl, hTp, hFp⟩, hs⟩ := hr
  replace hs := Same.of_bel hs
  replace hB := hB.tr0 hs
  replace hb2 := hb2.tr0 hs
  replace hb3 := hb3.tr0 hs
  replace hb15 := hb15.tr0 hs
  replace hb19 := hb19.tr0 hs
  replace hb5 := hb5.tr0 hs
  replace hB1 := hB1.tr0 hs
  clear hs
  have hB0 : Bel w7 w7 := Below.refl _ _
  refine ⟨_, rfl, ?_⟩
  refine wl_cl fn13 (apart_any _) rfl (fun e' w8 hr => ?_)
  obtain ⟨⟨Ga, rfl, hGa⟩, hs⟩ := hr
  replace hs := Same.of_bel hs
  replace hB := hB.tr0 hs
  replace hb2 := hb2.tr0 hs
  replace hb3 := hb3.tr0 hs
  replace hb15 := hb15.tr0 hs
  replace hb19 := hb19.tr0 hs
  replace hb5 := hb5.tr0 hs
  replace hB1 := hB1.tr0 hs
  replace hB0 := hB0.tr0 hs
  clear hs
  refine ⟨_, rfl, ?_⟩
  refine wl_cl fn12 (canap_any (hTab.mono hB) (hTp.mono hB0) (hFp.mono hB0) hGa) rfl (fun e' w9 hr => ?_)
  obtain ⟨⟨GW, rfl, hGW⟩, hs⟩ := hr
  replace hs := Same.of_bel hs
  replace hB := hB.tr0 hs
  replace hb2 := hb2.tr0 hs
  replace hb3 := hb3.tr0 hs
  replace hb15 := hb15.tr0 hs
  replace hb19 := hb19.tr0 hs
  replace hb5 := hb5.tr0 hs
  replace hB1 := hB1.tr0 hs
  replace hB0 := hB0.tr0 hs
  clear hs
  have hB2 : Bel w9 w9 := Below.refl _ _
  refine ⟨_, rfl, ?_⟩
  refine wl (r_mv (v := .tuple _) rfl) ?_
  refine wl (r_ex (v := .agg _) rfl rfl) ?_
  refine wl (r_ex (v := .agg _) rfl rfl) ?_
  refine wl_al (cs := #[.slice none 0 0]) ze28 rfl (fun b6 w10 hb6 hs hr => ?_)
  have or_b2_b6 : b2 < b6 := Nat.lt_of_lt_of_le hb2.lt hr
  have or_b3_b6 : b3 < b6 := Nat.lt_of_lt_of_le hb3.lt hr
  have or_b15_b6 : b15 < b6 := Nat.lt_of_lt_of_le hb15.lt hr
  have or_b19_b6 : b19 < b6 := Nat.lt_of_lt_of_le hb19.lt hr
  have or_b5_b6 : b5 < b6 := Nat.lt_of_lt_of_le hb5.lt hr
  have lo6 := Nat.le_trans (Bel.size hB) hr
  have lo_hB1_b6 := Nat.le_trans (Bel.size hB1) hr
  have lo_hB0_b6 := Nat.le_trans (Bel.size hB0) hr
  have lo_hB2_b6 := Nat.le_trans (Bel.size hB2) hr
  replace hB := hB.tr0 hs
  replace hb2 := hb2.tr0 hs
  replace hb3 := hb3.tr0 hs
  replace hb15 := hb15.tr0 hs
  replace hb19 := hb19.tr0 hs
  replace hb5 := hb5.tr0 hs
  replace hB1 := hB1.tr0 hs
  replace hB0 := hB0.tr0 hs
  replace hB2 := hB2.tr0 hs
  clear hs
  clear hr
  refine wl_al (cs := #[.int .i64 0, .int .i64 0]) ze30 rfl (fun b7 w11 hb7 hs hr => ?_)
  have or_b2_b7 : b2 < b7 := Nat.lt_of_lt_of_le hb2.lt hr
  have or_b3_b7 : b3 < b7 := Nat.lt_of_lt_of_le hb3.lt hr
  have or_b15_b7 : b15 < b7 := Nat.lt_of_lt_of_le hb15.lt hr
  have or_b19_b7 : b19 < b7 := Nat.lt_of_lt_of_le hb19.lt hr
  have or_b5_b7 : b5 < b7 := Nat.lt_of_lt_of_le hb5.lt hr
  have or_b6_b7 : b6 < b7 := Nat.lt_of_lt_of_le hb6.lt hr
  have lo7 := Nat.le_trans (Bel.size hB) hr
  have lo_hB1_b7 := Nat.le_trans (Bel.size hB1) hr
  have lo_hB0_b7 := Nat.le_trans (Bel.size hB0) hr
  have lo_hB2_b7 := Nat.le_trans (Bel.size hB2) hr
  replace hB := hB.tr0 hs
  replace hb2 := hb2.tr0 hs
  replace hb3 := hb3.tr0 hs
  replace hb15 := hb15.tr0 hs
  replace hb19 := hb19.tr0 hs
  replace hb5 := hb5.tr0 hs
  replace hB1 := hB1.tr0 hs
  replace hB0 := hB0.tr0 hs
  replace hB2 := hB2.tr0 hs
  replace hb6 := hb6.tr0 hs
  clear hs
  clear hr
  refine wl_stW hb6 rfl rfl sz28 rfl (by repeat (first | rfl | refine one_cons (by first | rfl | assumption) ?_)) (fun w12 hq hs => ?_)
  replace hB := hB.tr1 hs lo6
  replace hb2 := hb2.tr1 hs (by omega)
  replace hb3 := hb3.tr1 hs (by omega)
  replace hb15 := hb15.tr1 hs (by omega)
  replace hb19 := hb19.tr1 hs (by omega)
  replace hb5 := hb5.tr1 hs (by omega)
  replace hB1 := hB1.tr1 hs lo_hB1_b6
  replace hB0 := hB0.tr1 hs lo_hB0_b6
  replace hB2 := hB2.tr1 hs lo_hB2_b6
  replace hb7 := hb7.tr1 hs (by omega)
  clear hs
  replace hb6 := hq
  refine wl_stW hb7 rfl rfl sz30 rfl (by repeat (first | rfl | refine one_cons (by first | rfl | assumption) ?_)) (fun w13 hq hs => ?_)
  replace hB := hB.tr1 hs lo7
  replace hb2 := hb2.tr1 hs (by omega)
  replace hb3 := hb3.tr1 hs (by omega)
  replace hb15 := hb15.tr1 hs (by omega)
  replace hb19 := hb19.tr1 hs (by omega)
  replace hb5 := hb5.tr1 hs (by omega)
  replace hB1 := hB1.tr1 hs lo_hB1_b7
  replace hB0 := hB0.tr1 hs lo_hB0_b7
  replace hB2 := hB2.tr1 hs lo_hB2_b7
  replace hb6 := hb6.tr1 hs (by omega)
  clear hs
  replace hb7 := hq
  refine x_nil ?_
  refine e_S ?_
  refine c_seq ?_
  refine c_region ?_
  refine wl (r_fa Tryd.underlying30 sz3 (by decide) rfl rfl rfl) ?_
  refine wl (r_ld1 (v := .int _ _) Tryd.underlying3 rfl rfl (hb7.cell rfl)) ?_
  refine wl (r_neq rfl rfl) ?_
  refine wl (r_mv (v := .bool false) rfl) ?_
  refine wl_gd 30 rfl rfl ?_
  refine wl (r_ldS Tryd.underlying28 rfl rfl hb6.range0 sz28) ?_
  refine wl_gd 30 rfl rfl ?_
  refine wl (r_ldS Tryd.underlying28 rfl rfl hb5.range0 sz28) ?_
  refine wl_gd 30 rfl rfl ?_
  refine wl_cl fn15 (same_any GW (some ⟨b19, 0, none⟩) 3 3 3 3 wantG wantG _ (hGW.mono hB2) (hW.mono hB1) rfl rfl rfl) rfl (fun e' w14 hr => ?_)
  obtain ⟨rfl, hs⟩ := hr
  replace hs := Same.of_bel hs
  replace hB := hB.tr0 hs
  replace hb2 := hb2.tr0 hs
  replace hb3 := hb3.tr0 hs
  replace hb15 := hb15.tr0 hs
  replace hb19 := hb19.tr0 hs
  replace hb5 := hb5.tr0 hs
  replace hB1 := hB1.tr0 hs
  replace hB0 := hB0.tr0 hs
  replace hB2 := hB2.tr0 hs
  replace hb6 := hb6.tr0 hs
  replace hb7 := hb7.tr0 hs
  clear hs
  refine ⟨_, rfl, ?_⟩
  refine wl_gd 30 rfl rfl ?_
  refine wl (r_not rfl) ?_
  refine wl (r_pf (v := .bool _) rfl rfl) ?_
  refine x_nil ?_
  refine e_S ?_
  refine c_if rfl (fun c35 => ?_) (fun c35 => ?_)
  · exact absurd c35 (by decide)
  · skip
    refine c_skip ?_
    refine e_S ?_
    refine c_seq ?_
    refine c_region ?_
    refine wl (r_ldS Tryd.underlying25 rfl rfl hb2.range0 sz25) ?_
    refine wl (r_ldS Tryd.underlying28 rfl rfl hb3.range0 sz28) ?_
    refine wl_cl fn12 (can_any A B G c d cg l fs gr _ (hTab.mono hB) (hT.mono hB) (hF.mono hB) (hG.mono hB)) rfl (fun e' w15 hr => ?_)
    obtain ⟨⟨AC, rfl, hNC, hC⟩, hs⟩ := hr
    replace hs := Same.of_bel hs
    replace hB := hB.tr0 hs
    replace hb2 := hb2.tr0 hs
    replace hb3 := hb3.tr0 hs
    replace hb15 := hb15.tr0 hs
    replace hb19 := hb19.tr0 hs
    replace hb5 := hb5.tr0 hs
    replace hB1 := hB1.tr0 hs
    replace hB0 := hB0.tr0 hs
    replace hB2 := hB2.tr0 hs
    replace hb6 := hb6.tr0 hs
    replace hb7 := hb7.tr0 hs
    clear hs
    have hB3 : Bel w15 w15 := Below.refl _ _
    replace hNC := hNC w15 (FrSame.refl _ _)
    refine ⟨_, rfl, ?_⟩
    refine wl (r_mv (v := .tuple _) rfl) ?_
    refine wl (r_ex (v := .agg _) rfl rfl) ?_
    refine wl (r_ex (v := .agg _) rfl rfl) ?_
    refine wl_al (cs := #[.slice none 0 0]) ze28 rfl (fun b8 w16 hb8 hs hr => ?_)
    have or_b2_b8 : b2 < b8 := Nat.lt_of_lt_of_le hb2.lt hr
    have or_b3_b8 : b3 < b8 := Nat.lt_of_lt_of_le hb3.lt hr
    have or_b15_b8 : b15 < b8 := Nat.lt_of_lt_of_le hb15.lt hr
    have or_b19_b8 : b19 < b8 := Nat.lt_of_lt_of_le hb19.lt hr
    have or_b5_b8 : b5 < b8 := Nat.lt_of_lt_of_le hb5.lt hr
    have or_b6_b8 : b6 < b8 := Nat.lt_of_lt_of_le hb6.lt hr
    have or_b7_b8 : b7 < b8 := Nat.lt_of_lt_of_le hb7.lt hr
    have lo8 := Nat.le_trans (Bel.size hB) hr
    have lo_hB1_b8 := Nat.le_trans (Bel.size hB1) hr
    have lo_hB0_b8 := Nat.le_trans (Bel.size hB0) hr
    have lo_hB2_b8 := Nat.le_trans (Bel.size hB2) hr
    have lo_hB3_b8 := Nat.le_trans (Bel.size hB3) hr
    replace hB := hB.tr0 hs
    replace hb2 := hb2.tr0 hs
    replace hb3 := hb3.tr0 hs
    replace hb15 := hb15.tr0 hs
    replace hb19 := hb19.tr0 hs
    replace hb5 := hb5.tr0 hs
    replace hB1 := hB1.tr0 hs
    replace hB0 := hB0.tr0 hs
    replace hB2 := hB2.tr0 hs
    replace hb6 := hb6.tr0 hs
    replace hb7 := hb7.tr0 hs
    replace hB3 := hB3.tr0 hs
    clear hs
    clear hr
    refine wl_al (cs := #[.int .i64 0, .int .i64 0]) ze30 rfl (fun b9 w17 hb9 hs hr => ?_)
    have or_b2_b9 : b2 < b9 := Nat.lt_of_lt_of_le hb2.lt hr
    have or_b3_b9 : b3 < b9 := Nat.lt_of_lt_of_le hb3.lt hr
    have or_b15_b9 : b15 < b9 := Nat.lt_of_lt_of_le hb15.lt hr
    have or_b19_b9 : b19 < b9 := Nat.lt_of_lt_of_le hb19.lt hr
    have or_b5_b9 : b5 < b9 := Nat.lt_of_lt_of_le hb5.lt hr
    have or_b6_b9 : b6 < b9 := Nat.lt_of_lt_of_le hb6.lt hr
    have or_b7_b9 : b7 < b9 := Nat.lt_of_lt_of_le hb7.lt hr
    have or_b8_b9 : b8 < b9 := Nat.lt_of_lt_of_le hb8.lt hr
    have lo9 := Nat.le_trans (Bel.size hB) hr
    have lo_hB1_b9 := Nat.le_trans (Bel.size hB1) hr
    have lo_hB0_b9 := Nat.le_trans (Bel.size hB0) hr
    have lo_hB2_b9 := Nat.le_trans (Bel.size hB2) hr
    have lo_hB3_b9 := Nat.le_trans (Bel.size hB3) hr
    replace hB := hB.tr0 hs
    replace hb2 := hb2.tr0 hs
    replace hb3 := hb3.tr0 hs
    replace hb15 := hb15.tr0 hs
    replace hb19 := hb19.tr0 hs
    replace hb5 := hb5.tr0 hs
    replace hB1 := hB1.tr0 hs
    replace hB0 := hB0.tr0 hs
    replace hB2 := hB2.tr0 hs
    replace hb6 := hb6.tr0 hs
    replace hb7 := hb7.tr0 hs
    replace hB3 := hB3.tr0 hs
    replace hb8 := hb8.tr0 hs
    clear hs
    clear hr
    refine wl_stW hb8 rfl rfl sz28 rfl (by repeat (first | rfl | refine one_cons (by first | rfl | assumption) ?_)) (fun w18 hq hs => ?_)
    replace hB := hB.tr1 hs lo8
    replace hb2 := hb2.tr1 hs (by omega)
    replace hb3 := hb3.tr1 hs (by omega)
    replace hb15 := hb15.tr1 hs (by omega)
    replace hb19 := hb19.tr1 hs (by omega)
    replace hb5 := hb5.tr1 hs (by omega)
    replace hB1 := hB1.tr1 hs lo_hB1_b8
    replace hB0 := hB0.tr1 hs lo_hB0_b8
    replace hB2 := hB2.tr1 hs lo_hB2_b8
    replace hb6 := hb6.tr1 hs (by omega)
    replace hb7 := hb7.tr1 hs (by omega)
    replace hB3 := hB3.tr1 hs lo_hB3_b8
    replace hb9 := hb9.tr1 hs (by omega)
    clear hs
    replace hb8 := hq
    refine wl_stW hb9 rfl rfl sz30 rfl (by repeat (first | rfl | refine one_cons (by first | rfl | assumption) ?_)) (fun w19 hq hs => ?_)
    replace hB := hB.tr1 hs lo9
    replace hb2 := hb2.tr1 hs (by omega)
    replace hb3 := hb3.tr1 hs (by omega)
    replace hb15 := hb15.tr1 hs (by omega)
    replace hb19 := hb19.tr1 hs (by omega)
    replace hb5 := hb5.tr1 hs (by omega)
    replace hB1 := hB1.tr1 hs lo_hB1_b9
    replace hB0 := hB0.tr1 hs lo_hB0_b9
    replace hB2 := hB2.tr1 hs lo_hB2_b9
    replace hb6 := hb6.tr1 hs (by omega)
    replace hb7 := hb7.tr1 hs (by omega)
    replace hB3 := hB3.tr1 hs lo_hB3_b9
    replace hb8 := hb8.tr1 hs (by omega)
    clear hs
    replace hb9 := hq
    refine x_nil ?_
    refine e_S ?_
    refine c_seq ?_
    refine c_seq ?_
    refine c_region ?_
    refine wl (r_ldS Tryd.underlying25 rfl rfl hb2.range0 sz25) ?_
    refine wl (r_ldS Tryd.underlying28 rfl rfl hb3.range0 sz28) ?_
    refine wl_cl fn11 (gfau_any A B G c d cg l fs gr _ hcl hdl (hT.mono hB) (hF.mono hB) (hG.mono hB)) rfl (fun e' w20 hr => ?_)
    obtain ⟨rfl, hs⟩ := hr
    replace hs := Same.of_bel hs
    replace hB := hB.tr0 hs
    replace hb2 := hb2.tr0 hs
    replace hb3 := hb3.tr0 hs
    replace hb15 := hb15.tr0 hs
    replace hb19 := hb19.tr0 hs
    replace hb5 := hb5.tr0 hs
    replace hB1 := hB1.tr0 hs
    replace hB0 := hB0.tr0 hs
    replace hB2 := hB2.tr0 hs
    replace hb6 := hb6.tr0 hs
    replace hb7 := hb7.tr0 hs
    replace hB3 := hB3.tr0 hs
    replace hb8 := hb8.tr0 hs
    replace hb9 := hb9.tr0 hs
    clear hs
    refine ⟨_, rfl, ?_⟩
    refine wl_al (cs := #[.int .i64 0, .int .i64 0]) ze30 rfl (fun b10 w21 hb10 hs hr => ?_)
    have or_b2_b10 : b2 < b10 := Nat.lt_of_lt_of_le hb2.lt hr
    have or_b3_b10 : b3 < b10 := Nat.lt_of_lt_of_le hb3.lt hr
    have or_b15_b10 : b15 < b10 := Nat.lt_of_lt_of_le hb15.lt hr
    have or_b19_b10 : b19 < b10 := Nat.lt_of_lt_of_le hb19.lt hr
    have or_b5_b10 : b5 < b10 := Nat.lt_of_lt_of_le hb5.lt hr
    have or_b6_b10 : b6 < b10 := Nat.lt_of_lt_of_le hb6.lt hr
    have or_b7_b10 : b7 < b10 := Nat.lt_of_lt_of_le hb7.lt hr
    have or_b8_b10 : b8 < b10 := Nat.lt_of_lt_of_le hb8.lt hr
    have or_b9_b10 : b9 < b10 := Nat.lt_of_lt_of_le hb9.lt hr
    have lo10 := Nat.le_trans (Bel.size hB) hr
    have lo_hB1_b10 := Nat.le_trans (Bel.size hB1) hr
    have lo_hB0_b10 := Nat.le_trans (Bel.size hB0) hr
    have lo_hB2_b10 := Nat.le_trans (Bel.size hB2) hr
    have lo_hB3_b10 := Nat.le_trans (Bel.size hB3) hr
    replace hB := hB.tr0 hs
    replace hb2 := hb2.tr0 hs
    replace hb3 := hb3.tr0 hs
    replace hb15 := hb15.tr0 hs
    replace hb19 := hb19.tr0 hs
    replace hb5 := hb5.tr0 hs
    replace hB1 := hB1.tr0 hs
    replace hB0 := hB0.tr0 hs
    replace hB2 := hB2.tr0 hs
    replace hb6 := hb6.tr0 hs
    replace hb7 := hb7.tr0 hs
    replace hB3 := hB3.tr0 hs
    replace hb8 := hb8.tr0 hs
    replace hb9 := hb9.tr0 hs
    clear hs
    clear hr
    refine wl_stW hb10 rfl rfl sz30 rfl (by repeat (first | rfl | refine one_cons (by first | rfl | assumption) ?_)) (fun w22 hq hs => ?_)
    replace hB := hB.tr1 hs lo10
    replace hb2 := hb2.tr1 hs (by omega)
    replace hb3 := hb3.tr1 hs (by omega)
    replace hb15 := hb15.tr1 hs (by omega)
    replace hb19 := hb19.tr1 hs (by omega)
    replace hb5 := hb5.tr1 hs (by omega)
    replace hB1 := hB1.tr1 hs lo_hB1_b10
    replace hB0 := hB0.tr1 hs lo_hB0_b10
    replace hB2 := hB2.tr1 hs lo_hB2_b10
    replace hb6 := hb6.tr1 hs (by omega)
    replace hb7 := hb7.tr1 hs (by omega)
    replace hB3 := hB3.tr1 hs lo_hB3_b10
    replace hb8 := hb8.tr1 hs (by omega)
    replace hb9 := hb9.tr1 hs (by omega)
    clear hs
    replace hb10 := hq
    refine x_nil ?_
    refine e_S ?_
    refine c_seq ?_
    refine c_region ?_
    refine wl (r_fa Tryd.underlying30 sz3 (by decide) rfl rfl rfl) ?_
    refine wl (r_ld1 (v := .int _ _) Tryd.underlying3 rfl rfl (hb10.cell rfl)) ?_
    refine wl (r_neq rfl rfl) ?_
    refine x_nil ?_
    refine e_S ?_
    refine c_ifd rfl (fun c47 => ?_) (fun c47 => ?_)
    · have hc0 : canF l fs gr = [] := canF_no c47
      refine c_seq ?_
      refine c_region ?_
      refine wl (r_ldS Tryd.underlying30 rfl rfl hb9.range0 sz30) ?_
      refine wl (r_ldS Tryd.underlying30 rfl rfl hb10.range0 sz30) ?_
      refine wl (r_eqF Tryd.eqGuardType30 ft30 Tryd.stoodInHeld30 fd30 Tryd.underlying3 rfl rfl) ?_
      refine wl (r_mv (v := .bool true) (congrArg Value.bool (decide_eq_true ⟨rfl, rfl⟩))) ?_
      refine wl_gd 51 rfl rfl ?_
      refine wl (r_fa Tryd.underlying28 sz26 (by decide) rfl rfl rfl) ?_
      refine wl_gd 51 rfl rfl ?_
      refine wl (r_ld1 (v := .slice _ _ _) Tryd.underlying26 rfl rfl (hb8.cell rfl)) ?_
      refine wl_gd 51 rfl rfl ?_
      refine wl (r_len Tryd.underlying26 rfl) ?_
      refine wl_gd 51 rfl rfl ?_
      refine wl (r_eql rfl rfl) ?_
      refine wl (r_pt (v := .bool _) rfl rfl) ?_
      refine wl (r_as (v := .bool true) (congrArg Value.bool (decide_eq_true (by rw [hc0]; rfl)))) ?_
      refine x_nil ?_
      refine e_S ?_
      refine c_ret ?_
      refine e_Sr ?_
      refine fin1 (.inl rfl) rfl rfl ?_
      exact ⟨rfl, hB⟩
    · have h0 := Decidable.not_not.1 c47
      obtain ⟨o, hD, heC⟩ := hC h0
      obtain ⟨hv2, hid⟩ := canF_idem h0 hD heC
      have z0 := gf_zz h0
      have z2 := gf_zz hv2
      refine c_skip ?_
      refine e_S ?_
      refine c_seq ?_
      refine c_region ?_
      refine wl (r_ldS Tryd.underlying25 rfl rfl hb2.range0 sz25) ?_
      refine wl (r_ldS Tryd.underlying28 rfl rfl hb8.range0 sz28) ?_
      refine wl_cl fn12 (can_any A B AC c d _ l fs (canF l fs gr) _ (hTab.mono hB) (hT.mono hB) (hF.mono hB) (hNC.mono hB3)) rfl (fun e' w23 hr => ?_)
      obtain ⟨⟨AD, rfl, hND, hC2⟩, hs⟩ := hr
      replace hs := Same.of_bel hs
      replace hB := hB.tr0 hs
      replace hb2 := hb2.tr0 hs
      replace hb3 := hb3.tr0 hs
      replace hb15 := hb15.tr0 hs
      replace hb19 := hb19.tr0 hs
      replace hb5 := hb5.tr0 hs
      replace hB1 := hB1.tr0 hs
      replace hB0 := hB0.tr0 hs
      replace hB2 := hB2.tr0 hs
      replace hb6 := hb6.tr0 hs
      replace hb7 := hb7.tr0 hs
      replace hB3 := hB3.tr0 hs
      replace hb8 := hb8.tr0 hs
      replace hb9 := hb9.tr0 hs
      replace hb10 := hb10.tr0 hs
      clear hs
      have hB4 : Bel w23 w23 := Below.refl _ _
      replace hND := hND w23 (FrSame.refl _ _)
      refine ⟨_, rfl, ?_⟩
      refine wl (r_mv (v := .tuple _) rfl) ?_
      refine wl (r_ex (v := .agg _) rfl rfl) ?_
      refine wl (r_ex (v := .agg _) rfl rfl) ?_
      refine wl_al (cs := #[.slice none 0 0]) ze28 rfl (fun b11 w24 hb11 hs hr => ?_)
      have or_b2_b11 : b2 < b11 := Nat.lt_of_lt_of_le hb2.lt hr
      have or_b3_b11 : b3 < b11 := Nat.lt_of_lt_of_le hb3.lt hr
      have or_b15_b11 : b15 < b11 := Nat.lt_of_lt_of_le hb15.lt hr
      have or_b19_b11 : b19 < b11 := Nat.lt_of_lt_of_le hb19.lt hr
      have or_b5_b11 : b5 < b11 := Nat.lt_of_lt_of_le hb5.lt hr
      have or_b6_b11 : b6 < b11 := Nat.lt_of_lt_of_le hb6.lt hr
      have or_b7_b11 : b7 < b11 := Nat.lt_of_lt_of_le hb7.lt hr
      have or_b8_b11 : b8 < b11 := Nat.lt_of_lt_of_le hb8.lt hr
      have or_b9_b11 : b9 < b11 := Nat.lt_of_lt_of_le hb9.lt hr
      have or_b10_b11 : b10 < b11 := Nat.lt_of_lt_of_le hb10.lt hr
      have lo11 := Nat.le_trans (Bel.size hB) hr
      have lo_hB1_b11 := Nat.le_trans (Bel.size hB1) hr
      have lo_hB0_b11 := Nat.le_trans (Bel.size hB0) hr
      have lo_hB2_b11 := Nat.le_trans (Bel.size hB2) hr
      have lo_hB3_b11 := Nat.le_trans (Bel.size hB3) hr
      have lo_hB4_b11 := Nat.le_trans (Bel.size hB4) hr
      replace hB := hB.tr0 hs
      replace hb2 := hb2.tr0 hs
      replace hb3 := hb3.tr0 hs
      replace hb15 := hb15.tr0 hs
      replace hb19 := hb19.tr0 hs
      replace hb5 := hb5.tr0 hs
      replace hB1 := hB1.tr0 hs
      replace hB0 := hB0.tr0 hs
      replace hB2 := hB2.tr0 hs
      replace hb6 := hb6.tr0 hs
      replace hb7 := hb7.tr0 hs
      replace hB3 := hB3.tr0 hs
      replace hb8 := hb8.tr0 hs
      replace hb9 := hb9.tr0 hs
      replace hb10 := hb10.tr0 hs
      replace hB4 := hB4.tr0 hs
      clear hs
      clear hr
      refine wl_al (cs := #[.int .i64 0, .int .i64 0]) ze30 rfl (fun b12 w25 hb12 hs hr => ?_)
      have or_b2_b12 : b2 < b12 := Nat.lt_of_lt_of_le hb2.lt hr
      have or_b3_b12 : b3 < b12 := Nat.lt_of_lt_of_le hb3.lt hr
      have or_b15_b12 : b15 < b12 := Nat.lt_of_lt_of_le hb15.lt hr
      have or_b19_b12 : b19 < b12 := Nat.lt_of_lt_of_le hb19.lt hr
      have or_b5_b12 : b5 < b12 := Nat.lt_of_lt_of_le hb5.lt hr
      have or_b6_b12 : b6 < b12 := Nat.lt_of_lt_of_le hb6.lt hr
      have or_b7_b12 : b7 < b12 := Nat.lt_of_lt_of_le hb7.lt hr
      have or_b8_b12 : b8 < b12 := Nat.lt_of_lt_of_le hb8.lt hr
      have or_b9_b12 : b9 < b12 := Nat.lt_of_lt_of_le hb9.lt hr
      have or_b10_b12 : b10 < b12 := Nat.lt_of_lt_of_le hb10.lt hr
      have or_b11_b12 : b11 < b12 := Nat.lt_of_lt_of_le hb11.lt hr
      have lo12 := Nat.le_trans (Bel.size hB) hr
      have lo_hB1_b12 := Nat.le_trans (Bel.size hB1) hr
      have lo_hB0_b12 := Nat.le_trans (Bel.size hB0) hr
      have lo_hB2_b12 := Nat.le_trans (Bel.size hB2) hr
      have lo_hB3_b12 := Nat.le_trans (Bel.size hB3) hr
      have lo_hB4_b12 := Nat.le_trans (Bel.size hB4) hr
      replace hB := hB.tr0 hs
      replace hb2 := hb2.tr0 hs
      replace hb3 := hb3.tr0 hs
      replace hb15 := hb15.tr0 hs
      replace hb19 := hb19.tr0 hs
      replace hb5 := hb5.tr0 hs
      replace hB1 := hB1.tr0 hs
      replace hB0 := hB0.tr0 hs
      replace hB2 := hB2.tr0 hs
      replace hb6 := hb6.tr0 hs
      replace hb7 := hb7.tr0 hs
      replace hB3 := hB3.tr0 hs
      replace hb8 := hb8.tr0 hs
      replace hb9 := hb9.tr0 hs
      replace hb10 := hb10.tr0 hs
      replace hB4 := hB4.tr0 hs
      replace hb11 := hb11.tr0 hs
      clear hs
      clear hr
      refine wl_stW hb11 rfl rfl sz28 rfl (by repeat (first | rfl | refine one_cons (by first | rfl | assumption) ?_)) (fun w26 hq hs => ?_)
      replace hB := hB.tr1 hs lo11
      replace hb2 := hb2.tr1 hs (by omega)
      replace hb3 := hb3.tr1 hs (by omega)
      replace hb15 := hb15.tr1 hs (by omega)
      replace hb19 := hb19.tr1 hs (by omega)
      replace hb5 := hb5.tr1 hs (by omega)
      replace hB1 := hB1.tr1 hs lo_hB1_b11
      replace hB0 := hB0.tr1 hs lo_hB0_b11
      replace hB2 := hB2.tr1 hs lo_hB2_b11
      replace hb6 := hb6.tr1 hs (by omega)
      replace hb7 := hb7.tr1 hs (by omega)
      replace hB3 := hB3.tr1 hs lo_hB3_b11
      replace hb8 := hb8.tr1 hs (by omega)
      replace hb9 := hb9.tr1 hs (by omega)
      replace hb10 := hb10.tr1 hs (by omega)
      replace hB4 := hB4.tr1 hs lo_hB4_b11
      replace hb12 := hb12.tr1 hs (by omega)
      clear hs
      replace hb11 := hq
      refine wl_stW hb12 rfl rfl sz30 rfl (by repeat (first | rfl | refine one_cons (by first | rfl | assumption) ?_)) (fun w27 hq hs => ?_)
      replace hB := hB.tr1 hs lo12
      replace hb2 := hb2.tr1 hs (by omega)
      replace hb3 := hb3.tr1 hs (by omega)
      replace hb15 := hb15.tr1 hs (by omega)
      replace hb19 := hb19.tr1 hs (by omega)
      replace hb5 := hb5.tr1 hs (by omega)
      replace hB1 := hB1.tr1 hs lo_hB1_b12
      replace hB0 := hB0.tr1 hs lo_hB0_b12
      replace hB2 := hB2.tr1 hs lo_hB2_b12
      replace hb6 := hb6.tr1 hs (by omega)
      replace hb7 := hb7.tr1 hs (by omega)
      replace hB3 := hB3.tr1 hs lo_hB3_b12
      replace hb8 := hb8.tr1 hs (by omega)
      replace hb9 := hb9.tr1 hs (by omega)
      replace hb10 := hb10.tr1 hs (by omega)
      replace hB4 := hB4.tr1 hs lo_hB4_b12
      replace hb11 := hb11.tr1 hs (by omega)
      clear hs
      replace hb12 := hq
      refine x_nil ?_
      refine e_S ?_
      refine c_seq ?_
      have hid2 := hid (hC2 hv2)
      refine c_monoGO 19 [63, 64, 65, 66, 67, 68, 69, 70, 71, 72, 73, 74, 75, 76, 77, 78, 79, 80, 81] (fun _ => false) (fun ix v wv => match ix with | 0 => v = .pointer (some ⟨b9, 0, none⟩) | 1 => v = .int .i64 (graphF l fs gr).1 | 2 => v = .bool true | 3 => v = .bool true | 4 => v = .agg #[.slice AC (canF l fs gr).length (canF l fs gr).length] | 5 => v = .agg #[.slice G gr.length cg] | 6 => ∃ AR c, v = .agg #[.slice AR (canF l fs gr).length c] ∧ NodesIn wv AR (canF l fs gr) | 7 => v = .bool true | 8 => v = .bool true | 9 => v = .bool true | 10 => v = .pointer (some ⟨b12, 0, none⟩) | 11 => v = .int .i64 (graphF l fs (canF l fs gr)).1 | 12 => v = .bool true | 13 => v = .bool true | 14 => v = .bool true | 15 => v = .agg #[.slice AC (canF l fs gr).length (canF l fs gr).length] | 16 => v = .agg #[.slice AD (canF l fs (canF l fs gr)).length (canF l fs (canF l fs gr)).length] | 17 => v = .bool true | 18 => v = .bool true | _ => True) (by kernel_rfl) (by kernel_rfl) ?_ ?_ ?_
      · intro ix v wv wv2 h hs
        match ix, h with
        | 0, h => exact h
        | 1, h => exact h
        | 2, h => exact h
        | 3, h => exact h
        | 4, h => exact h
        | 5, h => exact h
        | 6, h =>
          obtain ⟨AR, cR, e69, hNR⟩ := (show ∃ AR c, v = .agg #[.slice AR (canF l fs gr).length c] ∧ NodesIn wv AR (canF l fs gr) from h)
          exact ⟨AR, cR, e69, hNR.mono hs.bel⟩
        | 7, h => exact h
        | 8, h => exact h
        | 9, h => exact h
        | 10, h => exact h
        | 11, h => exact h
        | 12, h => exact h
        | 13, h => exact h
        | 14, h => exact h
        | 15, h => exact h
        | 16, h => exact h
        | 17, h => exact h
        | 18, h => exact h
        | _ + 19, h => exact trivial
      · intro ix o hix hoq gg wx hs hd hdis
        match ix, hix, hoq with
        | 0, _, hoq =>
          obtain rfl : _ = o := Option.some.inj hoq
          have hs0 := hs
          replace hB := hB.tr0 hs
          replace hb2 := hb2.tr0 hs
          replace hb3 := hb3.tr0 hs
          replace hb15 := hb15.tr0 hs
          replace hb19 := hb19.tr0 hs
          replace hb5 := hb5.tr0 hs
          replace hB1 := hB1.tr0 hs
          replace hB0 := hB0.tr0 hs
          replace hB2 := hB2.tr0 hs
          replace hb6 := hb6.tr0 hs
          replace hb7 := hb7.tr0 hs
          replace hB3 := hB3.tr0 hs
          replace hb8 := hb8.tr0 hs
          replace hb9 := hb9.tr0 hs
          replace hb10 := hb10.tr0 hs
          replace hB4 := hB4.tr0 hs
          replace hb11 := hb11.tr0 hs
          replace hb12 := hb12.tr0 hs
          clear hs
          refine ⟨fun _ => ?_, fun hw => Bool.noConfusion (show true = false from hw)⟩
          refine os_rv (r_fa Tryd.underlying30 sz3 (by decide) rfl rfl rfl) ⟨Same.refl _ _, ?_, frsh_no⟩
          exact rfl
        | 1, _, hoq =>
          obtain rfl : _ = o := Option.some.inj hoq
          have hs0 := hs
          replace hB := hB.tr0 hs
          replace hb2 := hb2.tr0 hs
          replace hb3 := hb3.tr0 hs
          replace hb15 := hb15.tr0 hs
          replace hb19 := hb19.tr0 hs
          replace hb5 := hb5.tr0 hs
          replace hB1 := hB1.tr0 hs
          replace hB0 := hB0.tr0 hs
          replace hB2 := hB2.tr0 hs
          replace hb6 := hb6.tr0 hs
          replace hb7 := hb7.tr0 hs
          replace hB3 := hB3.tr0 hs
          replace hb8 := hb8.tr0 hs
          replace hb9 := hb9.tr0 hs
          replace hb10 := hb10.tr0 hs
          replace hB4 := hB4.tr0 hs
          replace hb11 := hb11.tr0 hs
          replace hb12 := hb12.tr0 hs
          clear hs
          have d0 : gg 63 = .pointer (some ⟨b9, 0, none⟩) := hd 0 (dep_of (by kernel_rfl))
          have e63 := d0
          refine ⟨fun _ => ?_, fun hw => Bool.noConfusion (show true = false from hw)⟩
          refine os_know 63 (.pointer (some ⟨b9, 0, none⟩)) e63 (by simp [undef]) ?_
          refine os_rv (r_ld1 (v := .int _ _) Tryd.underlying3 rfl rfl (hb9.cell rfl)) ⟨Same.refl _ _, ?_, frsh_no⟩
          exact rfl
        | 2, _, hoq =>
          obtain rfl : _ = o := Option.some.inj hoq
          have hs0 := hs
          replace hB := hB.tr0 hs
          replace hb2 := hb2.tr0 hs
          replace hb3 := hb3.tr0 hs
          replace hb15 := hb15.tr0 hs
          replace hb19 := hb19.tr0 hs
          replace hb5 := hb5.tr0 hs
          replace hB1 := hB1.tr0 hs
          replace hB0 := hB0.tr0 hs
          replace hB2 := hB2.tr0 hs
          replace hb6 := hb6.tr0 hs
          replace hb7 := hb7.tr0 hs
          replace hB3 := hB3.tr0 hs
          replace hb8 := hb8.tr0 hs
          replace hb9 := hb9.tr0 hs
          replace hb10 := hb10.tr0 hs
          replace hB4 := hB4.tr0 hs
          replace hb11 := hb11.tr0 hs
          replace hb12 := hb12.tr0 hs
          clear hs
          have d1 : gg 64 = .int .i64 (graphF l fs gr).1 := hd 1 (dep_of (by kernel_rfl))
          have e64 := d1
          refine ⟨fun _ => ?_, fun hw => Bool.noConfusion (show true = false from hw)⟩
          refine os_know 64 (.int .i64 (graphF l fs gr).1) e64 (by simp [undef]) ?_
          refine os_rv (r_eql rfl rfl) ⟨Same.refl _ _, ?_, frsh_no⟩
          exact (congrArg Value.bool (decide_eq_true h0))
        | 3, _, hoq =>
          obtain rfl : _ = o := Option.some.inj hoq
          have hs0 := hs
          replace hB := hB.tr0 hs
          replace hb2 := hb2.tr0 hs
          replace hb3 := hb3.tr0 hs
          replace hb15 := hb15.tr0 hs
          replace hb19 := hb19.tr0 hs
          replace hb5 := hb5.tr0 hs
          replace hB1 := hB1.tr0 hs
          replace hB0 := hB0.tr0 hs
          replace hB2 := hB2.tr0 hs
          replace hb6 := hb6.tr0 hs
          replace hb7 := hb7.tr0 hs
          replace hB3 := hB3.tr0 hs
          replace hb8 := hb8.tr0 hs
          replace hb9 := hb9.tr0 hs
          replace hb10 := hb10.tr0 hs
          replace hB4 := hB4.tr0 hs
          replace hb11 := hb11.tr0 hs
          replace hb12 := hb12.tr0 hs
          clear hs
          have d2 : gg 65 = .bool true := hd 2 (dep_of (by kernel_rfl))
          have e65 := d2
          refine ⟨fun _ => ?_, fun hw => Bool.noConfusion (show true = false from hw)⟩
          refine os_know 65 (.bool true) e65 (by simp [undef]) ?_
          refine os_rv (r_mv (v := .bool _) rfl) ⟨Same.refl _ _, ?_, frsh_no⟩
          exact rfl
        | 4, _, hoq =>
          obtain rfl : _ = o := Option.some.inj hoq
          have hs0 := hs
          replace hB := hB.tr0 hs
          replace hb2 := hb2.tr0 hs
          replace hb3 := hb3.tr0 hs
          replace hb15 := hb15.tr0 hs
          replace hb19 := hb19.tr0 hs
          replace hb5 := hb5.tr0 hs
          replace hB1 := hB1.tr0 hs
          replace hB0 := hB0.tr0 hs
          replace hB2 := hB2.tr0 hs
          replace hb6 := hb6.tr0 hs
          replace hb7 := hb7.tr0 hs
          replace hB3 := hB3.tr0 hs
          replace hb8 := hb8.tr0 hs
          replace hb9 := hb9.tr0 hs
          replace hb10 := hb10.tr0 hs
          replace hB4 := hB4.tr0 hs
          replace hb11 := hb11.tr0 hs
          replace hb12 := hb12.tr0 hs
          clear hs
          have d3 : gg 66 = .bool true := hd 3 (dep_of (by kernel_rfl))
          have e66 := d3
          refine guard_case 66 true rfl e66 (fun _ => ?_) (fun h => absurd h (by decide))
          refine os_know 66 (.bool true) e66 (by simp [undef]) ?_
          refine os_rv (r_ldS Tryd.underlying28 rfl rfl hb8.range0 sz28) ⟨Same.refl _ _, ?_, frsh_no⟩
          exact rfl
        | 5, _, hoq =>
          obtain rfl : _ = o := Option.some.inj hoq
          have hs0 := hs
          replace hB := hB.tr0 hs
          replace hb2 := hb2.tr0 hs
          replace hb3 := hb3.tr0 hs
          replace hb15 := hb15.tr0 hs
          replace hb19 := hb19.tr0 hs
          replace hb5 := hb5.tr0 hs
          replace hB1 := hB1.tr0 hs
          replace hB0 := hB0.tr0 hs
          replace hB2 := hB2.tr0 hs
          replace hb6 := hb6.tr0 hs
          replace hb7 := hb7.tr0 hs
          replace hB3 := hB3.tr0 hs
          replace hb8 := hb8.tr0 hs
          replace hb9 := hb9.tr0 hs
          replace hb10 := hb10.tr0 hs
          replace hB4 := hB4.tr0 hs
          replace hb11 := hb11.tr0 hs
          replace hb12 := hb12.tr0 hs
          clear hs
          have d3 : gg 66 = .bool true := hd 3 (dep_of (by kernel_rfl))
          have e66 := d3
          refine guard_case 66 true rfl e66 (fun _ => ?_) (fun h => absurd h (by decide))
          refine os_know 66 (.bool true) e66 (by simp [undef]) ?_
          refine os_rv (r_ldS Tryd.underlying28 rfl rfl hb3.range0 sz28) ⟨Same.refl _ _, ?_, frsh_no⟩
          exact rfl
        | 6, _, hoq =>
          obtain rfl : _ = o := Option.some.inj hoq
          have hs0 := hs
          replace hB := hB.tr0 hs
          replace hb2 := hb2.tr0 hs
          replace hb3 := hb3.tr0 hs
          replace hb15 := hb15.tr0 hs
          replace hb19 := hb19.tr0 hs
          replace hb5 := hb5.tr0 hs
          replace hB1 := hB1.tr0 hs
          replace hB0 := hB0.tr0 hs
          replace hB2 := hB2.tr0 hs
          replace hb6 := hb6.tr0 hs
          replace hb7 := hb7.tr0 hs
          replace hB3 := hB3.tr0 hs
          replace hb8 := hb8.tr0 hs
          replace hb9 := hb9.tr0 hs
          replace hb10 := hb10.tr0 hs
          replace hB4 := hB4.tr0 hs
          replace hb11 := hb11.tr0 hs
          replace hb12 := hb12.tr0 hs
          clear hs
          have d3 : gg 66 = .bool true := hd 3 (dep_of (by kernel_rfl))
          have e66 := d3
          have d5 : gg 68 = .agg #[.slice G gr.length cg] := hd 5 (dep_of (by kernel_rfl))
          have e68 := d5
          refine guard_case 66 true rfl e66 (fun _ => ?_) (fun h => absurd h (by decide))
          refine os_know 66 (.bool true) e66 (by simp [undef]) ?_
          refine os_know 68 (.agg #[.slice G gr.length cg]) e68 (by simp [undef]) ?_
          refine os_cl fn16 (rcan_any G _ cg l fs gr wx (hG.mono hB) rfl h0) rfl (fun e' w2 hr => ?_)
          obtain ⟨⟨AR, cR, rfl, hNR⟩, hs⟩ := hr
          exact ⟨_, rfl, Same.of_bel hs, ⟨_, _, rfl, hNR _ (FrSame.refl _ _)⟩, frsh_no⟩
        | 7, _, hoq =>
          obtain rfl : _ = o := Option.some.inj hoq
          have hs0 := hs
          replace hB := hB.tr0 hs
          replace hb2 := hb2.tr0 hs
          replace hb3 := hb3.tr0 hs
          replace hb15 := hb15.tr0 hs
          replace hb19 := hb19.tr0 hs
          replace hb5 := hb5.tr0 hs
          replace hB1 := hB1.tr0 hs
          replace hB0 := hB0.tr0 hs
          replace hB2 := hB2.tr0 hs
          replace hb6 := hb6.tr0 hs
          replace hb7 := hb7.tr0 hs
          replace hB3 := hB3.tr0 hs
          replace hb8 := hb8.tr0 hs
          replace hb9 := hb9.tr0 hs
          replace hb10 := hb10.tr0 hs
          replace hB4 := hB4.tr0 hs
          replace hb11 := hb11.tr0 hs
          replace hb12 := hb12.tr0 hs
          clear hs
          have d3 : gg 66 = .bool true := hd 3 (dep_of (by kernel_rfl))
          have e66 := d3
          have d4 : gg 67 = .agg #[.slice AC (canF l fs gr).length (canF l fs gr).length] := hd 4 (dep_of (by kernel_rfl))
          have e67 := d4
          have d6 : ∃ AR c, gg 69 = .agg #[.slice AR (canF l fs gr).length c] ∧ NodesIn wx AR (canF l fs gr) := hd 6 (dep_of (by kernel_rfl))
          obtain ⟨AR, cR, e69, hNR⟩ := d6
          refine guard_case 66 true rfl e66 (fun _ => ?_) (fun h => absurd h (by decide))
          refine os_know 66 (.bool true) e66 (by simp [undef]) ?_
          refine os_know 67 (.agg #[.slice AC (canF l fs gr).length (canF l fs gr).length]) e67 (by simp [undef]) ?_
          refine os_know 69 (.agg #[.slice AR (canF l fs gr).length cR]) e69 (by simp [undef]) ?_
          refine os_cl fn15 (same_any AC AR _ _ _ cR _ _ wx (hNC.mono hB3) hNR rfl rfl rfl) rfl (fun e' w2 hr => ?_)
          obtain ⟨rfl, hs⟩ := hr
          exact ⟨_, rfl, Same.of_bel hs, rfl, frsh_no⟩
        | 8, _, hoq =>
          obtain rfl : _ = o := Option.some.inj hoq
          have hs0 := hs
          replace hB := hB.tr0 hs
          replace hb2 := hb2.tr0 hs
          replace hb3 := hb3.tr0 hs
          replace hb15 := hb15.tr0 hs
          replace hb19 := hb19.tr0 hs
          replace hb5 := hb5.tr0 hs
          replace hB1 := hB1.tr0 hs
          replace hB0 := hB0.tr0 hs
          replace hB2 := hB2.tr0 hs
          replace hb6 := hb6.tr0 hs
          replace hb7 := hb7.tr0 hs
          replace hB3 := hB3.tr0 hs
          replace hb8 := hb8.tr0 hs
          replace hb9 := hb9.tr0 hs
          replace hb10 := hb10.tr0 hs
          replace hB4 := hB4.tr0 hs
          replace hb11 := hb11.tr0 hs
          replace hb12 := hb12.tr0 hs
          clear hs
          have d3 : gg 66 = .bool true := hd 3 (dep_of (by kernel_rfl))
          have e66 := d3
          have d7 : gg 70 = .bool true := hd 7 (dep_of (by kernel_rfl))
          have e70 := d7
          refine ⟨fun _ => ?_, fun hw => Bool.noConfusion (show true = false from hw)⟩
          refine os_know 66 (.bool true) e66 (by simp [undef]) ?_
          refine os_know 70 (.bool true) e70 (by simp [undef]) ?_
          refine os_rv (r_pt (v := .bool _) rfl rfl) ⟨Same.refl _ _, ?_, frsh_no⟩
          exact rfl
        | 9, _, hoq =>
          obtain rfl : _ = o := Option.some.inj hoq
          have hs0 := hs
          replace hB := hB.tr0 hs
          replace hb2 := hb2.tr0 hs
          replace hb3 := hb3.tr0 hs
          replace hb15 := hb15.tr0 hs
          replace hb19 := hb19.tr0 hs
          replace hb5 := hb5.tr0 hs
          replace hB1 := hB1.tr0 hs
          replace hB0 := hB0.tr0 hs
          replace hB2 := hB2.tr0 hs
          replace hb6 := hb6.tr0 hs
          replace hb7 := hb7.tr0 hs
          replace hB3 := hB3.tr0 hs
          replace hb8 := hb8.tr0 hs
          replace hb9 := hb9.tr0 hs
          replace hb10 := hb10.tr0 hs
          replace hB4 := hB4.tr0 hs
          replace hb11 := hb11.tr0 hs
          replace hb12 := hb12.tr0 hs
          clear hs
          have d8 : gg 71 = .bool true := hd 8 (dep_of (by kernel_rfl))
          have e71 := d8
          refine ⟨fun _ => ?_, fun hw => Bool.noConfusion (show true = false from hw)⟩
          refine os_know 71 (.bool true) e71 (by simp [undef]) ?_
          refine os_rv (r_mv (v := .bool _) rfl) ⟨Same.refl _ _, ?_, frsh_no⟩
          exact rfl
        | 10, _, hoq =>
          obtain rfl : _ = o := Option.some.inj hoq
          have hs0 := hs
          replace hB := hB.tr0 hs
          replace hb2 := hb2.tr0 hs
          replace hb3 := hb3.tr0 hs
          replace hb15 := hb15.tr0 hs
          replace hb19 := hb19.tr0 hs
          replace hb5 := hb5.tr0 hs
          replace hB1 := hB1.tr0 hs
          replace hB0 := hB0.tr0 hs
          replace hB2 := hB2.tr0 hs
          replace hb6 := hb6.tr0 hs
          replace hb7 := hb7.tr0 hs
          replace hB3 := hB3.tr0 hs
          replace hb8 := hb8.tr0 hs
          replace hb9 := hb9.tr0 hs
          replace hb10 := hb10.tr0 hs
          replace hB4 := hB4.tr0 hs
          replace hb11 := hb11.tr0 hs
          replace hb12 := hb12.tr0 hs
          clear hs
          have d9 : gg 72 = .bool true := hd 9 (dep_of (by kernel_rfl))
          have e72 := d9
          refine guard_case 72 true rfl e72 (fun _ => ?_) (fun h => absurd h (by decide))
          refine os_know 72 (.bool true) e72 (by simp [undef]) ?_
          refine os_rv (r_fa Tryd.underlying30 sz3 (by decide) rfl rfl rfl) ⟨Same.refl _ _, ?_, frsh_no⟩
          exact rfl
        | 11, _, hoq =>
          obtain rfl : _ = o := Option.some.inj hoq
          have hs0 := hs
          replace hB := hB.tr0 hs
          replace hb2 := hb2.tr0 hs
          replace hb3 := hb3.tr0 hs
          replace hb15 := hb15.tr0 hs
          replace hb19 := hb19.tr0 hs
          replace hb5 := hb5.tr0 hs
          replace hB1 := hB1.tr0 hs
          replace hB0 := hB0.tr0 hs
          replace hB2 := hB2.tr0 hs
          replace hb6 := hb6.tr0 hs
          replace hb7 := hb7.tr0 hs
          replace hB3 := hB3.tr0 hs
          replace hb8 := hb8.tr0 hs
          replace hb9 := hb9.tr0 hs
          replace hb10 := hb10.tr0 hs
          replace hB4 := hB4.tr0 hs
          replace hb11 := hb11.tr0 hs
          replace hb12 := hb12.tr0 hs
          clear hs
          have d9 : gg 72 = .bool true := hd 9 (dep_of (by kernel_rfl))
          have e72 := d9
          have d10 : gg 73 = .pointer (some ⟨b12, 0, none⟩) := hd 10 (dep_of (by kernel_rfl))
          have e73 := d10
          refine guard_case 72 true rfl e72 (fun _ => ?_) (fun h => absurd h (by decide))
          refine os_know 72 (.bool true) e72 (by simp [undef]) ?_
          refine os_know 73 (.pointer (some ⟨b12, 0, none⟩)) e73 (by simp [undef]) ?_
          refine os_rv (r_ld1 (v := .int _ _) Tryd.underlying3 rfl rfl (hb12.cell rfl)) ⟨Same.refl _ _, ?_, frsh_no⟩
          exact rfl
        | 12, _, hoq =>
          obtain rfl : _ = o := Option.some.inj hoq
          have hs0 := hs
          replace hB := hB.tr0 hs
          replace hb2 := hb2.tr0 hs
          replace hb3 := hb3.tr0 hs
          replace hb15 := hb15.tr0 hs
          replace hb19 := hb19.tr0 hs
          replace hb5 := hb5.tr0 hs
          replace hB1 := hB1.tr0 hs
          replace hB0 := hB0.tr0 hs
          replace hB2 := hB2.tr0 hs
          replace hb6 := hb6.tr0 hs
          replace hb7 := hb7.tr0 hs
          replace hB3 := hB3.tr0 hs
          replace hb8 := hb8.tr0 hs
          replace hb9 := hb9.tr0 hs
          replace hb10 := hb10.tr0 hs
          replace hB4 := hB4.tr0 hs
          replace hb11 := hb11.tr0 hs
          replace hb12 := hb12.tr0 hs
          clear hs
          have d9 : gg 72 = .bool true := hd 9 (dep_of (by kernel_rfl))
          have e72 := d9
          have d11 : gg 74 = .int .i64 (graphF l fs (canF l fs gr)).1 := hd 11 (dep_of (by kernel_rfl))
          have e74 := d11
          refine guard_case 72 true rfl e72 (fun _ => ?_) (fun h => absurd h (by decide))
          refine os_know 72 (.bool true) e72 (by simp [undef]) ?_
          refine os_know 74 (.int .i64 (graphF l fs (canF l fs gr)).1) e74 (by simp [undef]) ?_
          refine os_rv (r_eql rfl rfl) ⟨Same.refl _ _, ?_, frsh_no⟩
          exact (congrArg Value.bool (decide_eq_true hv2))
        | 13, _, hoq =>
          obtain rfl : _ = o := Option.some.inj hoq
          have hs0 := hs
          replace hB := hB.tr0 hs
          replace hb2 := hb2.tr0 hs
          replace hb3 := hb3.tr0 hs
          replace hb15 := hb15.tr0 hs
          replace hb19 := hb19.tr0 hs
          replace hb5 := hb5.tr0 hs
          replace hB1 := hB1.tr0 hs
          replace hB0 := hB0.tr0 hs
          replace hB2 := hB2.tr0 hs
          replace hb6 := hb6.tr0 hs
          replace hb7 := hb7.tr0 hs
          replace hB3 := hB3.tr0 hs
          replace hb8 := hb8.tr0 hs
          replace hb9 := hb9.tr0 hs
          replace hb10 := hb10.tr0 hs
          replace hB4 := hB4.tr0 hs
          replace hb11 := hb11.tr0 hs
          replace hb12 := hb12.tr0 hs
          clear hs
          have d9 : gg 72 = .bool true := hd 9 (dep_of (by kernel_rfl))
          have e72 := d9
          have d12 : gg 75 = .bool true := hd 12 (dep_of (by kernel_rfl))
          have e75 := d12
          refine ⟨fun _ => ?_, fun hw => Bool.noConfusion (show true = false from hw)⟩
          refine os_know 72 (.bool true) e72 (by simp [undef]) ?_
          refine os_know 75 (.bool true) e75 (by simp [undef]) ?_
          refine os_rv (r_pt (v := .bool _) rfl rfl) ⟨Same.refl _ _, ?_, frsh_no⟩
          exact rfl
        | 14, _, hoq =>
          obtain rfl : _ = o := Option.some.inj hoq
          have hs0 := hs
          replace hB := hB.tr0 hs
          replace hb2 := hb2.tr0 hs
          replace hb3 := hb3.tr0 hs
          replace hb15 := hb15.tr0 hs
          replace hb19 := hb19.tr0 hs
          replace hb5 := hb5.tr0 hs
          replace hB1 := hB1.tr0 hs
          replace hB0 := hB0.tr0 hs
          replace hB2 := hB2.tr0 hs
          replace hb6 := hb6.tr0 hs
          replace hb7 := hb7.tr0 hs
          replace hB3 := hB3.tr0 hs
          replace hb8 := hb8.tr0 hs
          replace hb9 := hb9.tr0 hs
          replace hb10 := hb10.tr0 hs
          replace hB4 := hB4.tr0 hs
          replace hb11 := hb11.tr0 hs
          replace hb12 := hb12.tr0 hs
          clear hs
          have d13 : gg 76 = .bool true := hd 13 (dep_of (by kernel_rfl))
          have e76 := d13
          refine ⟨fun _ => ?_, fun hw => Bool.noConfusion (show true = false from hw)⟩
          refine os_know 76 (.bool true) e76 (by simp [undef]) ?_
          refine os_rv (r_mv (v := .bool _) rfl) ⟨Same.refl _ _, ?_, frsh_no⟩
          exact rfl
        | 15, _, hoq =>
          obtain rfl : _ = o := Option.some.inj hoq
          have hs0 := hs
          replace hB := hB.tr0 hs
          replace hb2 := hb2.tr0 hs
          replace hb3 := hb3.tr0 hs
          replace hb15 := hb15.tr0 hs
          replace hb19 := hb19.tr0 hs
          replace hb5 := hb5.tr0 hs
          replace hB1 := hB1.tr0 hs
          replace hB0 := hB0.tr0 hs
          replace hB2 := hB2.tr0 hs
          replace hb6 := hb6.tr0 hs
          replace hb7 := hb7.tr0 hs
          replace hB3 := hB3.tr0 hs
          replace hb8 := hb8.tr0 hs
          replace hb9 := hb9.tr0 hs
          replace hb10 := hb10.tr0 hs
          replace hB4 := hB4.tr0 hs
          replace hb11 := hb11.tr0 hs
          replace hb12 := hb12.tr0 hs
          clear hs
          have d14 : gg 77 = .bool true := hd 14 (dep_of (by kernel_rfl))
          have e77 := d14
          refine guard_case 77 true rfl e77 (fun _ => ?_) (fun h => absurd h (by decide))
          refine os_know 77 (.bool true) e77 (by simp [undef]) ?_
          refine os_rv (r_ldS Tryd.underlying28 rfl rfl hb8.range0 sz28) ⟨Same.refl _ _, ?_, frsh_no⟩
          exact rfl
        | 16, _, hoq =>
          obtain rfl : _ = o := Option.some.inj hoq
          have hs0 := hs
          replace hB := hB.tr0 hs
          replace hb2 := hb2.tr0 hs
          replace hb3 := hb3.tr0 hs
          replace hb15 := hb15.tr0 hs
          replace hb19 := hb19.tr0 hs
          replace hb5 := hb5.tr0 hs
          replace hB1 := hB1.tr0 hs
          replace hB0 := hB0.tr0 hs
          replace hB2 := hB2.tr0 hs
          replace hb6 := hb6.tr0 hs
          replace hb7 := hb7.tr0 hs
          replace hB3 := hB3.tr0 hs
          replace hb8 := hb8.tr0 hs
          replace hb9 := hb9.tr0 hs
          replace hb10 := hb10.tr0 hs
          replace hB4 := hB4.tr0 hs
          replace hb11 := hb11.tr0 hs
          replace hb12 := hb12.tr0 hs
          clear hs
          have d14 : gg 77 = .bool true := hd 14 (dep_of (by kernel_rfl))
          have e77 := d14
          refine guard_case 77 true rfl e77 (fun _ => ?_) (fun h => absurd h (by decide))
          refine os_know 77 (.bool true) e77 (by simp [undef]) ?_
          refine os_rv (r_ldS Tryd.underlying28 rfl rfl hb11.range0 sz28) ⟨Same.refl _ _, ?_, frsh_no⟩
          exact rfl
        | 17, _, hoq =>
          obtain rfl : _ = o := Option.some.inj hoq
          have hs0 := hs
          replace hB := hB.tr0 hs
          replace hb2 := hb2.tr0 hs
          replace hb3 := hb3.tr0 hs
          replace hb15 := hb15.tr0 hs
          replace hb19 := hb19.tr0 hs
          replace hb5 := hb5.tr0 hs
          replace hB1 := hB1.tr0 hs
          replace hB0 := hB0.tr0 hs
          replace hB2 := hB2.tr0 hs
          replace hb6 := hb6.tr0 hs
          replace hb7 := hb7.tr0 hs
          replace hB3 := hB3.tr0 hs
          replace hb8 := hb8.tr0 hs
          replace hb9 := hb9.tr0 hs
          replace hb10 := hb10.tr0 hs
          replace hB4 := hB4.tr0 hs
          replace hb11 := hb11.tr0 hs
          replace hb12 := hb12.tr0 hs
          clear hs
          have d14 : gg 77 = .bool true := hd 14 (dep_of (by kernel_rfl))
          have e77 := d14
          have d15 : gg 78 = .agg #[.slice AC (canF l fs gr).length (canF l fs gr).length] := hd 15 (dep_of (by kernel_rfl))
          have e78 := d15
          have d16 : gg 79 = .agg #[.slice AD (canF l fs (canF l fs gr)).length (canF l fs (canF l fs gr)).length] := hd 16 (dep_of (by kernel_rfl))
          have e79 := d16
          refine guard_case 77 true rfl e77 (fun _ => ?_) (fun h => absurd h (by decide))
          refine os_know 77 (.bool true) e77 (by simp [undef]) ?_
          refine os_know 78 (.agg #[.slice AC (canF l fs gr).length (canF l fs gr).length]) e78 (by simp [undef]) ?_
          refine os_know 79 (.agg #[.slice AD (canF l fs (canF l fs gr)).length (canF l fs (canF l fs gr)).length]) e79 (by simp [undef]) ?_
          refine os_cl fn15 (same_any AC AD _ _ _ _ _ _ wx (hNC.mono hB3) (hND.mono hB4) rfl rfl hid2.symm) rfl (fun e' w2 hr => ?_)
          obtain ⟨rfl, hs⟩ := hr
          exact ⟨_, rfl, Same.of_bel hs, rfl, frsh_no⟩
        | 18, _, hoq =>
          obtain rfl : _ = o := Option.some.inj hoq
          have hs0 := hs
          replace hB := hB.tr0 hs
          replace hb2 := hb2.tr0 hs
          replace hb3 := hb3.tr0 hs
          replace hb15 := hb15.tr0 hs
          replace hb19 := hb19.tr0 hs
          replace hb5 := hb5.tr0 hs
          replace hB1 := hB1.tr0 hs
          replace hB0 := hB0.tr0 hs
          replace hB2 := hB2.tr0 hs
          replace hb6 := hb6.tr0 hs
          replace hb7 := hb7.tr0 hs
          replace hB3 := hB3.tr0 hs
          replace hb8 := hb8.tr0 hs
          replace hb9 := hb9.tr0 hs
          replace hb10 := hb10.tr0 hs
          replace hB4 := hB4.tr0 hs
          replace hb11 := hb11.tr0 hs
          replace hb12 := hb12.tr0 hs
          clear hs
          have d14 : gg 77 = .bool true := hd 14 (dep_of (by kernel_rfl))
          have e77 := d14
          have d17 : gg 80 = .bool true := hd 17 (dep_of (by kernel_rfl))
          have e80 := d17
          refine ⟨fun _ => ?_, fun hw => Bool.noConfusion (show true = false from hw)⟩
          refine os_know 77 (.bool true) e77 (by simp [undef]) ?_
          refine os_know 80 (.bool true) e80 (by simp [undef]) ?_
          refine os_rv (r_pt (v := .bool _) rfl rfl) ⟨Same.refl _ _, ?_, frsh_no⟩
          exact rfl
        | _ + 19, hix, _ => exact absurd hix (by omega)
      · intro gg w28 hs hR hdis
        have hs0 := hs
        replace hB := hB.tr0 hs
        replace hb2 := hb2.tr0 hs
        replace hb3 := hb3.tr0 hs
        replace hb15 := hb15.tr0 hs
        replace hb19 := hb19.tr0 hs
        replace hb5 := hb5.tr0 hs
        replace hB1 := hB1.tr0 hs
        replace hB0 := hB0.tr0 hs
        replace hB2 := hB2.tr0 hs
        replace hb6 := hb6.tr0 hs
        replace hb7 := hb7.tr0 hs
        replace hB3 := hB3.tr0 hs
        replace hb8 := hb8.tr0 hs
        replace hb9 := hb9.tr0 hs
        replace hb10 := hb10.tr0 hs
        replace hB4 := hB4.tr0 hs
        replace hb11 := hb11.tr0 hs
        replace hb12 := hb12.tr0 hs
        clear hs
        have d18 : gg 81 = .bool true := hR 18 (by decide)
        have e81 := d18
        refine wl_know 81 (.bool true) e81 (by simp [undef]) ?_
        refine wl (r_as (v := .bool _) rfl) ?_
        refine x_nil ?_
        refine e_S ?_
        refine c_ret ?_
        refine fin1 (.inl rfl) rfl rfl ?_
        exact ⟨rfl, hB⟩
end Go.Proofs.YtdegobbnidddjaaDoor
