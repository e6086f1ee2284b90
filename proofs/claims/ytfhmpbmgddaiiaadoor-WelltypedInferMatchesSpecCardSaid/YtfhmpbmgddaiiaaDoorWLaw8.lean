/- What these functions of the program compute, at every world: glosswright/glosswrightlaw3.WelltypedInferMatchesSpec. -/
import Derived.Test.YtfhmpbmgddaiiaaDoorU
import Derived.Test.YtfhmpbmgddaiiaaDoorSBase
import Derived.Test.YtfhmpbmgddaiiaaDoorEng6
import Derived.Test.YtfhmpbmgddaiiaaDoorLub
import Derived.Test.YtfhmpbmgddaiiaaDoorWLaw
namespace Go.Proofs.YtfhmpbmgddaiiaaDoor
open Go.RowKit
def looseG : List Nd := [⟨0, [(0, 1)]⟩, ⟨2, []⟩]
theorem loose_gl : GL pairT pairF looseG := by
  have h0 : Rch looseG 0 := .zero
  have hu : (-1 : Int) = unrI looseG := unr_is (.inl ⟨rfl, fun i hi => by
    have hi3 : i < 2 := hi
    match i, hi3 with
    | 0, _ => exact h0
    | 1, _ => exact Rch.step (x := (0, 1)) h0 dE dE⟩)
  refine gl_of ?_
  rw [lt_zero (by rw [pair_fault]) (by decide +kernel) om]
theorem loose_dl : DL looseG [0] [] [0, 1] := by
  have e0 : succN looseG 0 = [1] := by decide +kernel
  have e1 : succN looseG 1 = [] := by decide +kernel
  refine .new dE (o1 := [0, 1]) ?_ .nil
  rw [e0]
  exact .new dE (o1 := [0, 1]) (by rw [e1]; exact .nil) .nil
theorem loose_inf {ok : Bool} {f : Fl} {X : List Nd} (h : InfS pairT pairF looseG ok f X) : ok = true ∧ f = (0, 0) ∧ ∃ x, X = [⟨1, [(0, 1)]⟩, x] := by
  rcases h with ⟨h, _⟩ | ⟨_, hf, o, hd, h⟩
  · exact absurd (by rw [loose_gl.zero]) h
  have e := hd.det loose_dl
  subst e
  have hr : (raiseL pairT (dem pairF (canG looseG [0, 1])) (tyO (canG looseG [0, 1]))).map (fun T => (T 0, T 1)) = some (1, 2) := by decide +kernel
  rcases h with ⟨T, h1, h2, rfl⟩ | ⟨h1, _⟩
  · rw [h1] at hr
    have hr := Option.some.inj hr
    simp only [Prod.mk.injEq] at hr
    refine ⟨h2, hf, ⟨((T 1 : Nat) : Int), []⟩, ?_⟩
    have e : reG (canG looseG [0, 1]) T = [⟨((T 0 : Nat) : Int), [(0, 1)]⟩, ⟨((T 1 : Nat) : Int), []⟩] := by
      have e1 : (nd (canG looseG [0, 1]) 0).ln = [(0, 1)] := by decide +kernel
      have e2 : (nd (canG looseG [0, 1]) 1).ln = [] := by decide +kernel
      show [Nd.mk _ (nd (canG looseG [0, 1]) 0).ln, Nd.mk _ (nd (canG looseG [0, 1]) 1).ln] = _
      rw [e1, e2]
    rw [e, hr.1]; rfl
  · rw [h1] at hr; cases hr
theorem infl_any {w : World} {A B G : Option Addr} (hTab : TabIn w) (hT : TypesIn w A pairT) (hF : FeatsIn w B pairF) (hG : NodesIn w G looseG) : Calls Tryd.prog 5 #[.agg #[.slice A 4 4, .slice B 2 2], .agg #[.slice G 2 2]] w fun e w' => (∃ (gb go cA : Nat), e = .returned (.tuple #[.agg #[.slice (some ⟨gb, go, none⟩) 2 cA], .bool true, .agg #[.int .i64 0, .int .i64 0]]) ∧ gb < w'.heap.size ∧ w'.cell? ⟨gb, go, none⟩ = some (.int .i64 1)) ∧ Bel w w' := by
  refine (infer_any A B G 4 2 2 pairT pairF looseG w hTab hT hF hG).mono fun e w' h => ?_
  obtain ⟨⟨GA, X, cX, ok, f, he, hN, hU⟩, hs⟩ := h
  obtain ⟨h1, h2, x, h3⟩ := loose_inf hU
  subst h1 h2 h3
  obtain ⟨gb, go, e1, hl, hc⟩ := (hN _ (FrSame.refl _ _)).2 (by simp)
  subst e1
  obtain ⟨_, _, h4, _⟩ := hc 0 (by simp)
  exact ⟨⟨gb, go, cX, he, hl, h4 0 _ rfl⟩, hs⟩
theorem cell_keep {w w2 : World} {b b' o : Nat} {v : Value} (hs : Same [b] w w2) (hl : b' < w.heap.size) (hne : b' ≠ b) (h : w.cell? ⟨b', o, none⟩ = some v) : w2.cell? ⟨b', o, none⟩ = some v := by
  have h1 := hs.blk b' hl (by simpa using hne)
  unfold World.cell? at h ⊢
  simpa only [h1] using h
theorem keepI {w w2 : World} {b gb go t : Nat} {cs : Array Value} {v : Value} (hs : Same [b] w w2) (hl : gb < w.heap.size) (hb : Blk w b t cs) (hne : ∀ j : Nat, ¬ cs[j]? = some v) (h : w.cell? ⟨gb, go, none⟩ = some v) : w2.cell? ⟨gb, go, none⟩ = some v := by
  refine cell_keep hs hl (fun e => ?_) h
  subst e
  rw [cell_of_row w gb go cs t (0, 0) hb] at h
  exact hne go h
theorem no_sl {A : Option Addr} {m c : Nat} : ∀ j : Nat, ¬ (#[Value.slice A m c])[j]? = some (Value.int .i64 1) := fun j hj => by
  match j, hj with
  | 0, hj => cases hj
  | n + 1, hj => simp at hj
theorem no_zz : ∀ j : Nat, ¬ (#[Value.int .i64 0, Value.int .i64 0])[j]? = some (Value.int .i64 1) := fun j hj => by
  match j, hj with
  | 0, hj => have := Option.some.inj hj; injection this with _ h; exact absurd h dE
  | 1, hj => have := Option.some.inj hj; injection this with _ h; exact absurd h dE
  | n + 2, hj => simp at hj
theorem cell_keep0 {w w2 : World} {b o : Nat} {v : Value} (hs : Same [] w w2) (hl : b < w.heap.size) (h : w.cell? ⟨b, o, none⟩ = some v) : w2.cell? ⟨b, o, none⟩ = some v := by
  have h1 := hs.blk b hl (by simp)
  unfold World.cell? at h ⊢
  simpa only [h1] using h
theorem fd35 : (Tryd.prog.fieldsOf 35).toList.map (fun f => (f.name == "_", f.type, f.offset)) = [(false, 3, 0), (false, 3, 1)] := by kernel_rfl
theorem fn8 : callable Tryd.prog 8 = true := by kernel_rfl
theorem ft35 : Tryd.prog.underlying 35 = some (.struct (Tryd.prog.fieldsOf 35)) := by kernel_rfl
set_option maxRecDepth 100000 in
set_option maxHeartbeats 8000000 in
theorem law8_any (A B G : Option Addr) (c d cg : Nat) (l : List Ty) (fs : List Ft) (gr : List Nd) (w : World) (hTab : TabIn w) (hcl : l.length ≤ c) (hdl : fs.length ≤ d) (hT : TypesIn w A l) (hF : FeatsIn w B fs) (hG1 : NodesIn w G gr) : Calls Tryd.prog 3 #[.agg #[.slice A l.length c, .slice B fs.length d], .agg #[.slice G gr.length cg]] w fun e w' => e = .returned (.bool true) ∧ Bel w w' := by
 refine enter Tryd.func3 Tryd.ntmps3 rfl (Nat.le_of_ble_eq_true rfl) ?_
 have hB : Bel w w := Below.refl _ _
 refine c_seq (c_region ?_)
 refine wl_bx (v := .agg #[_, _]) (cs := #[_, _]) rfl rfl (fun b2 w1 hb2 hs hr => ?_)
 have lo2 := nLT (Bel.size hB) hr
 replace hB := hB.tr0 hs
 clear hs
 clear hr
 refine wl_bx (v := .agg #[_]) (cs := #[_]) rfl rfl (fun b3 w2 hb3 hs hr => ?_)
 have or_b2_b3 : b2 < b3 := nLL hb2.lt hr
 have lo3 := nLT (Bel.size hB) hr
 replace hB := hB.tr0 hs
 replace hb2 := hb2.tr0 hs
 clear hs
 clear hr
 refine waB rfl (x_nil (e_S (c_seq (c_region (wl (r_bd2 (v0 := .int _ _) (v1 := .int _ _) (fun v0 v1 => #[v0, v1]) rfl rfl kR) ?_)))))
 refine wl_bs (cs := #[_, _]) [(0, .agg _)] rfl U31 sz30 ze30 dE dE kR rfl (fun b16 w3 hb16 hs hr => ?_)
 have or_b2_b16 : b2 < b16 := nLL hb2.lt hr
 have or_b3_b16 : b3 < b16 := nLL hb3.lt hr
 have lo16 := nLT (Bel.size hB) hr
 replace hB := hB.tr0 hs
 replace hb2 := hb2.tr0 hs
 replace hb3 := hb3.tr0 hs
 clear hs
 clear hr
 refine wl (r_bd1 (v0 := .slice _ _ _) (fun v0 => #[.int .i64 0, v0]) rfl kR) (wl (r_bd1 (v0 := .int _ _) (fun v0 => #[v0, .slice none 0 0]) rfl kR) ?_)
 refine wl_bs (cs := #[_, _, _, _]) [(0, .agg _), (1, .agg _)] rfl U26 sz33 ze33 dE dE kR rfl (fun b19 w4 hb19 hs hr => ?_)
 have or_b2_b19 : b2 < b19 := nLL hb2.lt hr
 have or_b3_b19 : b3 < b19 := nLL hb3.lt hr
 have or_b16_b19 : b16 < b19 := nLL hb16.lt hr
 have lo19 := nLT (Bel.size hB) hr
 replace hB := hB.tr0 hs
 replace hb2 := hb2.tr0 hs
 replace hb3 := hb3.tr0 hs
 replace hb16 := hb16.tr0 hs
 clear hs
 clear hr
 refine wl (r_bd1 (v0 := .slice _ _ _) (fun v0 => #[v0]) rfl kR) ?_
 refine wl_al (cs := #[.slice none 0 0]) ze28 rfl (fun b5 w5 hb5 hs hr => ?_)
 have or_b2_b5 : b2 < b5 := nLL hb2.lt hr
 have or_b3_b5 : b3 < b5 := nLL hb3.lt hr
 have or_b16_b5 : b16 < b5 := nLL hb16.lt hr
 have or_b19_b5 : b19 < b5 := nLL hb19.lt hr
 have lo5 := nLT (Bel.size hB) hr
 replace hB := hB.tr0 hs
 replace hb2 := hb2.tr0 hs
 replace hb3 := hb3.tr0 hs
 replace hb16 := hb16.tr0 hs
 replace hb19 := hb19.tr0 hs
 clear hs
 clear hr
 refine wl_stW hb5 rfl rfl sz28_SFind rfl oneA (fun w6 hq hs => ?_)
 replace hB := hB.tr1 hs lo5
 replace hb2 := hb2.tr1 hs om
 replace hb3 := hb3.tr1 hs om
 replace hb16 := hb16.tr1 hs om
 replace hb19 := hb19.tr1 hs om
 clear hs
 replace hb5 := hq
 refine x_nil (e_S (c_seq (c_seq ?_)))
 have hLN : NodesIn w6 (some ⟨b19, 0, none⟩) looseG := nodes_of_blk (l := looseG) hb19 (.cons (links_of_blk [(0, 1)] hb16 rfl dE) (.cons (links_nil _ _) .nil)) dE
 have hBL : Bel w6 w6 := Below.refl _ _
 refine c_monoUO 12 [22, 23, 24, 21, 25, 26, 27, 6, 8, 7] [] (fun ix => Nat.beq ix 9 || Nat.beq ix 11) (fun st ix v la ha wv => match ix with | 0 => ∃ A0 B0 : Option Addr, v = .agg #[.slice A0 4 4, .slice B0 2 2] ∧ (st 9 = false → st 11 = false → TypesIn wv A0 pairT ∧ FeatsIn wv B0 pairF) | 1 => v = .agg #[.slice (some ⟨b19, 0, none⟩) 2 2] | 2 => ∃ gb go cW : Nat, v = .tuple #[.agg #[.slice (some ⟨gb, go, none⟩) 2 cW], .bool true, .agg #[.int .i64 0, .int .i64 0]] ∧ gb < wv.heap.size ∧ wv.cell? ⟨gb, go, none⟩ = some (.int .i64 1) | 3 => ∃ gb go cW : Nat, v = .tuple #[.agg #[.slice (some ⟨gb, go, none⟩) 2 cW], .bool true, .agg #[.int .i64 0, .int .i64 0]] ∧ gb < wv.heap.size ∧ wv.cell? ⟨gb, go, none⟩ = some (.int .i64 1) | 4 => ∃ gb go cW : Nat, v = .agg #[.slice (some ⟨gb, go, none⟩) 2 cW] ∧ gb < wv.heap.size ∧ wv.cell? ⟨gb, go, none⟩ = some (.int .i64 1) | 5 => v = .bool true | 6 => v = .agg #[.int .i64 0, .int .i64 0] | 7 => ∃ b : Nat, v = .pointer (some ⟨b, 0, none⟩) ∧ w6.heap.size ≤ b ∧ (st 9 = false → Blk wv b 28 #[.slice none 0 0]) ∧ (st 9 = true → ∃ gb go cW : Nat, Blk wv b 28 #[.slice (some ⟨gb, go, none⟩) 2 cW] ∧ gb < wv.heap.size ∧ wv.cell? ⟨gb, go, none⟩ = some (.int .i64 1)) | 8 => ∃ b : Nat, v = .pointer (some ⟨b, 0, none⟩) ∧ w6.heap.size ≤ b ∧ Blk wv b 35 #[.int .i64 0, .int .i64 0] | 9 => True | 10 => v = .bool true | 11 => True | _ => True) kR kR kR ?_ ?_ ?_
 ·
  intro st ix v la ha wv wv2 h hs
  match ix, h with
  | 0, h =>
   obtain ⟨A0, B0, e22, hTF⟩ := (show ∃ A0 B0 : Option Addr, v = .agg #[.slice A0 4 4, .slice B0 2 2] ∧ (st 9 = false → st 11 = false → TypesIn wv A0 pairT ∧ FeatsIn wv B0 pairF) from h)
   exact ⟨A0, B0, e22, fun h h2 => ⟨(hTF h h2).1.mono hs.bel, (hTF h h2).2.mono hs.bel⟩⟩
  | 1, h => exact h
  | 2, h =>
   obtain ⟨gb, go, cW, e24, hlW, hcW⟩ := (show ∃ gb go cW : Nat, v = .tuple #[.agg #[.slice (some ⟨gb, go, none⟩) 2 cW], .bool true, .agg #[.int .i64 0, .int .i64 0]] ∧ gb < wv.heap.size ∧ wv.cell? ⟨gb, go, none⟩ = some (.int .i64 1) from h)
   exact ⟨gb, go, cW, e24, nLL hlW hs.size, cell_keep0 hs hlW hcW⟩
  | 3, h =>
   obtain ⟨gb, go, cW, e21, hlW, hcW⟩ := (show ∃ gb go cW : Nat, v = .tuple #[.agg #[.slice (some ⟨gb, go, none⟩) 2 cW], .bool true, .agg #[.int .i64 0, .int .i64 0]] ∧ gb < wv.heap.size ∧ wv.cell? ⟨gb, go, none⟩ = some (.int .i64 1) from h)
   exact ⟨gb, go, cW, e21, nLL hlW hs.size, cell_keep0 hs hlW hcW⟩
  | 4, h =>
   obtain ⟨gb, go, cW, e25, hlW, hcW⟩ := (show ∃ gb go cW : Nat, v = .agg #[.slice (some ⟨gb, go, none⟩) 2 cW] ∧ gb < wv.heap.size ∧ wv.cell? ⟨gb, go, none⟩ = some (.int .i64 1) from h)
   exact ⟨gb, go, cW, e25, nLL hlW hs.size, cell_keep0 hs hlW hcW⟩
  | 5, h => exact h
  | 6, h => exact h
  | 7, h =>
   obtain ⟨b6, e6, lo6, hz6, hy6⟩ := (show ∃ b : Nat, v = .pointer (some ⟨b, 0, none⟩) ∧ w6.heap.size ≤ b ∧ (st 9 = false → Blk wv b 28 #[.slice none 0 0]) ∧ (st 9 = true → ∃ gb go cW : Nat, Blk wv b 28 #[.slice (some ⟨gb, go, none⟩) 2 cW] ∧ gb < wv.heap.size ∧ wv.cell? ⟨gb, go, none⟩ = some (.int .i64 1)) from h)
   exact ⟨b6, e6, lo6, fun h => (hz6 h).tr0 hs, fun h => by obtain ⟨gb, go, cW, h1, h2, h3⟩ := hy6 h; exact ⟨gb, go, cW, h1.tr0 hs, nLL h2 hs.size, cell_keep0 hs h2 h3⟩⟩
  | 8, h =>
   obtain ⟨b8, e8, lo8, hz8⟩ := (show ∃ b : Nat, v = .pointer (some ⟨b, 0, none⟩) ∧ w6.heap.size ≤ b ∧ Blk wv b 35 #[.int .i64 0, .int .i64 0] from h)
   exact ⟨b8, e8, lo8, hz8.tr0 hs⟩
  | 9, h => exact h
  | 10, h => exact h
  | 11, h => exact h
  | _ + 12, h => exact trivial
 ·
  intro st ix o hix hoq hns gg wx la ha hs hd
  match ix, hix, hoq, hns with
  | 0, _, hoq, hns =>
   obtain rfl := sI hoq
   show OS _ _ _ _ _ _
   have hs0 := hs
   clear hs
   refine os_cl fn6 (pair_any wx) rfl (fun e' w2 hr => ?_)
   obtain ⟨⟨A0, B0, rfl, hTp, hFp⟩, hs⟩ := hr
   exact ⟨_, rfl, Same.of_bel hs, ⟨_, _, rfl, fun _ _ => ⟨hTp, hFp⟩⟩⟩
  | 1, _, hoq, hns =>
   obtain rfl := sI hoq
   show OS _ _ _ _ _ _
   have hs0 := hs
   replace hb5 := hb5.tr0 hs
   clear hs
   refine os_rv (r_ldS U28 rfl rfl hb5.range0 sz28_SFind) ⟨Same.refl _ _, ?_⟩
   exact rfl
  | 2, _, hoq, hns =>
   obtain rfl := sI hoq
   show OS _ _ _ _ _ _
   have hs0 := hs
   replace hB := hB.tr0 hs
   replace hBL := hBL.tr0 hs
   clear hs
   have d0 : ∃ A0 B0 : Option Addr, gg 22 = .agg #[.slice A0 4 4, .slice B0 2 2] ∧ (st 9 = false → st 11 = false → TypesIn wx A0 pairT ∧ FeatsIn wx B0 pairF) := hd 0 _ (dep_of kR) rfl
   obtain ⟨A0, B0, e22, hTF⟩ := d0
   have d1 : gg 23 = .agg #[.slice (some ⟨b19, 0, none⟩) 2 2] := hd 1 _ (dep_of kR) rfl
   have e23 := d1
   refine os_know 22 (.agg #[.slice A0 4 4, .slice B0 2 2]) e22 nu (os_know 23 (.agg #[.slice (some ⟨b19, 0, none⟩) 2 2]) e23 nu ?_)
   refine os_cl fn5 (infl_any (hTab.mono hB) (hTF (hns 9 rfl kR) (hns 11 rfl kR)).1 (hTF (hns 9 rfl kR) (hns 11 rfl kR)).2 (hLN.mono hBL)) rfl (fun e' w2 hr => ?_)
   obtain ⟨⟨gb, go, cW, rfl, hlW, hcW⟩, hs⟩ := hr
   exact ⟨_, rfl, Same.of_bel hs, ⟨_, _, _, rfl, hlW, hcW⟩⟩
  | 3, _, hoq, hns =>
   obtain rfl := sI hoq
   show OS _ _ _ _ _ _
   have hs0 := hs
   clear hs
   have d2 : ∃ gb go cW : Nat, gg 24 = .tuple #[.agg #[.slice (some ⟨gb, go, none⟩) 2 cW], .bool true, .agg #[.int .i64 0, .int .i64 0]] ∧ gb < wx.heap.size ∧ wx.cell? ⟨gb, go, none⟩ = some (.int .i64 1) := hd 2 _ (dep_of kR) rfl
   obtain ⟨gb, go, cW, e24, hlW, hcW⟩ := d2
   refine os_know 24 (.tuple #[.agg #[.slice (some ⟨gb, go, none⟩) 2 cW], .bool true, .agg #[.int .i64 0, .int .i64 0]]) e24 nu ?_
   refine os_rv (r_mv (v := .tuple _) rfl) ⟨Same.refl _ _, ?_⟩
   exact ⟨_, _, _, rfl, hlW, hcW⟩
  | 4, _, hoq, hns =>
   obtain rfl := sI hoq
   show OS _ _ _ _ _ _
   have hs0 := hs
   clear hs
   have d3 : ∃ gb go cW : Nat, gg 21 = .tuple #[.agg #[.slice (some ⟨gb, go, none⟩) 2 cW], .bool true, .agg #[.int .i64 0, .int .i64 0]] ∧ gb < wx.heap.size ∧ wx.cell? ⟨gb, go, none⟩ = some (.int .i64 1) := hd 3 _ (dep_of kR) rfl
   obtain ⟨gb, go, cW, e21, hlW, hcW⟩ := d3
   refine os_know 21 (.tuple #[.agg #[.slice (some ⟨gb, go, none⟩) 2 cW], .bool true, .agg #[.int .i64 0, .int .i64 0]]) e21 nu ?_
   refine os_rv (r_ex (v := .agg _) rfl rfl) ⟨Same.refl _ _, ?_⟩
   exact ⟨_, _, _, rfl, hlW, hcW⟩
  | 5, _, hoq, hns =>
   obtain rfl := sI hoq
   show OS _ _ _ _ _ _
   have hs0 := hs
   clear hs
   have d3 : ∃ gb go cW : Nat, gg 21 = .tuple #[.agg #[.slice (some ⟨gb, go, none⟩) 2 cW], .bool true, .agg #[.int .i64 0, .int .i64 0]] ∧ gb < wx.heap.size ∧ wx.cell? ⟨gb, go, none⟩ = some (.int .i64 1) := hd 3 _ (dep_of kR) rfl
   obtain ⟨gb, go, cW, e21, hlW, hcW⟩ := d3
   refine os_know 21 (.tuple #[.agg #[.slice (some ⟨gb, go, none⟩) 2 cW], .bool true, .agg #[.int .i64 0, .int .i64 0]]) e21 nu ?_
   refine os_rv (r_ex (v := .bool _) rfl rfl) ⟨Same.refl _ _, ?_⟩
   exact rfl
  | 6, _, hoq, hns =>
   obtain rfl := sI hoq
   show OS _ _ _ _ _ _
   have hs0 := hs
   clear hs
   have d3 : ∃ gb go cW : Nat, gg 21 = .tuple #[.agg #[.slice (some ⟨gb, go, none⟩) 2 cW], .bool true, .agg #[.int .i64 0, .int .i64 0]] ∧ gb < wx.heap.size ∧ wx.cell? ⟨gb, go, none⟩ = some (.int .i64 1) := hd 3 _ (dep_of kR) rfl
   obtain ⟨gb, go, cW, e21, hlW, hcW⟩ := d3
   refine os_know 21 (.tuple #[.agg #[.slice (some ⟨gb, go, none⟩) 2 cW], .bool true, .agg #[.int .i64 0, .int .i64 0]]) e21 nu ?_
   refine os_rv (r_ex (v := .agg _) rfl rfl) ⟨Same.refl _ _, ?_⟩
   exact rfl
  | 7, _, hoq, hns =>
   obtain rfl := sI hoq
   show OS _ _ _ _ _ _
   have hs0 := hs
   clear hs
   refine os_wl (fun ops Q K => ?_)
   refine wl_al (cs := #[.slice none 0 0]) ze28 rfl (fun b6 w1 hb6 hs hr => ?_)
   exact K _ _ ⟨hs, _, rfl, nLT hs0.size hr, fun _ => hb6, fun h => absurd (hns 9 rfl kR) (by rw [h]; decide)⟩
  | 8, _, hoq, hns =>
   obtain rfl := sI hoq
   show OS _ _ _ _ _ _
   have hs0 := hs
   clear hs
   refine os_wl (fun ops Q K => ?_)
   refine wl_al (cs := #[.int .i64 0, .int .i64 0]) ze35_GLoose rfl (fun b8 w1 hb8 hs hr => ?_)
   exact K _ _ ⟨hs, _, rfl, nLT hs0.size hr, hb8⟩
  | 9, _, hoq, hns =>
   obtain rfl := sI hoq
   show st 9 = false → (∀ j k, j ∈ _ → k ∈ _ → j ≠ k → ha j ≤ la k ∨ ha k ≤ la j) → OS _ _ _ _ _ _
   intro hn hI
   have hs0 := hs
   clear hs
   have d4 : ∃ gb go cW : Nat, gg 25 = .agg #[.slice (some ⟨gb, go, none⟩) 2 cW] ∧ gb < wx.heap.size ∧ wx.cell? ⟨gb, go, none⟩ = some (.int .i64 1) := hd 4 _ (dep_of kR) rfl
   obtain ⟨gb, go, cW, e25, hlW, hcW⟩ := d4
   have d7 : ∃ b : Nat, gg 6 = .pointer (some ⟨b, 0, none⟩) ∧ w6.heap.size ≤ b ∧ (st 9 = false → Blk wx b 28 #[.slice none 0 0]) ∧ (st 9 = true → ∃ gb go cW : Nat, Blk wx b 28 #[.slice (some ⟨gb, go, none⟩) 2 cW] ∧ gb < wx.heap.size ∧ wx.cell? ⟨gb, go, none⟩ = some (.int .i64 1)) := hd 7 _ (dep_of kR) rfl
   obtain ⟨b6, e6, lo6, hz6, hy6⟩ := d7
   refine os_know 25 (.agg #[.slice (some ⟨gb, go, none⟩) 2 cW]) e25 nu (os_know 6 (.pointer (some ⟨b6, 0, none⟩)) e6 nu ?_)
   have hzb := hz6 hn
   refine os_wl0 (fun ops Q K => ?_)
   refine wl_stW hzb rfl rfl sz28_SFind rfl oneA (fun w2 hq hs2 => ?_)
   have K2 := K w2
   refine K2 ⟨hs0.freshL hs2 (fun g hg => by rw [List.mem_singleton.1 hg]; exact .inr lo6), hs2.size, ?_, fun kx ox hne hox h => ?_⟩
   ·
    exact trivial
   match kx, hne, hox, h with
   | 0, _, hox, h =>
    obtain rfl : _ = ox := Option.some.inj hox
    obtain ⟨A0x, B0x, ex, hTFx⟩ := (show ∃ A0 B0 : Option Addr, gg 22 = .agg #[.slice A0 4 4, .slice B0 2 2] ∧ (st 9 = false → st 11 = false → TypesIn wx A0 pairT ∧ FeatsIn wx B0 pairF) from h)
    exact ⟨A0x, B0x, ex, fun h => by cases (show true = false from h)⟩
   | 1, _, _, h => exact h
   | 2, _, hox, h =>
    obtain rfl : _ = ox := Option.some.inj hox
    obtain ⟨gbx, gox, cWx, ex, hlx, hcx⟩ := (show ∃ gb go cW : Nat, gg 24 = .tuple #[.agg #[.slice (some ⟨gb, go, none⟩) 2 cW], .bool true, .agg #[.int .i64 0, .int .i64 0]] ∧ gb < wx.heap.size ∧ wx.cell? ⟨gb, go, none⟩ = some (.int .i64 1) from h)
    exact ⟨gbx, gox, cWx, ex, nLL hlx hs2.size, keepI hs2 hlx hzb no_sl hcx⟩
   | 3, _, hox, h =>
    obtain rfl : _ = ox := Option.some.inj hox
    obtain ⟨gbx, gox, cWx, ex, hlx, hcx⟩ := (show ∃ gb go cW : Nat, gg 21 = .tuple #[.agg #[.slice (some ⟨gb, go, none⟩) 2 cW], .bool true, .agg #[.int .i64 0, .int .i64 0]] ∧ gb < wx.heap.size ∧ wx.cell? ⟨gb, go, none⟩ = some (.int .i64 1) from h)
    exact ⟨gbx, gox, cWx, ex, nLL hlx hs2.size, keepI hs2 hlx hzb no_sl hcx⟩
   | 4, _, hox, h =>
    obtain rfl : _ = ox := Option.some.inj hox
    obtain ⟨gbx, gox, cWx, ex, hlx, hcx⟩ := (show ∃ gb go cW : Nat, gg 25 = .agg #[.slice (some ⟨gb, go, none⟩) 2 cW] ∧ gb < wx.heap.size ∧ wx.cell? ⟨gb, go, none⟩ = some (.int .i64 1) from h)
    exact ⟨gbx, gox, cWx, ex, nLL hlx hs2.size, keepI hs2 hlx hzb no_sl hcx⟩
   | 5, _, _, h => exact h
   | 6, _, _, h => exact h
   | 7, _, hox, h =>
    obtain rfl : _ = ox := Option.some.inj hox
    obtain ⟨b6x, e6x, lo6x, hz6x, hy6x⟩ := (show ∃ b : Nat, gg 6 = .pointer (some ⟨b, 0, none⟩) ∧ w6.heap.size ≤ b ∧ (st 9 = false → Blk wx b 28 #[.slice none 0 0]) ∧ (st 9 = true → ∃ gb go cW : Nat, Blk wx b 28 #[.slice (some ⟨gb, go, none⟩) 2 cW] ∧ gb < wx.heap.size ∧ wx.cell? ⟨gb, go, none⟩ = some (.int .i64 1)) from h)
    have hb6x : b6x = b6 := by
      have h := e6x.symm.trans e6
      cases h; rfl
    subst hb6x
    exact ⟨b6x, e6x, lo6x, (fun h => by cases (show true = false from h)), fun _ => ⟨gb, go, cW, hq, nLL hlW hs2.size, keepI hs2 hlW hzb no_sl hcW⟩⟩
   | 8, _, hox, h =>
    obtain rfl : _ = ox := Option.some.inj hox
    obtain ⟨b8x, e8x, lo8x, hz8x⟩ := (show ∃ b : Nat, gg 8 = .pointer (some ⟨b, 0, none⟩) ∧ w6.heap.size ≤ b ∧ Blk wx b 35 #[.int .i64 0, .int .i64 0] from h)
    exact ⟨b8x, e8x, lo8x, hz8x.tr hs2 (fun hm => absurd (blk_type (List.mem_singleton.1 hm ▸ hz8x) hzb) dE)⟩
   | 9, hne, _, _ => exact absurd rfl hne
   | 10, _, _, h => exact h
   | 11, _, _, h => exact h
   | _ + 12, _, _, _ => exact trivial
  | 10, _, hoq, hns =>
   obtain rfl := sI hoq
   show OS _ _ _ _ _ _
   have hs0 := hs
   clear hs
   have d5 : gg 26 = .bool true := hd 5 _ (dep_of kR) rfl
   have e26 := d5
   refine os_know 26 (.bool true) e26 nu ?_
   refine os_rv (r_as (v := .bool _) rfl) ⟨Same.refl _ _, ?_⟩
   exact rfl
  | 11, _, hoq, hns =>
   obtain rfl := sI hoq
   show st 11 = false → (∀ j k, j ∈ _ → k ∈ _ → j ≠ k → ha j ≤ la k ∨ ha k ≤ la j) → OS _ _ _ _ _ _
   intro hn hI
   have hs0 := hs
   clear hs
   have d6 : gg 27 = .agg #[.int .i64 0, .int .i64 0] := hd 6 _ (dep_of kR) rfl
   have e27 := d6
   have d8 : ∃ b : Nat, gg 8 = .pointer (some ⟨b, 0, none⟩) ∧ w6.heap.size ≤ b ∧ Blk wx b 35 #[.int .i64 0, .int .i64 0] := hd 8 _ (dep_of kR) rfl
   obtain ⟨b8, e8, lo8, hz8⟩ := d8
   refine os_know 27 (.agg #[.int .i64 0, .int .i64 0]) e27 nu (os_know 8 (.pointer (some ⟨b8, 0, none⟩)) e8 nu ?_)
   have hzb := hz8
   refine os_wl0 (fun ops Q K => ?_)
   refine wl_stW hzb rfl rfl sz35_GLoose rfl oneA (fun w2 hq hs2 => ?_)
   have K2 := K w2
   refine K2 ⟨hs0.freshL hs2 (fun g hg => by rw [List.mem_singleton.1 hg]; exact .inr lo8), hs2.size, ?_, fun kx ox hne hox h => ?_⟩
   ·
    exact trivial
   match kx, hne, hox, h with
   | 0, _, hox, h =>
    obtain rfl : _ = ox := Option.some.inj hox
    obtain ⟨A0x, B0x, ex, hTFx⟩ := (show ∃ A0 B0 : Option Addr, gg 22 = .agg #[.slice A0 4 4, .slice B0 2 2] ∧ (st 9 = false → st 11 = false → TypesIn wx A0 pairT ∧ FeatsIn wx B0 pairF) from h)
    exact ⟨A0x, B0x, ex, fun _ h => by cases (show true = false from h)⟩
   | 1, _, _, h => exact h
   | 2, _, hox, h =>
    obtain rfl : _ = ox := Option.some.inj hox
    obtain ⟨gbx, gox, cWx, ex, hlx, hcx⟩ := (show ∃ gb go cW : Nat, gg 24 = .tuple #[.agg #[.slice (some ⟨gb, go, none⟩) 2 cW], .bool true, .agg #[.int .i64 0, .int .i64 0]] ∧ gb < wx.heap.size ∧ wx.cell? ⟨gb, go, none⟩ = some (.int .i64 1) from h)
    exact ⟨gbx, gox, cWx, ex, nLL hlx hs2.size, keepI hs2 hlx hzb no_zz hcx⟩
   | 3, _, hox, h =>
    obtain rfl : _ = ox := Option.some.inj hox
    obtain ⟨gbx, gox, cWx, ex, hlx, hcx⟩ := (show ∃ gb go cW : Nat, gg 21 = .tuple #[.agg #[.slice (some ⟨gb, go, none⟩) 2 cW], .bool true, .agg #[.int .i64 0, .int .i64 0]] ∧ gb < wx.heap.size ∧ wx.cell? ⟨gb, go, none⟩ = some (.int .i64 1) from h)
    exact ⟨gbx, gox, cWx, ex, nLL hlx hs2.size, keepI hs2 hlx hzb no_zz hcx⟩
   | 4, _, hox, h =>
    obtain rfl : _ = ox := Option.some.inj hox
    obtain ⟨gbx, gox, cWx, ex, hlx, hcx⟩ := (show ∃ gb go cW : Nat, gg 25 = .agg #[.slice (some ⟨gb, go, none⟩) 2 cW] ∧ gb < wx.heap.size ∧ wx.cell? ⟨gb, go, none⟩ = some (.int .i64 1) from h)
    exact ⟨gbx, gox, cWx, ex, nLL hlx hs2.size, keepI hs2 hlx hzb no_zz hcx⟩
   | 5, _, _, h => exact h
   | 6, _, _, h => exact h
   | 7, _, hox, h =>
    obtain rfl : _ = ox := Option.some.inj hox
    obtain ⟨b6x, e6x, lo6x, hz6x, hy6x⟩ := (show ∃ b : Nat, gg 6 = .pointer (some ⟨b, 0, none⟩) ∧ w6.heap.size ≤ b ∧ (st 9 = false → Blk wx b 28 #[.slice none 0 0]) ∧ (st 9 = true → ∃ gb go cW : Nat, Blk wx b 28 #[.slice (some ⟨gb, go, none⟩) 2 cW] ∧ gb < wx.heap.size ∧ wx.cell? ⟨gb, go, none⟩ = some (.int .i64 1)) from h)
    exact ⟨b6x, e6x, lo6x, fun h => (hz6x h).tr hs2 (fun hm => absurd (blk_type (List.mem_singleton.1 hm ▸ hz6x h) hzb) dE), fun h => by obtain ⟨gb, go, cW, h1, h2, h3⟩ := hy6x h; exact ⟨gb, go, cW, h1.tr hs2 (fun hm => absurd (blk_type (List.mem_singleton.1 hm ▸ h1) hzb) dE), nLL h2 hs2.size, keepI hs2 h2 hzb no_zz h3⟩⟩
   | 8, _, hox, h =>
    obtain rfl : _ = ox := Option.some.inj hox
    obtain ⟨b8x, e8x, lo8x, hz8x⟩ := (show ∃ b : Nat, gg 8 = .pointer (some ⟨b, 0, none⟩) ∧ w6.heap.size ≤ b ∧ Blk wx b 35 #[.int .i64 0, .int .i64 0] from h)
    have hb8x : b8x = b8 := by
      have h := e8x.symm.trans e8
      cases h; rfl
    subst hb8x
    exact ⟨b8x, e8x, lo8x, hq⟩
   | 9, _, _, h => exact h
   | 10, _, _, h => exact h
   | 11, hne, _, _ => exact absurd rfl hne
   | _ + 12, _, _, _ => exact trivial
  | _ + 12, hix, _, _ => exact absurd hix om
 intro st gg w7 la ha hall hs hR hI
 have hs0 := hs
 replace hB := hB.tr0 hs
 replace hb2 := hb2.tr0 hs
 replace hb3 := hb3.tr0 hs
 replace hb5 := hb5.tr0 hs
 replace hBL := hBL.tr0 hs
 clear hs
 have d7 : ∃ b : Nat, gg 6 = .pointer (some ⟨b, 0, none⟩) ∧ w6.heap.size ≤ b ∧ (st 9 = false → Blk w7 b 28 #[.slice none 0 0]) ∧ (st 9 = true → ∃ gb go cW : Nat, Blk w7 b 28 #[.slice (some ⟨gb, go, none⟩) 2 cW] ∧ gb < w7.heap.size ∧ w7.cell? ⟨gb, go, none⟩ = some (.int .i64 1)) := hR 7 _ rfl
 obtain ⟨b6, e6, lo6, hz6, hy6⟩ := d7
 have d10 : gg 7 = .bool true := hR 10 _ rfl
 have e7 := d10
 obtain ⟨gb, go, cW, hb6, hlW, hcW⟩ := hy6 (hall 9 dE rfl)
 have hszB := Bel.size hB
 refine wl_know 6 (.pointer (some ⟨b6, 0, none⟩)) e6 nu (wl_know 7 (.bool true) e7 nu (x_nil (e_S (c_seq (c_region ?_)))))
 refine wmB rfl (wl (r_not rfl) (wl (r_mv (v := .bool false) rfl) (wl_gd 30 rfl rfl (wl (r_fa U28 sz26 dE rfl rfl rfl) (wl_gd 30 rfl rfl ?_)))))
 refine wl (r_ld1 (v := .slice _ _ _) U26 rfl rfl (hb6.cell rfl)) (wl_gd 30 rfl rfl (wl (r_len U26 rfl) (wl_gd 30 rfl rfl (wl (r_neq rfl rfl) (wl (r_pf (v := .bool _) rfl rfl) ?_)))))
 refine wl (r_mv (v := .bool false) (congrArg Value.bool (decide_eq_false (fun h => h rfl)))) (wl_gd 36 rfl rfl (wl (r_fa U28 sz26 dE rfl rfl rfl) (wl_gd 36 rfl rfl (wl (r_ld1 (v := .slice _ _ _) U26 rfl rfl (hb6.cell rfl)) (wl_gd 36 rfl rfl ?_)))))
 refine wl (r_ia (i := 0) U26 sz33 rfl rfl om rfl) (wl_gd 36 rfl rfl (wl (r_fa U33 sz3_GLoose dE rfl rfl rfl) (wl_gd 36 rfl rfl (wl (r_ld1 (v := .int _ _) U3 rfl rfl hcW) (wl_gd 36 rfl rfl ?_)))))
 refine wl (r_neq rfl rfl) (wl (r_pf (v := .bool _) rfl rfl) (x_nil (e_S ?_)))
 refine c_ifd rfl (fun c43 => ?_) (fun c43 => ?_)
 ·
  exact absurd rfl c43
 refine c_skip (e_S (c_seq (c_region (wl (r_ldS U25 rfl rfl hb2.range0 sz25_SFind) (wl (r_ldS U28 rfl rfl hb3.range0 sz28_SFind) ?_)))))
 refine wl_cl fn5 (infer_any A B G c d cg l fs gr _ (hTab.mono hB) (hT.mono hB) (hF.mono hB) (hG1.mono hB)) rfl (fun e' w8 hr => ?_)
 obtain ⟨⟨AX, XX, cX, okX, fX, rfl, hNX, hIX⟩, hs⟩ := hr
 replace hs := Same.of_bel hs
 replace hB := hB.tr0 hs
 replace hb2 := hb2.tr0 hs
 replace hb3 := hb3.tr0 hs
 replace hb5 := hb5.tr0 hs
 replace hBL := hBL.tr0 hs
 replace hb6 := hb6.tr0 hs
 clear hs
 replace hNX := hNX w8 (FrSame.refl _ _)
 have hBuX : Bel w8 w8 := Below.refl _ _
 refine ⟨_, rfl, ?_⟩
 refine wl (r_mv (v := .tuple _) rfl) (wl (r_ex (v := _) rfl rfl) (wl (r_ex (v := _) rfl rfl) (wl (r_ex (v := _) rfl rfl) ?_)))
 refine wl_al (cs := #[.slice none 0 0]) ze28 rfl (fun b9 w9 hb9 hs hr => ?_)
 have or_b2_b9 : b2 < b9 := nLL hb2.lt hr
 have or_b3_b9 : b3 < b9 := nLL hb3.lt hr
 have or_b5_b9 : b5 < b9 := nLL hb5.lt hr
 have or_b6_b9 : b6 < b9 := nLL hb6.lt hr
 have lo9 := nLT (Bel.size hB) hr
 have lo_hBL_b9 := nLT (Bel.size hBL) hr
 have lo_hBuX_b9 := nLT (Bel.size hBuX) hr
 replace hB := hB.tr0 hs
 replace hb2 := hb2.tr0 hs
 replace hb3 := hb3.tr0 hs
 replace hb5 := hb5.tr0 hs
 replace hBL := hBL.tr0 hs
 replace hb6 := hb6.tr0 hs
 replace hBuX := hBuX.tr0 hs
 clear hs
 clear hr
 refine wl_al (cs := #[.int .i64 0, .int .i64 0]) ze35_GLoose rfl (fun b11 w10 hb11 hs hr => ?_)
 have or_b2_b11 : b2 < b11 := nLL hb2.lt hr
 have or_b3_b11 : b3 < b11 := nLL hb3.lt hr
 have or_b5_b11 : b5 < b11 := nLL hb5.lt hr
 have or_b6_b11 : b6 < b11 := nLL hb6.lt hr
 have or_b9_b11 : b9 < b11 := nLL hb9.lt hr
 have lo11 := nLT (Bel.size hB) hr
 have lo_hBL_b11 := nLT (Bel.size hBL) hr
 have lo_hBuX_b11 := nLT (Bel.size hBuX) hr
 replace hB := hB.tr0 hs
 replace hb2 := hb2.tr0 hs
 replace hb3 := hb3.tr0 hs
 replace hb5 := hb5.tr0 hs
 replace hBL := hBL.tr0 hs
 replace hb6 := hb6.tr0 hs
 replace hBuX := hBuX.tr0 hs
 replace hb9 := hb9.tr0 hs
 clear hs
 clear hr
 refine wl_stW hb9 rfl rfl sz28_SFind rfl oneA (fun w11 hq hs => ?_)
 replace hB := hB.tr1 hs lo9
 replace hb2 := hb2.tr1 hs om
 replace hb3 := hb3.tr1 hs om
 replace hb5 := hb5.tr1 hs om
 replace hBL := hBL.tr1 hs lo_hBL_b9
 replace hb6 := hb6.tr1 hs om
 replace hBuX := hBuX.tr1 hs lo_hBuX_b9
 replace hb11 := hb11.tr1 hs om
 clear hs
 replace hb9 := hq
 refine waB rfl ?_
 refine wl_stW hb11 rfl rfl sz35_GLoose rfl oneA (fun w12 hq hs => ?_)
 replace hB := hB.tr1 hs lo11
 replace hb2 := hb2.tr1 hs om
 replace hb3 := hb3.tr1 hs om
 replace hb5 := hb5.tr1 hs om
 replace hBL := hBL.tr1 hs lo_hBL_b11
 replace hb6 := hb6.tr1 hs om
 replace hBuX := hBuX.tr1 hs lo_hBuX_b11
 replace hb9 := hb9.tr1 hs om
 clear hs
 replace hb11 := hq
 refine x_nil (e_S (c_seq (c_region (wl (r_ldS U25 rfl rfl hb2.range0 sz25_SFind) (wl (r_ldS U28 rfl rfl hb3.range0 sz28_SFind) ?_)))))
 refine wl_cl fn7 (lfa_any A B G c d cg l fs gr _ hcl hdl (hT.mono hB) (hF.mono hB) (hG1.mono hB)) rfl (fun e' w13 hr => ?_)
 obtain ⟨rfl, hs⟩ := hr
 replace hs := Same.of_bel hs
 replace hB := hB.tr0 hs
 replace hb2 := hb2.tr0 hs
 replace hb3 := hb3.tr0 hs
 replace hb5 := hb5.tr0 hs
 replace hBL := hBL.tr0 hs
 replace hb6 := hb6.tr0 hs
 replace hBuX := hBuX.tr0 hs
 replace hb9 := hb9.tr0 hs
 replace hb11 := hb11.tr0 hs
 clear hs
 refine ⟨_, rfl, ?_⟩
 refine wl_al (cs := #[.int .i64 0, .int .i64 0]) ze35_GLoose rfl (fun b12 w14 hb12 hs hr => ?_)
 have or_b2_b12 : b2 < b12 := nLL hb2.lt hr
 have or_b3_b12 : b3 < b12 := nLL hb3.lt hr
 have or_b5_b12 : b5 < b12 := nLL hb5.lt hr
 have or_b6_b12 : b6 < b12 := nLL hb6.lt hr
 have or_b9_b12 : b9 < b12 := nLL hb9.lt hr
 have or_b11_b12 : b11 < b12 := nLL hb11.lt hr
 have lo12 := nLT (Bel.size hB) hr
 have lo_hBL_b12 := nLT (Bel.size hBL) hr
 have lo_hBuX_b12 := nLT (Bel.size hBuX) hr
 replace hB := hB.tr0 hs
 replace hb2 := hb2.tr0 hs
 replace hb3 := hb3.tr0 hs
 replace hb5 := hb5.tr0 hs
 replace hBL := hBL.tr0 hs
 replace hb6 := hb6.tr0 hs
 replace hBuX := hBuX.tr0 hs
 replace hb9 := hb9.tr0 hs
 replace hb11 := hb11.tr0 hs
 clear hs
 clear hr
 refine wl_stW hb12 rfl rfl sz35_GLoose rfl oneA (fun w15 hq hs => ?_)
 replace hB := hB.tr1 hs lo12
 replace hb2 := hb2.tr1 hs om
 replace hb3 := hb3.tr1 hs om
 replace hb5 := hb5.tr1 hs om
 replace hBL := hBL.tr1 hs lo_hBL_b12
 replace hb6 := hb6.tr1 hs om
 replace hBuX := hBuX.tr1 hs lo_hBuX_b12
 replace hb9 := hb9.tr1 hs om
 replace hb11 := hb11.tr1 hs om
 clear hs
 replace hb12 := hq
 refine x_nil (e_S (c_seq (c_seq (c_region (wl (r_fa U35 sz3_GLoose dE rfl rfl rfl) ?_)))))
 refine wl (r_ld1 (v := .int _ _) U3 rfl rfl (hb12.cell rfl)) (wl (r_neq rfl rfl) (x_nil (e_S ?_)))
 refine c_ifd rfl (fun c56 => ?_) (fun c56 => ?_)
 ·
  obtain ⟨rfl, rfl, rfl⟩ : okX = false ∧ fX = looseT l fs gr ∧ XX = [] := by
    rcases hIX with ⟨_, h1, h2, h3⟩ | ⟨h1, _⟩
    · exact ⟨h1, h2, h3⟩
    · exact absurd h1 c56
  refine c_seq (c_region (wl (r_ldS U35 rfl rfl hb11.range0 sz35_GLoose) (wl (r_ldS U35 rfl rfl hb12.range0 sz35_GLoose) (wl (r_eqF Tryd.eqGuardType35 ft35 Tryd.stoodInHeld35 fd35 U3 rfl rfl) (wl (r_mv (v := .bool true) (congrArg Value.bool (decide_eq_true ⟨rfl, rfl⟩))) ?_)))))
  refine wl_gd 60 rfl rfl (wmB rfl (wl_gd 60 rfl rfl (wl (r_not rfl) (wl (r_pt (v := .bool _) rfl rfl) (wl (r_mv (v := .bool true) rfl) ?_)))))
  refine wl_gd 64 rfl rfl (wl (r_fa U28 sz26 dE rfl rfl rfl) (wl_gd 64 rfl rfl (wl (r_ld1 (v := .slice _ _ _) U26 rfl rfl (hb9.cell rfl)) (wl_gd 64 rfl rfl (wl (r_len U26 rfl) ?_)))))
  refine wl_gd 64 rfl rfl (wl (r_eql rfl rfl) (wl (r_pt (v := .bool _) rfl rfl) (wl (r_as (v := .bool true) (congrArg Value.bool (decide_eq_true rfl))) (x_nil (e_S ?_)))))
  refine c_ret (e_Sr (fin1 (.inl rfl) rfl rfl ?_))
  exact ⟨rfl, hB⟩
 have h0 := Decidable.not_not.1 c56
 have hgl := gl_of h0
 refine c_skip (e_S (c_seq (c_region (wl (r_ldS U25 rfl rfl hb2.range0 sz25_SFind) (wl (r_ldS U28 rfl rfl hb3.range0 sz28_SFind) ?_)))))
 refine wl_cl fn8 (inferred_any A B G c d cg l fs gr _ (hT.mono hB) (hF.mono hB) (hG1.mono hB) hgl) rfl (fun e' w16 hr => ?_)
 obtain ⟨⟨AY, XY, cY, okY, rfl, hNY, hIY⟩, hs⟩ := hr
 replace hs := Same.of_bel hs
 replace hB := hB.tr0 hs
 replace hb2 := hb2.tr0 hs
 replace hb3 := hb3.tr0 hs
 replace hb5 := hb5.tr0 hs
 replace hBL := hBL.tr0 hs
 replace hb6 := hb6.tr0 hs
 replace hBuX := hBuX.tr0 hs
 replace hb9 := hb9.tr0 hs
 replace hb11 := hb11.tr0 hs
 replace hb12 := hb12.tr0 hs
 clear hs
 replace hNY := hNY w16 (FrSame.refl _ _)
 have hBuY : Bel w16 w16 := Below.refl _ _
 obtain ⟨hf0, hoY, hXY⟩ := inf_inr h0 hIX hIY
 subst hoY
 subst hXY
 refine ⟨_, rfl, ?_⟩
 refine wl (r_mv (v := .tuple _) rfl) (wl (r_ex (v := _) rfl rfl) (wl (r_ex (v := _) rfl rfl) ?_))
 refine wl_al (cs := #[.slice none 0 0]) ze28 rfl (fun b13 w17 hb13 hs hr => ?_)
 have or_b2_b13 : b2 < b13 := nLL hb2.lt hr
 have or_b3_b13 : b3 < b13 := nLL hb3.lt hr
 have or_b5_b13 : b5 < b13 := nLL hb5.lt hr
 have or_b6_b13 : b6 < b13 := nLL hb6.lt hr
 have or_b9_b13 : b9 < b13 := nLL hb9.lt hr
 have or_b11_b13 : b11 < b13 := nLL hb11.lt hr
 have or_b12_b13 : b12 < b13 := nLL hb12.lt hr
 have lo13 := nLT (Bel.size hB) hr
 have lo_hBL_b13 := nLT (Bel.size hBL) hr
 have lo_hBuX_b13 := nLT (Bel.size hBuX) hr
 have lo_hBuY_b13 := nLT (Bel.size hBuY) hr
 replace hB := hB.tr0 hs
 replace hb2 := hb2.tr0 hs
 replace hb3 := hb3.tr0 hs
 replace hb5 := hb5.tr0 hs
 replace hBL := hBL.tr0 hs
 replace hb6 := hb6.tr0 hs
 replace hBuX := hBuX.tr0 hs
 replace hb9 := hb9.tr0 hs
 replace hb11 := hb11.tr0 hs
 replace hb12 := hb12.tr0 hs
 replace hBuY := hBuY.tr0 hs
 clear hs
 clear hr
 refine wl_stW hb13 rfl rfl sz28_SFind rfl oneA (fun w18 hq hs => ?_)
 replace hB := hB.tr1 hs lo13
 replace hb2 := hb2.tr1 hs om
 replace hb3 := hb3.tr1 hs om
 replace hb5 := hb5.tr1 hs om
 replace hBL := hBL.tr1 hs lo_hBL_b13
 replace hb6 := hb6.tr1 hs om
 replace hBuX := hBuX.tr1 hs lo_hBuX_b13
 replace hb9 := hb9.tr1 hs om
 replace hb11 := hb11.tr1 hs om
 replace hb12 := hb12.tr1 hs om
 replace hBuY := hBuY.tr1 hs lo_hBuY_b13
 clear hs
 replace hb13 := hq
 refine waB rfl (x_nil (e_S (c_seq (c_region (wl (r_fa U35 sz3_GLoose dE rfl rfl rfl) ?_)))))
 refine wl (r_ld1 (v := .int _ _) U3 rfl rfl (hb11.cell rfl)) (wl (r_eql rfl rfl) (wl (r_mv (v := .bool true) (congrArg Value.bool (decide_eq_true (by rw [hf0])))) (wl_gd 79 rfl rfl (wmB rfl (wl_gd 79 rfl rfl ?_)))))
 refine wmB rfl (wl_gd 79 rfl rfl (wl (r_eqlB U4 rfl rfl) (wl (r_pt (v := .bool _) rfl rfl) (wl (r_mv (v := .bool true) (congrArg Value.bool (beq_self_eq_true okX))) (wl_gd 84 rfl rfl ?_)))))
 refine wl (r_ldS U28 rfl rfl hb9.range0 sz28_SFind) (wl_gd 84 rfl rfl (wl (r_ldS U28 rfl rfl hb13.range0 sz28_SFind) (wl_gd 84 rfl rfl ?_)))
 refine wl_cl fn9 (nodesb_any AX AY _ _ cX cY XX XX true _ (hNX.mono hBuX) (hNY.mono hBuY) rfl rfl (decide_eq_true rfl)) rfl (fun e' w19 hr => ?_)
 obtain ⟨rfl, hs⟩ := hr
 replace hs := Same.of_bel hs
 replace hB := hB.tr0 hs
 replace hb2 := hb2.tr0 hs
 replace hb3 := hb3.tr0 hs
 replace hb5 := hb5.tr0 hs
 replace hBL := hBL.tr0 hs
 replace hb6 := hb6.tr0 hs
 replace hBuX := hBuX.tr0 hs
 replace hb9 := hb9.tr0 hs
 replace hb11 := hb11.tr0 hs
 replace hb12 := hb12.tr0 hs
 replace hBuY := hBuY.tr0 hs
 replace hb13 := hb13.tr0 hs
 clear hs
 refine ⟨_, rfl, ?_⟩
 refine wl (r_pt (v := .bool _) rfl rfl) (waB rfl (x_nil (e_S (c_ret (fin1 (.inl rfl) rfl rfl ?_)))))
 exact ⟨rfl, hB⟩
end Go.Proofs.YtfhmpbmgddaiiaaDoor
