/- What these functions of the program compute, at every world: glosswright/glosswrightlaw3.GraphPathsMatchesSpec. Arguments opened: graphs. -/
import Derived.Test.YtegngekpmpdngaaDoorU
import Derived.Test.YtegngekpmpdngaaDoorCanon
import Derived.Test.YtegngekpmpdngaaDoorNPth
import Derived.Test.YtegngekpmpdngaaDoorNCyc
import Derived.Test.YtegngekpmpdngaaDoorTypes
import Derived.Test.YtegngekpmpdngaaDoorGraph
namespace Go.Proofs.YtegngekpmpdngaaDoor
open Go.RowKit
def loopG : List Nd := [⟨1, [(0, 0)]⟩]
def loopP : List (List Int) := [[], [0], [0, 0]]
theorem loop_ok : (graphF pairT pairF loopG).1 = 0 := by
  have h0 : Rch loopG 0 := .zero
  have hu : (-1 : Int) = unrI loopG := unr_is (.inl ⟨rfl, fun i hi => by
    have hi3 : i < 1 := hi
    match i, hi3 with
    | 0, _ => exact h0⟩)
  rw [gf_in (by rw [pair_fault]), wi_zero (by decide +kernel) (by decide +kernel) om]
theorem loop_cyc : cyG pairT pairF loopG = true := by
  rw [cyG_yes loop_ok]
  exact (cycB_yes ⟨0, .one dE⟩).symm
theorem cycl_any {w : World} {A B G : Option Addr} (hTab : TabIn w) (hT : TypesIn w A pairT) (hF : FeatsIn w B pairF) (hG : NodesIn w G loopG) : Calls Tryd.prog 9 #[.agg #[.slice A 4 4, .slice B 2 2], .agg #[.slice G 1 1]] w fun e w' => e = .returned (.tuple #[.bool true, .agg #[.int .i64 0, .int .i64 0]]) ∧ Bel w w' := by
  have h := cyclic_any A B G 4 2 1 pairT pairF loopG w hTab hT hF hG
  rw [loop_cyc, gf_zzC loop_ok] at h
  exact h
theorem loop_paths {f : Fl} {X : List (List Int)} (h : PathsS pairT pairF loopG 2 f X) : f = (0, 0) ∧ X = loopP := by
  have e : pthsN loopG (2 : Int).toNat 0 = loopP := by decide +kernel
  rcases h with ⟨h, _⟩ | ⟨_, ⟨h, _⟩ | ⟨_, ⟨_, h2, h3⟩ | ⟨h, _⟩⟩⟩
  · exact absurd loop_ok h
  · omega
  · exact ⟨h2, h3.trans e⟩
  · rw [e] at h; exact absurd h dE
theorem pthl_any {w : World} {A B G : Option Addr} (hTab : TabIn w) (hT : TypesIn w A pairT) (hF : FeatsIn w B pairF) (hG : NodesIn w G loopG) : Calls Tryd.prog 11 #[.agg #[.slice A 4 4, .slice B 2 2], .agg #[.slice G 1 1], .int .i64 2] w fun e w' => (∃ PA pc, e = .returned (.tuple #[.slice PA 3 pc, .agg #[.int .i64 0, .int .i64 0]]) ∧ OutI w' PA loopP pc) ∧ Bel w w' := by
  refine (paths_any A B G 4 2 1 pairT pairF loopG w 2 hTab hT hF hG).mono fun e w' h => ?_
  obtain ⟨⟨A', X, cX, f, he, hO, hS⟩, hs⟩ := h
  obtain ⟨h1, h2⟩ := loop_paths hS
  subst h1 h2
  exact ⟨⟨A', cX, he, hO⟩, hs⟩
theorem isame_any (A B : Option Addr) (n m c d : Nat) (xs ys : List Int) (w : World) (hX : IntsIn w A xs) (hY : IntsIn w B ys) (hn : xs.length = n) (hm : ys.length = m) (h : xs = ys) : Calls Tryd.prog 12 #[.slice A n c, .slice B m d] w fun e w' => e = .returned (.bool true) ∧ Bel w w' := by
  subst hn hm
  have h3 := ieq_any A B c d xs ys w hX hY
  rw [decide_eq_true h] at h3
  exact h3
theorem fd35 : (Tryd.prog.fieldsOf 35).toList.map (fun f => (f.name == "_", f.type, f.offset)) = [(false, 3, 0), (false, 3, 1)] := by kernel_rfl
theorem fn10 : callable Tryd.prog 10 = true := by kernel_rfl
theorem fn11 : callable Tryd.prog 11 = true := by kernel_rfl
theorem fn12 : callable Tryd.prog 12 = true := by kernel_rfl
theorem fn13_NLaw9 : callable Tryd.prog 13 = true := by kernel_rfl
theorem fn14 : callable Tryd.prog 14 = true := by kernel_rfl
theorem fn9 : callable Tryd.prog 9 = true := by kernel_rfl
theorem ft35 : Tryd.prog.underlying 35 = some (.struct (Tryd.prog.fieldsOf 35)) := by kernel_rfl
set_option maxRecDepth 100000 in
set_option maxHeartbeats 8000000 in
theorem law9_any (A B G : Option Addr) (c d cg : Nat) (l : List Ty) (fs : List Ft) (gr : List Nd) (w : World) (most : Int) (hTab : TabIn w) (hcl : l.length ≤ c) (hdl : fs.length ≤ d) (hT : TypesIn w A l) (hF : FeatsIn w B fs) (hG1 : NodesIn w G gr) : Calls Tryd.prog 3 #[.agg #[.slice A l.length c, .slice B fs.length d], .agg #[.slice G gr.length cg], .int .i64 most] w fun e w' => e = .returned (.bool true) ∧ Bel w w' := by
 refine enter Tryd.func3 Tryd.ntmps3 rfl (Nat.le_of_ble_eq_true rfl) ?_
 have hB : Bel w w := Below.refl _ _
 refine c_seq (c_region ?_)
 refine wl_bx (v := .agg #[_, _]) (cs := #[_, _]) rfl rfl (fun b3 w1 hb3 hs hr => ?_)
 have lo3 := nLT (Bel.size hB) hr
 replace hB := hB.tr0 hs
 clear hs
 clear hr
 refine wl_bx (v := .agg #[_]) (cs := #[_]) rfl rfl (fun b4 w2 hb4 hs hr => ?_)
 have or_b3_b4 : b3 < b4 := nLL hb3.lt hr
 have lo4 := nLT (Bel.size hB) hr
 replace hB := hB.tr0 hs
 replace hb3 := hb3.tr0 hs
 clear hs
 clear hr
 refine waB rfl (x_nil (e_S (c_seq (c_region (wl (r_bd2 (v0 := .int _ _) (v1 := .int _ _) (fun v0 v1 => #[v0, v1]) rfl rfl kR) ?_)))))
 refine wl_bs (cs := #[_, _]) [(0, .agg _)] rfl U31 sz30 ze30 dE dE kR rfl (fun b20 w3 hb20 hs hr => ?_)
 have or_b3_b20 : b3 < b20 := nLL hb3.lt hr
 have or_b4_b20 : b4 < b20 := nLL hb4.lt hr
 have lo20 := nLT (Bel.size hB) hr
 replace hB := hB.tr0 hs
 replace hb3 := hb3.tr0 hs
 replace hb4 := hb4.tr0 hs
 clear hs
 clear hr
 refine wl (r_bd2 (v0 := .int _ _) (v1 := .slice _ _ _) (fun v0 v1 => #[v0, v1]) rfl rfl kR) ?_
 refine wl_bs (cs := #[_, _]) [(0, .agg _)] rfl U26 sz33 ze33 dE dE kR rfl (fun b22 w4 hb22 hs hr => ?_)
 have or_b3_b22 : b3 < b22 := nLL hb3.lt hr
 have or_b4_b22 : b4 < b22 := nLL hb4.lt hr
 have or_b20_b22 : b20 < b22 := nLL hb20.lt hr
 have lo22 := nLT (Bel.size hB) hr
 replace hB := hB.tr0 hs
 replace hb3 := hb3.tr0 hs
 replace hb4 := hb4.tr0 hs
 replace hb20 := hb20.tr0 hs
 clear hs
 clear hr
 refine wl (r_bd1 (v0 := .slice _ _ _) (fun v0 => #[v0]) rfl kR) ?_
 refine wl_al (cs := #[.slice none 0 0]) ze28 rfl (fun b7 w5 hb7 hs hr => ?_)
 have or_b3_b7 : b3 < b7 := nLL hb3.lt hr
 have or_b4_b7 : b4 < b7 := nLL hb4.lt hr
 have or_b20_b7 : b20 < b7 := nLL hb20.lt hr
 have or_b22_b7 : b22 < b7 := nLL hb22.lt hr
 have lo7 := nLT (Bel.size hB) hr
 replace hB := hB.tr0 hs
 replace hb3 := hb3.tr0 hs
 replace hb4 := hb4.tr0 hs
 replace hb20 := hb20.tr0 hs
 replace hb22 := hb22.tr0 hs
 clear hs
 clear hr
 refine wl_stW hb7 rfl rfl sz28 rfl oneA (fun w6 hq hs => ?_)
 replace hB := hB.tr1 hs lo7
 replace hb3 := hb3.tr1 hs om
 replace hb4 := hb4.tr1 hs om
 replace hb20 := hb20.tr1 hs om
 replace hb22 := hb22.tr1 hs om
 clear hs
 replace hb7 := hq
 refine x_nil (e_S (c_seq (c_seq ?_)))
 have hLN : NodesIn w6 (some ⟨b22, 0, none⟩) loopG := nodes_of_blk (l := loopG) hb22 (.cons (links_of_blk [(0, 0)] hb20 rfl dE) .nil) dE
 obtain ⟨wL, hwL⟩ : ∃ z, z = w6 := ⟨_, rfl⟩
 have hBL : Bel wL w6 := by rw [hwL]; exact Below.refl _ _
 rw [← hwL] at hLN
 have hszR := Bel.size hB
 have zz3 := hb3.lt
 have zz4 := hb4.lt
 have zz7 := hb7.lt
 have zz20 := hb20.lt
 have zz22 := hb22.lt
 refine c_monoTO 8 [25, 26, 27, 24, 28, 29, 9, 8] (fun _ => false) (fun ix v wv => match ix with | 0 => ∃ A0 B0 : Option Addr, v = .agg #[.slice A0 4 4, .slice B0 2 2] ∧ TypesIn wv A0 pairT ∧ FeatsIn wv B0 pairF | 1 => v = .agg #[.slice (some ⟨b22, 0, none⟩) 1 1] | 2 => v = .tuple #[.bool true, .agg #[.int .i64 0, .int .i64 0]] | 3 => v = .tuple #[.bool true, .agg #[.int .i64 0, .int .i64 0]] | 4 => v = .bool true | 5 => v = .agg #[.int .i64 0, .int .i64 0] | 6 => ∃ b, v = .pointer (some ⟨b, 0, none⟩) ∧ w6.heap.size ≤ b ∧ Blk wv b 35 #[.int .i64 0, .int .i64 0] | 7 => v = .bool true | _ => True) kR kR ?_ ?_ ?_
 ·
  intro ix v wv wv2 h hs
  match ix, h with
  | 0, h =>
   obtain ⟨A0, B0, e25, hTp, hFp⟩ := (show ∃ A0 B0 : Option Addr, v = .agg #[.slice A0 4 4, .slice B0 2 2] ∧ TypesIn wv A0 pairT ∧ FeatsIn wv B0 pairF from h)
   exact ⟨A0, B0, e25, hTp.mono hs.bel, hFp.mono hs.bel⟩
  | 1, h => exact h
  | 2, h => exact h
  | 3, h => exact h
  | 4, h => exact h
  | 5, h => exact h
  | 6, h =>
   obtain ⟨b9, e9, lo9, hb9⟩ := (show ∃ b, v = .pointer (some ⟨b, 0, none⟩) ∧ w6.heap.size ≤ b ∧ Blk wv b 35 #[.int .i64 0, .int .i64 0] from h)
   exact ⟨b9, e9, lo9, hb9.tr0 hs⟩
  | 7, h => exact h
  | _ + 8, h => exact trivial
 ·
  intro ix o hix hoq gg wx hs hd hdis
  match ix, hix, hoq with
  | 0, _, hoq =>
   obtain rfl := sI hoq
   have hs0 := hs
   clear hs
   refine os_cl fn10 (pair_any wx) rfl (fun e' w2 hr => ?_)
   obtain ⟨⟨A0, B0, rfl, hTp, hFp⟩, hs⟩ := hr
   exact ⟨_, rfl, Same.of_bel hs, ⟨_, _, rfl, hTp, hFp⟩, frsh_no⟩
  | 1, _, hoq =>
   obtain rfl := sI hoq
   have hs0 := hs
   replace hb7 := hb7.tr0 hs
   clear hs
   refine os_rv (r_ldS U28 rfl rfl hb7.range0 sz28) ⟨Same.refl _ _, ?_, frsh_no⟩
   exact rfl
  | 2, _, hoq =>
   obtain rfl := sI hoq
   have hs0 := hs
   replace hB := hB.tr0 hs
   replace hBL := hBL.tr0 hs
   clear hs
   have d0 : ∃ A0 B0 : Option Addr, gg 25 = .agg #[.slice A0 4 4, .slice B0 2 2] ∧ TypesIn wx A0 pairT ∧ FeatsIn wx B0 pairF := hd 0 (dep_of kR)
   obtain ⟨A0, B0, e25, hTp, hFp⟩ := d0
   have d1 : gg 26 = .agg #[.slice (some ⟨b22, 0, none⟩) 1 1] := hd 1 (dep_of kR)
   have e26 := d1
   refine os_know 25 (.agg #[.slice A0 4 4, .slice B0 2 2]) e25 nu (os_know 26 (.agg #[.slice (some ⟨b22, 0, none⟩) 1 1]) e26 nu ?_)
   refine os_cl fn9 (cycl_any (hTab.mono hB) hTp hFp (hLN.mono hBL)) rfl (fun e' w2 hr => ?_)
   obtain ⟨rfl, hs⟩ := hr
   exact ⟨_, rfl, Same.of_bel hs, rfl, frsh_no⟩
  | 3, _, hoq =>
   obtain rfl := sI hoq
   have hs0 := hs
   clear hs
   have d2 : gg 27 = .tuple #[.bool true, .agg #[.int .i64 0, .int .i64 0]] := hd 2 (dep_of kR)
   have e27 := d2
   refine os_know 27 (.tuple #[.bool true, .agg #[.int .i64 0, .int .i64 0]]) e27 nu ?_
   refine os_rv (r_mv (v := .tuple _) rfl) ⟨Same.refl _ _, ?_, frsh_no⟩
   exact rfl
  | 4, _, hoq =>
   obtain rfl := sI hoq
   have hs0 := hs
   clear hs
   have d3 : gg 24 = .tuple #[.bool true, .agg #[.int .i64 0, .int .i64 0]] := hd 3 (dep_of kR)
   have e24 := d3
   refine os_know 24 (.tuple #[.bool true, .agg #[.int .i64 0, .int .i64 0]]) e24 nu ?_
   refine os_rv (r_ex (v := _) rfl rfl) ⟨Same.refl _ _, ?_, frsh_no⟩
   exact rfl
  | 5, _, hoq =>
   obtain rfl := sI hoq
   have hs0 := hs
   clear hs
   have d3 : gg 24 = .tuple #[.bool true, .agg #[.int .i64 0, .int .i64 0]] := hd 3 (dep_of kR)
   have e24 := d3
   refine os_know 24 (.tuple #[.bool true, .agg #[.int .i64 0, .int .i64 0]]) e24 nu ?_
   refine os_rv (r_ex (v := _) rfl rfl) ⟨Same.refl _ _, ?_, frsh_no⟩
   exact rfl
  | 6, _, hoq =>
   obtain rfl := sI hoq
   have hs0 := hs
   clear hs
   refine os_wl (fun ops Q K => ?_)
   refine wl_al (cs := #[.int .i64 0, .int .i64 0]) ze35_GLoose rfl (fun b9 w7 hb9 hs hr => ?_)
   exact K _ _ ⟨hs, ⟨_, rfl, nLT hs0.size hr, hb9⟩, fun _ g hg => by cases hg; exact ⟨hr, hb9.lt⟩⟩
  | 7, _, hoq =>
   obtain rfl := sI hoq
   have hs0 := hs
   clear hs
   have d4 : gg 28 = .bool true := hd 4 (dep_of kR)
   have e28 := d4
   refine os_know 28 (.bool true) e28 nu ?_
   refine os_rv (r_as (v := .bool _) rfl) ⟨Same.refl _ _, ?_, frsh_no⟩
   exact rfl
  | _ + 8, hix, _ => exact absurd hix om
 intro gg w8 hs hR hdis
 have hs0 := hs
 replace hB := hB.tr0 hs
 replace hb3 := hb3.tr0 hs
 replace hb4 := hb4.tr0 hs
 replace hb20 := hb20.tr0 hs
 replace hb22 := hb22.tr0 hs
 replace hb7 := hb7.tr0 hs
 replace hBL := hBL.tr0 hs
 clear hs
 have d5 : gg 29 = .agg #[.int .i64 0, .int .i64 0] := hR 5 dE
 have e29 := d5
 have d6 : ∃ b, gg 9 = .pointer (some ⟨b, 0, none⟩) ∧ w6.heap.size ≤ b ∧ Blk w8 b 35 #[.int .i64 0, .int .i64 0] := hR 6 dE
 obtain ⟨b9, e9, lo9, hb9⟩ := d6
 have d7 : gg 8 = .bool true := hR 7 dE
 have e8 := d7
 have or_b3_b9 : b3 < b9 := nLL zz3 lo9
 have or_b4_b9 : b4 < b9 := nLL zz4 lo9
 have or_b7_b9 : b7 < b9 := nLL zz7 lo9
 have or_b20_b9 : b20 < b9 := nLL zz20 lo9
 have or_b22_b9 : b22 < b9 := nLL zz22 lo9
 replace lo9 := nLT hszR lo9
 refine wl_know 29 (.agg #[.int .i64 0, .int .i64 0]) e29 nu (wl_know 9 (.pointer (some ⟨b9, 0, none⟩)) e9 nu (wl_know 8 (.bool true) e8 nu ?_))
 refine wl_stW hb9 rfl rfl sz35_GLoose rfl oneA (fun w9 hq hs => ?_)
 replace hB := hB.tr1 hs lo9
 replace hb3 := hb3.tr1 hs om
 replace hb4 := hb4.tr1 hs om
 replace hb20 := hb20.tr1 hs om
 replace hb22 := hb22.tr1 hs om
 replace hb7 := hb7.tr1 hs om
 clear hs
 replace hb9 := hq
 refine x_nil (e_S (c_seq (c_region (wmB rfl (wl (r_not rfl) ?_)))))
 refine x_nil (e_S ?_)
 refine c_if rfl (fun c31 => ?_) (fun c31 => ?_)
 ·
  exact absurd c31 dE
 refine c_skip (e_S (c_seq (c_seq ?_)))
 have hLN2 : NodesIn w9 (some ⟨b22, 0, none⟩) loopG := nodes_of_blk (l := loopG) hb22 (.cons (links_of_blk [(0, 0)] hb20 rfl dE) .nil) dE
 obtain ⟨wq, hwq⟩ : ∃ z, z = w9 := ⟨_, rfl⟩
 have hBq : Bel wq w9 := by rw [hwq]; exact Below.refl _ _
 rw [← hwq] at hLN2
 have hszR := Bel.size hB
 have zz3 := hb3.lt
 have zz4 := hb4.lt
 have zz9 := hb9.lt
 refine c_monoTO 8 [33, 34, 35, 32, 36, 37, 11, 10] (fun _ => false) (fun ix v wv => match ix with | 0 => ∃ A0 B0 : Option Addr, v = .agg #[.slice A0 4 4, .slice B0 2 2] ∧ TypesIn wv A0 pairT ∧ FeatsIn wv B0 pairF | 1 => v = .agg #[.slice (some ⟨b22, 0, none⟩) 1 1] | 2 => ∃ PA pc, v = .tuple #[.slice PA 3 pc, .agg #[.int .i64 0, .int .i64 0]] ∧ OutI wv PA loopP pc | 3 => ∃ PA pc, v = .tuple #[.slice PA 3 pc, .agg #[.int .i64 0, .int .i64 0]] ∧ OutI wv PA loopP pc | 4 => ∃ PA pc, v = .slice PA 3 pc ∧ OutI wv PA loopP pc | 5 => v = .agg #[.int .i64 0, .int .i64 0] | 6 => ∃ b, v = .pointer (some ⟨b, 0, none⟩) ∧ w9.heap.size ≤ b ∧ Blk wv b 35 #[.int .i64 0, .int .i64 0] | 7 => ∃ PA pc, v = .slice PA 3 pc ∧ OutI wv PA loopP pc | _ => True) kR kR ?_ ?_ ?_
 ·
  intro ix v wv wv2 h hs
  match ix, h with
  | 0, h =>
   obtain ⟨A0, B0, e33, hTp, hFp⟩ := (show ∃ A0 B0 : Option Addr, v = .agg #[.slice A0 4 4, .slice B0 2 2] ∧ TypesIn wv A0 pairT ∧ FeatsIn wv B0 pairF from h)
   exact ⟨A0, B0, e33, hTp.mono hs.bel, hFp.mono hs.bel⟩
  | 1, h => exact h
  | 2, h =>
   obtain ⟨PA35, pc35, e35, hO35⟩ := (show ∃ PA pc, v = .tuple #[.slice PA 3 pc, .agg #[.int .i64 0, .int .i64 0]] ∧ OutI wv PA loopP pc from h)
   exact ⟨PA35, pc35, e35, hO35.tr0 hs⟩
  | 3, h =>
   obtain ⟨PA32, pc32, e32, hO32⟩ := (show ∃ PA pc, v = .tuple #[.slice PA 3 pc, .agg #[.int .i64 0, .int .i64 0]] ∧ OutI wv PA loopP pc from h)
   exact ⟨PA32, pc32, e32, hO32.tr0 hs⟩
  | 4, h =>
   obtain ⟨PA36, pc36, e36, hO36⟩ := (show ∃ PA pc, v = .slice PA 3 pc ∧ OutI wv PA loopP pc from h)
   exact ⟨PA36, pc36, e36, hO36.tr0 hs⟩
  | 5, h => exact h
  | 6, h =>
   obtain ⟨b11, e11, lo11, hb11⟩ := (show ∃ b, v = .pointer (some ⟨b, 0, none⟩) ∧ w9.heap.size ≤ b ∧ Blk wv b 35 #[.int .i64 0, .int .i64 0] from h)
   exact ⟨b11, e11, lo11, hb11.tr0 hs⟩
  | 7, h =>
   obtain ⟨PA10, pc10, e10, hO10⟩ := (show ∃ PA pc, v = .slice PA 3 pc ∧ OutI wv PA loopP pc from h)
   exact ⟨PA10, pc10, e10, hO10.tr0 hs⟩
  | _ + 8, h => exact trivial
 ·
  intro ix o hix hoq gg wx hs hd hdis
  match ix, hix, hoq with
  | 0, _, hoq =>
   obtain rfl := sI hoq
   have hs0 := hs
   clear hs
   refine os_cl fn10 (pair_any wx) rfl (fun e' w2 hr => ?_)
   obtain ⟨⟨A0, B0, rfl, hTp, hFp⟩, hs⟩ := hr
   exact ⟨_, rfl, Same.of_bel hs, ⟨_, _, rfl, hTp, hFp⟩, frsh_no⟩
  | 1, _, hoq =>
   obtain rfl := sI hoq
   have hs0 := hs
   replace hb7 := hb7.tr0 hs
   clear hs
   refine os_rv (r_ldS U28 rfl rfl hb7.range0 sz28) ⟨Same.refl _ _, ?_, frsh_no⟩
   exact rfl
  | 2, _, hoq =>
   obtain rfl := sI hoq
   have hs0 := hs
   replace hB := hB.tr0 hs
   replace hBq := hBq.tr0 hs
   clear hs
   have d0 : ∃ A0 B0 : Option Addr, gg 33 = .agg #[.slice A0 4 4, .slice B0 2 2] ∧ TypesIn wx A0 pairT ∧ FeatsIn wx B0 pairF := hd 0 (dep_of kR)
   obtain ⟨A0, B0, e33, hTp, hFp⟩ := d0
   have d1 : gg 34 = .agg #[.slice (some ⟨b22, 0, none⟩) 1 1] := hd 1 (dep_of kR)
   have e34 := d1
   refine os_know 33 (.agg #[.slice A0 4 4, .slice B0 2 2]) e33 nu (os_know 34 (.agg #[.slice (some ⟨b22, 0, none⟩) 1 1]) e34 nu ?_)
   refine os_cl fn11 (pthl_any (hTab.mono hB) hTp hFp (hLN2.mono hBq)) rfl (fun e' w2 hr => ?_)
   obtain ⟨⟨PA35, pc35, rfl, hO35⟩, hs⟩ := hr
   exact ⟨_, rfl, Same.of_bel hs, ⟨_, _, rfl, hO35⟩, frsh_no⟩
  | 3, _, hoq =>
   obtain rfl := sI hoq
   have hs0 := hs
   clear hs
   have d2 : ∃ PA pc, gg 35 = .tuple #[.slice PA 3 pc, .agg #[.int .i64 0, .int .i64 0]] ∧ OutI wx PA loopP pc := hd 2 (dep_of kR)
   obtain ⟨PA35, pc35, e35, hO35⟩ := d2
   refine os_know 35 (.tuple #[.slice PA35 3 pc35, .agg #[.int .i64 0, .int .i64 0]]) e35 nu ?_
   refine os_rv (r_mv (v := .tuple _) rfl) ⟨Same.refl _ _, ?_, frsh_no⟩
   exact ⟨_, _, rfl, hO35⟩
  | 4, _, hoq =>
   obtain rfl := sI hoq
   have hs0 := hs
   clear hs
   have d3 : ∃ PA pc, gg 32 = .tuple #[.slice PA 3 pc, .agg #[.int .i64 0, .int .i64 0]] ∧ OutI wx PA loopP pc := hd 3 (dep_of kR)
   obtain ⟨PA32, pc32, e32, hO32⟩ := d3
   refine os_know 32 (.tuple #[.slice PA32 3 pc32, .agg #[.int .i64 0, .int .i64 0]]) e32 nu ?_
   refine os_rv (r_ex (v := _) rfl rfl) ⟨Same.refl _ _, ?_, frsh_no⟩
   exact ⟨_, _, rfl, hO32⟩
  | 5, _, hoq =>
   obtain rfl := sI hoq
   have hs0 := hs
   clear hs
   have d3 : ∃ PA pc, gg 32 = .tuple #[.slice PA 3 pc, .agg #[.int .i64 0, .int .i64 0]] ∧ OutI wx PA loopP pc := hd 3 (dep_of kR)
   obtain ⟨PA32, pc32, e32, hO32⟩ := d3
   refine os_know 32 (.tuple #[.slice PA32 3 pc32, .agg #[.int .i64 0, .int .i64 0]]) e32 nu ?_
   refine os_rv (r_ex (v := _) rfl rfl) ⟨Same.refl _ _, ?_, frsh_no⟩
   exact rfl
  | 6, _, hoq =>
   obtain rfl := sI hoq
   have hs0 := hs
   clear hs
   refine os_wl (fun ops Q K => ?_)
   refine wl_al (cs := #[.int .i64 0, .int .i64 0]) ze35_GLoose rfl (fun b11 w10 hb11 hs hr => ?_)
   exact K _ _ ⟨hs, ⟨_, rfl, nLT hs0.size hr, hb11⟩, fun _ g hg => by cases hg; exact ⟨hr, hb11.lt⟩⟩
  | 7, _, hoq =>
   obtain rfl := sI hoq
   have hs0 := hs
   clear hs
   have d4 : ∃ PA pc, gg 36 = .slice PA 3 pc ∧ OutI wx PA loopP pc := hd 4 (dep_of kR)
   obtain ⟨PA36, pc36, e36, hO36⟩ := d4
   refine os_know 36 (.slice PA36 3 pc36) e36 nu ?_
   refine os_rv (r_as (v := .slice _ _ _) rfl) ⟨Same.refl _ _, ?_, frsh_no⟩
   exact ⟨_, _, rfl, hO36⟩
  | _ + 8, hix, _ => exact absurd hix om
 intro gg w11 hs hR hdis
 have hs0 := hs
 replace hB := hB.tr0 hs
 replace hb3 := hb3.tr0 hs
 replace hb4 := hb4.tr0 hs
 replace hb7 := hb7.tr0 hs
 replace hb9 := hb9.tr0 hs
 replace hBq := hBq.tr0 hs
 clear hs
 have d5 : gg 37 = .agg #[.int .i64 0, .int .i64 0] := hR 5 dE
 have e37 := d5
 have d6 : ∃ b, gg 11 = .pointer (some ⟨b, 0, none⟩) ∧ w9.heap.size ≤ b ∧ Blk w11 b 35 #[.int .i64 0, .int .i64 0] := hR 6 dE
 obtain ⟨b11, e11, lo11, hb11⟩ := d6
 have d7 : ∃ PA pc, gg 10 = .slice PA 3 pc ∧ OutI w11 PA loopP pc := hR 7 dE
 obtain ⟨PA10, pc10, e10, hO10⟩ := d7
 have or_b3_b11 : b3 < b11 := nLL zz3 lo11
 have or_b4_b11 : b4 < b11 := nLL zz4 lo11
 have or_b9_b11 : b9 < b11 := nLL zz9 lo11
 replace lo11 := nLT hszR lo11
 refine wl_know 37 (.agg #[.int .i64 0, .int .i64 0]) e37 nu (wl_know 11 (.pointer (some ⟨b11, 0, none⟩)) e11 nu (wl_know 10 (.slice PA10 3 pc10) e10 nu ?_))
 refine wl_stW hb11 rfl rfl sz35_GLoose rfl oneA (fun w12 hq hs => ?_)
 replace hB := hB.tr1 hs lo11
 replace hb3 := hb3.tr1 hs om
 replace hb4 := hb4.tr1 hs om
 replace hb7 := hb7.tr1 hs om
 replace hb9 := hb9.tr1 hs om
 replace hO10 := hO10.tr1 hs hb11 dE dE
 clear hs
 replace hb11 := hq
 refine x_nil (e_S (c_seq ?_))
 obtain ⟨rb, ro, RA, rc, rfl, hrc, hri⟩ := hO10.mat.at_ (Below.refl _ _ : Bel w12 w12) (k := 2) dE
 refine c_region (wmS rfl (wl (r_len U39 rfl) (wl (r_neq rfl rfl) (wl (r_mv (v := .bool false) (congrArg Value.bool (decide_eq_false (fun h => h rfl)))) (wl_gd 41 rfl rfl ?_)))))
 refine wmS rfl (wl_gd 41 rfl rfl (wl (r_ia (i := 2) U39 sz43_GVisit rfl rfl om rfl) (wl_gd 41 rfl rfl (wl (r_ld1 (v := .slice _ _ _) U43 rfl rfl hrc) (wl_gd 41 rfl rfl ?_)))))
 refine wl_bs (cs := #[_, _]) [(0, .int _ _), (1, .int _ _)] rfl U43 sz3_GLoose ze3_GUnr dE dE kR rfl (fun b45 w13 hb45 hs hr => ?_)
 have or_b3_b45 : b3 < b45 := nLL hb3.lt hr
 have or_b4_b45 : b4 < b45 := nLL hb4.lt hr
 have lo45 := nLT (Bel.size hB) hr
 replace hB := hB.tr0 hs
 replace hb3 := hb3.tr0 hs
 replace hb4 := hb4.tr0 hs
 replace hri := hri.mono (Same.bel hs)
 clear hs
 clear hr
 refine wl_gd 41 rfl rfl ?_
 refine wl_cl fn12 (isame_any RA (some ⟨b45, 0, none⟩) 2 2 rc 2 [0, 0] [0, 0] _ hri (ints_of_blk [0, 0] hb45 dE) rfl rfl rfl) rfl (fun e' w14 hr => ?_)
 obtain ⟨rfl, hs⟩ := hr
 replace hs := Same.of_bel hs
 replace hB := hB.tr0 hs
 replace hb3 := hb3.tr0 hs
 replace hb4 := hb4.tr0 hs
 replace hri := hri.mono (Same.bel hs)
 replace hb45 := hb45.tr0 hs
 clear hs
 refine ⟨_, rfl, ?_⟩
 refine wl_gd 41 rfl rfl (wl (r_not rfl) (wl (r_pf (v := .bool _) rfl rfl) (x_nil (e_S ?_))))
 refine c_if rfl (fun c48 => ?_) (fun c48 => ?_)
 ·
  exact absurd c48 dE
 refine c_skip (e_S (c_seq (c_region (wl (r_ldS U25 rfl rfl hb3.range0 sz25) (wl (r_ldS U28 rfl rfl hb4.range0 sz28) ?_)))))
 refine wl_cl fn9 (cyclic_any A B G c d cg l fs gr _ (hTab.mono hB) (hT.mono hB) (hF.mono hB) (hG1.mono hB)) rfl (fun e' w15 hr => ?_)
 obtain ⟨rfl, hs⟩ := hr
 replace hs := Same.of_bel hs
 replace hB := hB.tr0 hs
 replace hb3 := hb3.tr0 hs
 replace hb4 := hb4.tr0 hs
 clear hs
 refine ⟨_, rfl, ?_⟩
 refine wl (r_mv (v := .tuple _) rfl) (wl (r_ex (v := _) rfl rfl) (wl (r_ex (v := _) rfl rfl) ?_))
 refine wl_al (cs := #[.int .i64 0, .int .i64 0]) ze35_GLoose rfl (fun b13 w16 hb13 hs hr => ?_)
 have or_b3_b13 : b3 < b13 := nLL hb3.lt hr
 have or_b4_b13 : b4 < b13 := nLL hb4.lt hr
 have lo13 := nLT (Bel.size hB) hr
 replace hB := hB.tr0 hs
 replace hb3 := hb3.tr0 hs
 replace hb4 := hb4.tr0 hs
 clear hs
 clear hr
 refine waB rfl ?_
 refine wl_stW hb13 rfl rfl sz35_GLoose rfl oneA (fun w17 hq hs => ?_)
 replace hB := hB.tr1 hs lo13
 replace hb3 := hb3.tr1 hs om
 replace hb4 := hb4.tr1 hs om
 clear hs
 replace hb13 := hq
 refine x_nil (e_S (c_seq (c_region (wl (r_ldS U25 rfl rfl hb3.range0 sz25) (wl (r_ldS U28 rfl rfl hb4.range0 sz28) ?_)))))
 refine wmI rfl ?_
 refine wl_cl fn11 (paths_any A B G c d cg l fs gr _ most (hTab.mono hB) (hT.mono hB) (hF.mono hB) (hG1.mono hB)) rfl (fun e' w18 hr => ?_)
 obtain ⟨⟨AX, XX, cX, fX, rfl, hOX, hSX⟩, hs⟩ := hr
 replace hs := Same.of_bel hs
 replace hB := hB.tr0 hs
 replace hb3 := hb3.tr0 hs
 replace hb4 := hb4.tr0 hs
 replace hb13 := hb13.tr0 hs
 clear hs
 refine ⟨_, rfl, ?_⟩
 refine wl (r_mv (v := .tuple _) rfl) (wl (r_ex (v := _) rfl rfl) (wl (r_ex (v := _) rfl rfl) ?_))
 refine wl_al (cs := #[.int .i64 0, .int .i64 0]) ze35_GLoose rfl (fun b15 w19 hb15 hs hr => ?_)
 have or_b3_b15 : b3 < b15 := nLL hb3.lt hr
 have or_b4_b15 : b4 < b15 := nLL hb4.lt hr
 have or_b13_b15 : b13 < b15 := nLL hb13.lt hr
 have lo15 := nLT (Bel.size hB) hr
 replace hB := hB.tr0 hs
 replace hb3 := hb3.tr0 hs
 replace hb4 := hb4.tr0 hs
 replace hb13 := hb13.tr0 hs
 replace hOX := hOX.tr0 hs
 clear hs
 clear hr
 refine waS rfl ?_
 refine wl_stW hb15 rfl rfl sz35_GLoose rfl oneA (fun w20 hq hs => ?_)
 replace hB := hB.tr1 hs lo15
 replace hb3 := hb3.tr1 hs om
 replace hb4 := hb4.tr1 hs om
 replace hb13 := hb13.tr1 hs om
 replace hOX := hOX.tr1 hs hb15 dE dE
 clear hs
 replace hb15 := hq
 refine x_nil (e_S (c_seq (c_seq (c_region (wl (r_ldS U25 rfl rfl hb3.range0 sz25) ?_)))))
 refine wl (r_ldS U28 rfl rfl hb4.range0 sz28) ?_
 refine wl_cl fn13_NLaw9 (gfau_any A B G c d cg l fs gr _ hcl hdl (hT.mono hB) (hF.mono hB) (hG1.mono hB)) rfl (fun e' w21 hr => ?_)
 obtain ⟨rfl, hs⟩ := hr
 replace hs := Same.of_bel hs
 replace hB := hB.tr0 hs
 replace hb3 := hb3.tr0 hs
 replace hb4 := hb4.tr0 hs
 replace hb13 := hb13.tr0 hs
 replace hOX := hOX.tr0 hs
 replace hb15 := hb15.tr0 hs
 clear hs
 refine ⟨_, rfl, ?_⟩
 refine wl_al (cs := #[.int .i64 0, .int .i64 0]) ze35_GLoose rfl (fun b16 w22 hb16 hs hr => ?_)
 have or_b3_b16 : b3 < b16 := nLL hb3.lt hr
 have or_b4_b16 : b4 < b16 := nLL hb4.lt hr
 have or_b13_b16 : b13 < b16 := nLL hb13.lt hr
 have or_b15_b16 : b15 < b16 := nLL hb15.lt hr
 have lo16 := nLT (Bel.size hB) hr
 replace hB := hB.tr0 hs
 replace hb3 := hb3.tr0 hs
 replace hb4 := hb4.tr0 hs
 replace hb13 := hb13.tr0 hs
 replace hOX := hOX.tr0 hs
 replace hb15 := hb15.tr0 hs
 clear hs
 clear hr
 refine wl_stW hb16 rfl rfl sz35_GLoose rfl oneA (fun w23 hq hs => ?_)
 replace hB := hB.tr1 hs lo16
 replace hb3 := hb3.tr1 hs om
 replace hb4 := hb4.tr1 hs om
 replace hb13 := hb13.tr1 hs om
 replace hOX := hOX.tr1 hs hb16 dE dE
 replace hb15 := hb15.tr1 hs om
 clear hs
 replace hb16 := hq
 refine x_nil (e_S (c_seq (c_region (wl (r_fa U35 sz3_GLoose dE rfl rfl rfl) (wl (r_ld1 (v := .int _ _) U3 rfl rfl (hb16.cell rfl)) ?_)))))
 refine wl (r_neq rfl rfl) (x_nil (e_S ?_))
 refine c_ifd rfl (fun c67 => ?_) (fun c67 => ?_)
 ·
  obtain ⟨rfl, rfl⟩ : fX = graphF l fs gr ∧ XX = [] := by
    rcases hSX with ⟨_, h1, h2⟩ | ⟨h1, _⟩
    · exact ⟨h1, h2⟩
    · exact absurd h1 c67
  refine c_seq (c_region (wl (r_ldS U35 rfl rfl hb13.range0 sz35_GLoose) (wl (r_ldS U35 rfl rfl hb16.range0 sz35_GLoose) (wl (r_eqF Tryd.eqGuardType35 ft35 Tryd.stoodInHeld35 fd35 U3 rfl rfl) (wl (r_mv (v := .bool true) (congrArg Value.bool (decide_eq_true ⟨rfl, rfl⟩))) ?_)))))
  refine wl_gd 71 rfl rfl (wl (r_ldS U35 rfl rfl hb15.range0 sz35_GLoose) (wl_gd 71 rfl rfl (wl (r_ldS U35 rfl rfl hb16.range0 sz35_GLoose) (wl_gd 71 rfl rfl (wl (r_eqF Tryd.eqGuardType35 ft35 Tryd.stoodInHeld35 fd35 U3 rfl rfl) ?_)))))
  refine wl (r_pt (v := .bool _) rfl rfl) (wl (r_mv (v := .bool true) (congrArg Value.bool (decide_eq_true ⟨rfl, rfl⟩))) (wl_gd 76 rfl rfl (wmB rfl (wl_gd 76 rfl rfl (wl (r_not rfl) ?_)))))
  refine wl (r_pt (v := .bool _) rfl rfl) (wl (r_mv (v := .bool true) (congrArg Value.bool (by rw [cyG_no c67]; rfl))) (wl_gd 80 rfl rfl (wmS rfl (wl_gd 80 rfl rfl (wl (r_len U39 rfl) ?_)))))
  refine wl_gd 80 rfl rfl (wl (r_eql rfl rfl) (wl (r_pt (v := .bool _) rfl rfl) (wl (r_as (v := .bool true) (congrArg Value.bool (decide_eq_true rfl))) (x_nil (e_S ?_)))))
  refine c_ret (e_Sr (fin1 (.inl rfl) rfl rfl ?_))
  exact ⟨rfl, hB⟩
 have h0 := Decidable.not_not.1 c67
 have hva := gv_of h0
 have hn6 := hva.gok.le
 replace hSX := hSX.resolve_left (fun h => h.1 h0)
 replace hSX := hSX.2
 refine c_skip (e_S (c_seq (c_seq (c_region (wl (r_fa U35 sz3_GLoose dE rfl rfl rfl) ?_)))))
 refine wl (r_ld1 (v := .int _ _) U3 rfl rfl (hb13.cell rfl)) (wl (r_neq rfl rfl) (wl (r_mv (v := .bool false) (congrArg Value.bool (decide_eq_false (fun h => h h0)))) (wl_gd 88 rfl rfl (wmB rfl (wl_gd 88 rfl rfl ?_)))))
 refine wl (r_ldS U28 rfl rfl hb4.range0 sz28) (wl_gd 88 rfl rfl ?_)
 refine wl_cl fn14 (circ_any G cg l fs gr _ (hG1.mono hB) hva) rfl (fun e' w24 hr => ?_)
 obtain ⟨rfl, hs⟩ := hr
 replace hs := Same.of_bel hs
 replace hB := hB.tr0 hs
 replace hb3 := hb3.tr0 hs
 replace hb4 := hb4.tr0 hs
 replace hb13 := hb13.tr0 hs
 replace hOX := hOX.tr0 hs
 replace hb15 := hb15.tr0 hs
 replace hb16 := hb16.tr0 hs
 clear hs
 refine ⟨_, rfl, ?_⟩
 refine wl_gd 88 rfl rfl (wl (r_neqB U4 rfl rfl) (wl (r_pf (v := .bool _) rfl rfl) (x_nil (e_S ?_))))
 refine c_if rfl (fun c93 => ?_) (fun c93 => ?_)
 ·
  exact absurd c93 (by rw [cyG_yes h0]; simp)
 refine c_skip (e_S (c_seq (c_seq ?_)))
 refine c_cut1 [94, 95, 96, 97, 98, 99] 99 (.bool (decide (most < 0 ∨ 40 < most))) nu ?_ (fun gq => ?_)
 ·
  refine c_region (wmI rfl (wl (r_lss rfl rfl) (wmB rfl ?_)))
  refine wl_casesd 96 rfl (fun g96 => ?_) (fun g96 => ?_)
  ·
   refine wlgn 96 rfl rfl rfl (wlgn 96 rfl rfl rfl (wl (r_pt (v := .bool _) rfl rfl) ?_))
   refine x_nil (e_R ⟨rfl, agA, ?_⟩)
   exact clA
  refine wl_gd 96 rfl rfl (wmI rfl (wl_gd 96 rfl rfl (wl (r_gtr rfl rfl) (wl (r_pf (v := .bool _) rfl rfl) ?_))))
  refine x_nil (e_R ⟨rfl, agA, ?_⟩)
  exact clA
 refine e_S ?_
 refine c_ifd rfl (fun c99 => ?_) (fun c99 => ?_)
 ·
  obtain ⟨rfl, rfl⟩ : fX = (3, -3) ∧ XX = [] := by
    rcases hSX with ⟨_, h1, h2⟩ | ⟨h1, _⟩
    · exact ⟨h1, h2⟩
    · exact absurd c99 h1
  refine c_seq (c_region (wl (r_ldS U35 rfl rfl hb15.range0 sz35_GLoose) (wl (r_bd2 (v0 := .int _ _) (v1 := .int _ _) (fun v0 v1 => #[v0, v1]) rfl rfl kR) (wl (r_eqF Tryd.eqGuardType35 ft35 Tryd.stoodInHeld35 fd35 U3 rfl rfl) (wl (r_mv (v := .bool true) (congrArg Value.bool (decide_eq_true ⟨rfl, rfl⟩))) ?_)))))
  refine wl_gd 103 rfl rfl (wmS rfl (wl_gd 103 rfl rfl (wl (r_len U39 rfl) (wl_gd 103 rfl rfl (wl (r_eql rfl rfl) ?_)))))
  refine wl (r_pt (v := .bool _) rfl rfl) (wl (r_as (v := .bool true) (congrArg Value.bool (decide_eq_true rfl))) (x_nil (e_S (c_ret (e_Sr ?_)))))
  refine fin1 (.inl rfl) rfl rfl ?_
  exact ⟨rfl, hB⟩
 replace hSX := hSX.resolve_left (fun h => c99 h.1)
 replace hSX := hSX.2
 refine c_skip (e_S (c_seq (c_seq (c_region (wmI rfl ?_)))))
 refine wl (r_gtr rfl rfl) (x_nil (e_S ?_))
 refine c_ifd rfl (fun c109 => ?_) (fun c109 => ?_)
 ·
  refine c_seq (c_region (waB rfl (x_nil (e_S (c_ret ?_)))))
  refine e_Sr (fin1 (.inl rfl) rfl rfl ?_)
  exact ⟨rfl, hB⟩
 obtain ⟨mm, rfl⟩ : ∃ mm : Nat, most = (mm : Int) := ⟨most.toNat, by omega⟩
 rw [Int.toNat_natCast] at hSX
 refine c_skip (e_S (c_seq (c_region (wl (r_ldS U28 rfl rfl hb4.range0 sz28) (wmI rfl ?_)))))
 refine wl_cl fn15 (allp_any hva.gok.two mm 0 _ (hG1.mono hB) hva.gok.pos om) rfl (fun e' w25 hr => ?_)
 obtain ⟨⟨AY, XY, cY, rfl, hMY, hXY⟩, hs⟩ := hr
 replace hs := Same.of_bel hs
 replace hB := hB.tr0 hs
 replace hb3 := hb3.tr0 hs
 replace hb4 := hb4.tr0 hs
 replace hb13 := hb13.tr0 hs
 replace hOX := hOX.tr0 hs
 replace hb15 := hb15.tr0 hs
 replace hb16 := hb16.tr0 hs
 clear hs
 replace hMY := hMY w25 (FrSame.refl _ _)
 have hBuY : Bel w25 w25 := Below.refl _ _
 obtain ⟨wY, hwY⟩ : ∃ z, z = w25 := ⟨_, rfl⟩
 have hBuY : Bel wY w25 := by rw [hwY]; exact Below.refl _ _
 rw [← hwY] at hMY
 have hlY : XY.length ≤ 301 := by rw [hXY, List.length_take]; omega
 refine ⟨_, rfl, ?_⟩
 refine waS rfl (x_nil (e_S (c_seq (c_seq (c_region ?_)))))
 refine wmS rfl (wl (r_len U39 rfl) (wl (r_gtr rfl rfl) (x_nil (e_S ?_))))
 refine c_ifd rfl (fun c115 => ?_) (fun c115 => ?_)
 ·
  obtain ⟨rfl, rfl⟩ : fX = (17, -1) ∧ XX = [] := by
    rcases hSX with ⟨h1, _⟩ | ⟨_, h2, h3⟩
    · have h := congrArg List.length hXY
      rw [List.length_take] at h
      omega
    · exact ⟨h2, h3⟩
  refine c_seq (c_region (wl (r_ldS U35 rfl rfl hb15.range0 sz35_GLoose) (wl (r_bd2 (v0 := .int _ _) (v1 := .int _ _) (fun v0 v1 => #[v0, v1]) rfl rfl kR) (wl (r_eqF Tryd.eqGuardType35 ft35 Tryd.stoodInHeld35 fd35 U3 rfl rfl) (wl (r_mv (v := .bool true) (congrArg Value.bool (decide_eq_true ⟨rfl, rfl⟩))) ?_)))))
  refine wl_gd 119 rfl rfl (wmS rfl (wl_gd 119 rfl rfl (wl (r_len U39 rfl) (wl_gd 119 rfl rfl (wl (r_eql rfl rfl) ?_)))))
  refine wl (r_pt (v := .bool _) rfl rfl) (wl (r_as (v := .bool true) (congrArg Value.bool (decide_eq_true rfl))) (x_nil (e_S (c_ret (e_Sr ?_)))))
  refine fin1 (.inl rfl) rfl rfl ?_
  exact ⟨rfl, hB⟩
 obtain ⟨hf0, hXX⟩ : fX = (0, 0) ∧ XX = XY := by
   have hl : (pthsN gr mm 0).length ≤ 300 := by
     have h := congrArg List.length hXY
     rw [List.length_take] at h
     omega
   rcases hSX with ⟨_, h2, h3⟩ | ⟨h1, _⟩
   · exact ⟨h2, by rw [h3, hXY, List.take_of_length_le om]⟩
   · omega
 refine c_skip (e_S (c_seq (c_seq (c_region (wl (r_fa U35 sz3_GLoose dE rfl rfl rfl) ?_)))))
 refine wl (r_ld1 (v := .int _ _) U3 rfl rfl (hb15.cell rfl)) (wl (r_neq rfl rfl) (wl (r_mv (v := .bool false) (congrArg Value.bool (decide_eq_false (fun h => h (by rw [hf0]))))) (wl_gd 127 rfl rfl (wmS rfl (wl_gd 127 rfl rfl ?_)))))
 refine wl (r_len U39 rfl) (wl_gd 127 rfl rfl (wmS rfl (wl_gd 127 rfl rfl (wl (r_len U39 rfl) (wl_gd 127 rfl rfl ?_)))))
 refine wl (r_neq rfl rfl) (wl (r_pf (v := .bool _) rfl rfl) (x_nil (e_S ?_)))
 refine c_ifd rfl (fun c133 => ?_) (fun c133 => ?_)
 ·
  exact absurd (by rw [hXX]) c133
 refine c_skip (e_S (c_seq (c_seq ?_)))
 have hMX := hOX.mat
 obtain ⟨wZ, hwZ⟩ : ∃ z, z = w25 := ⟨_, rfl⟩
 have hBq : Bel wZ w25 := by rw [hwZ]; exact Below.refl _ _
 have hMY2 := hMY.mono hBuY
 rw [← hwZ] at hMX hMY2
 have hlX : XX.length ≤ 301 := by rw [hXX]; exact hlY
 refine c_region (wmS rfl (wl (r_len U39 rfl) (wmI rfl (x_nil (e_S ?_)))))
 refine c_block ?_
 refine c_loopS [6, 18, 136, 137, 138, 139, 140, 141, 142, 143, 144, 145, 146, 147, 148, 149] (fun m g w' => ∃ k : Nat, k ≤ XX.length ∧ m = XX.length - k ∧ g 136 = .int .i64 k ∧ Bel w w' ∧ Bel wZ w') (XX.length) ?_ (fun m g25 w26 hI => ?_)
 ·
  exact ⟨0, Nat.zero_le _, rfl, rfl, hB, hBq⟩
 obtain ⟨k, hk, hmk, h136, hB, hBq⟩ := hI
 refine c_know 136 (.int .i64 k) h136 nu (c_seq (c_region (wl (r_lss rfl rfl) (x_nil (e_S ?_)))))
 refine c_seq ?_
 refine c_ifd rfl (fun c137 => ?_) (fun c137 => ?_)
 ·
  have hkl : k < XX.length := by omega
  have hkl2 : k < XY.length := by rw [← hXX]; exact hkl
  have hxy : XX[k]'hkl = XY[k]'hkl2 := by simp only [hXX]
  obtain ⟨xb, xo, rfl, hxl, hxa⟩ := hMX.2 (by intro e; rw [e] at hkl; simp at hkl)
  obtain ⟨XA, xc, hxc, hxi⟩ := hxa k hkl
  obtain ⟨yb, yo, rfl, hyl, hya⟩ := hMY2.2 (by intro e; rw [e] at hkl2; simp at hkl2)
  obtain ⟨YA, yc, hyc, hyi⟩ := hya k hkl2
  refine c_skip (e_S (c_seq (c_block (c_seq (c_region ?_)))))
  refine wmI rfl (waI rfl (x_nil (e_S (c_seq ?_))))
  refine c_monoTO 10 [139, 140, 141, 142, 143, 144, 145, 146, 147, 148] (fun _ => false) (fun ix v wv => match ix with | 0 => v = .slice (some ⟨xb, xo, none⟩) XX.length cX | 1 => v = .int .i64 k | 2 => v = .pointer (some ⟨xb, xo + k * 1, none⟩) | 3 => v = .slice XA (XX[k]'hkl).length xc | 4 => v = .slice (some ⟨yb, yo, none⟩) XY.length cY | 5 => v = .int .i64 k | 6 => v = .pointer (some ⟨yb, yo + k * 1, none⟩) | 7 => v = .slice YA (XY[k]'hkl2).length yc | 8 => v = .bool true | 9 => v = .bool false | _ => True) kR kR ?_ ?_ ?_
  ·
   intro ix v wv wv2 h hs
   match ix, h with
   | 0, h => exact h
   | 1, h => exact h
   | 2, h => exact h
   | 3, h => exact h
   | 4, h => exact h
   | 5, h => exact h
   | 6, h => exact h
   | 7, h => exact h
   | 8, h => exact h
   | 9, h => exact h
   | _ + 10, h => exact trivial
  ·
   intro ix o hix hoq gg wx hs hd hdis
   match ix, hix, hoq with
   | 0, _, hoq =>
    obtain rfl := sI hoq
    have hs0 := hs
    clear hs
    refine os_rv (r_mv (v := .slice _ _ _) rfl) ⟨Same.refl _ _, ?_, frsh_no⟩
    exact rfl
   | 1, _, hoq =>
    obtain rfl := sI hoq
    have hs0 := hs
    clear hs
    refine os_rv (r_mv (v := .int _ _) rfl) ⟨Same.refl _ _, ?_, frsh_no⟩
    exact rfl
   | 2, _, hoq =>
    obtain rfl := sI hoq
    have hs0 := hs
    clear hs
    have d0 : gg 139 = .slice (some ⟨xb, xo, none⟩) XX.length cX := hd 0 (dep_of kR)
    have e139 := d0
    have d1 : gg 140 = .int .i64 k := hd 1 (dep_of kR)
    have e140 := d1
    refine os_know 139 (.slice (some ⟨xb, xo, none⟩) XX.length cX) e139 nu (os_know 140 (.int .i64 k) e140 nu ?_)
    refine os_rv (r_ia (i := k) U39 sz43_GVisit rfl rfl om rfl) ⟨Same.refl _ _, ?_, frsh_no⟩
    exact rfl
   | 3, _, hoq =>
    obtain rfl := sI hoq
    have hs0 := hs
    replace hBq := hBq.tr0 hs
    clear hs
    have d2 : gg 141 = .pointer (some ⟨xb, xo + k * 1, none⟩) := hd 2 (dep_of kR)
    have e141 := d2
    refine os_know 141 (.pointer (some ⟨xb, xo + k * 1, none⟩)) e141 nu ?_
    refine os_rv (r_ld1 (v := .slice _ _ _) U43 rfl rfl (hBq.cell hxl hxc)) ⟨Same.refl _ _, ?_, frsh_no⟩
    exact rfl
   | 4, _, hoq =>
    obtain rfl := sI hoq
    have hs0 := hs
    clear hs
    refine os_rv (r_mv (v := .slice _ _ _) rfl) ⟨Same.refl _ _, ?_, frsh_no⟩
    exact rfl
   | 5, _, hoq =>
    obtain rfl := sI hoq
    have hs0 := hs
    clear hs
    refine os_rv (r_mv (v := .int _ _) rfl) ⟨Same.refl _ _, ?_, frsh_no⟩
    exact rfl
   | 6, _, hoq =>
    obtain rfl := sI hoq
    have hs0 := hs
    clear hs
    have d4 : gg 143 = .slice (some ⟨yb, yo, none⟩) XY.length cY := hd 4 (dep_of kR)
    have e143 := d4
    have d5 : gg 144 = .int .i64 k := hd 5 (dep_of kR)
    have e144 := d5
    refine os_know 143 (.slice (some ⟨yb, yo, none⟩) XY.length cY) e143 nu (os_know 144 (.int .i64 k) e144 nu ?_)
    refine os_rv (r_ia (i := k) U39 sz43_GVisit rfl rfl om rfl) ⟨Same.refl _ _, ?_, frsh_no⟩
    exact rfl
   | 7, _, hoq =>
    obtain rfl := sI hoq
    have hs0 := hs
    replace hBq := hBq.tr0 hs
    clear hs
    have d6 : gg 145 = .pointer (some ⟨yb, yo + k * 1, none⟩) := hd 6 (dep_of kR)
    have e145 := d6
    refine os_know 145 (.pointer (some ⟨yb, yo + k * 1, none⟩)) e145 nu ?_
    refine os_rv (r_ld1 (v := .slice _ _ _) U43 rfl rfl (hBq.cell hyl hyc)) ⟨Same.refl _ _, ?_, frsh_no⟩
    exact rfl
   | 8, _, hoq =>
    obtain rfl := sI hoq
    have hs0 := hs
    replace hBq := hBq.tr0 hs
    clear hs
    have d3 : gg 142 = .slice XA (XX[k]'hkl).length xc := hd 3 (dep_of kR)
    have e142 := d3
    have d7 : gg 146 = .slice YA (XY[k]'hkl2).length yc := hd 7 (dep_of kR)
    have e146 := d7
    refine os_know 142 (.slice XA (XX[k]'hkl).length xc) e142 nu (os_know 146 (.slice YA (XY[k]'hkl2).length yc) e146 nu ?_)
    refine os_cl fn12 (isame_any XA YA _ _ xc yc _ _ wx (hxi.mono hBq) (hyi.mono hBq) rfl rfl hxy) rfl (fun e' w2 hr => ?_)
    obtain ⟨rfl, hs⟩ := hr
    exact ⟨_, rfl, Same.of_bel hs, rfl, frsh_no⟩
   | 9, _, hoq =>
    obtain rfl := sI hoq
    have hs0 := hs
    clear hs
    have d8 : gg 147 = .bool true := hd 8 (dep_of kR)
    have e147 := d8
    refine os_know 147 (.bool true) e147 nu ?_
    refine os_rv (r_not rfl) ⟨Same.refl _ _, ?_, frsh_no⟩
    exact rfl
   | _ + 10, hix, _ => exact absurd hix om
  intro gg w27 hs hR hdis
  have hs0 := hs
  replace hB := hB.tr0 hs
  replace hBq := hBq.tr0 hs
  clear hs
  have d9 : gg 148 = .bool false := hR 9 dE
  have e148 := d9
  refine wl_know 148 (.bool false) e148 nu (x_nil (e_S ?_))
  refine c_if rfl (fun c148 => ?_) (fun c148 => ?_)
  ·
   exact absurd c148 dE
  refine c_skip (e_B (e_S (c_region (wl (r_add rfl rfl rfl om) (wmI rfl ?_)))))
  refine x_nil (e_LS (XX.length - (k + 1)) om agA ?_)
  exact ⟨k + 1, by omega, rfl, rfl, hB, hBq⟩
 refine c_exit (e_Sx (e_LSx (e_Bx (e_S (c_seq ?_)))))
 refine c_region (waB rfl (x_nil (e_S (c_ret (fin1 (.inl rfl) rfl rfl ?_)))))
 exact ⟨rfl, hB⟩
end Go.Proofs.YtegngekpmpdngaaDoor
namespace Go.Proofs.YtegngekpmpdngaaDoor
open Go.RowKit Go.ChangeShapes Go.WideShapes Go.Deep Go.Joins
section
variable {H : Type} {enc : TypeId × Value → H} {P : Program} {w : World} {base : Nat} {spare : Nat → Bool} {held : Bool}
theorem links_open {t e ti : TypeId} {f0 f1 : Field} {fuel : Nat} {v : Value} {x : DataW H × List MemPlace} (ht : P.underlying t = some (.slice e)) (he : P.underlying e = some (.struct #[f0, f1])) (hsz : P.cellsOf e = 2) (o0 : f0.offset = 0) (o1 : f1.offset = 1) (e0 : f0.type = ti) (e1 : f1.type = ti)
    (hi : P.underlying ti = some (.int .i64)) (hc1 : P.cellsOf ti = 1) (h : DataW.trod enc P w base spare held fuel t [v] = some x) :
    ∃ A xs c, v = .slice A (List.length xs) c ∧ xs.length ≤ c ∧ LinksIn w A xs := by
  obtain ⟨A, len, c, rfl, hl, hm, hx⟩ := sl_open ht hsz dE h
  by_cases h0 : len = 0
  · subst h0
    exact ⟨A, [], c, rfl, Nat.zero_le _, Nat.zero_le _, fun h => absurd rfl h⟩
  · obtain ⟨b, o, rfl, hlt, hc⟩ := hx h0
    obtain ⟨xs, hxl, hxs⟩ := choose_list (p := fun i (z : Int × Int) => w.rangeAt b (o + i * 2) [.int .i64 z.1, .int .i64 z.2]) (n := len) (fun i hi' => by
      obtain ⟨cs, k, y, h1, h2, h3⟩ := hc i hi'
      obtain ⟨v0, v1, n, y0, y1, rfl, g0, g1⟩ := two_cells he h1 o0 o1 (by rw [e0]; exact hc1) (by rw [e1]; exact hc1) h3
      rw [e0] at g0
      rw [e1] at g1
      obtain ⟨z1, h5, _, _⟩ := DataW.trod_int hi g0
      obtain ⟨z2, h6, _, _⟩ := DataW.trod_int hi g1
      rw [one_val h5, one_val h6] at h2
      exact ⟨(z1, z2), h2⟩)
    subst hxl
    exact ⟨_, xs, c, rfl, hl, nLT hl hm, fun _ => ⟨b, o, rfl, hlt, hxs⟩⟩
theorem nodes_open {t e ti tl te : TypeId} {f0 f1 g0 g1 : Field} {fuel : Nat} {v : Value} {x : DataW H × List MemPlace} (ht : P.underlying t = some (.slice e)) (he : P.underlying e = some (.struct #[f0, f1])) (hsz : P.cellsOf e = 2) (o0 : f0.offset = 0) (o1 : f1.offset = 1) (e0 : f0.type = ti) (e1 : f1.type = tl)
    (htl : P.underlying tl = some (.slice te)) (hte : P.underlying te = some (.struct #[g0, g1])) (hst : P.cellsOf te = 2) (p0 : g0.offset = 0) (p1 : g1.offset = 1) (d0 : g0.type = ti) (d1 : g1.type = ti) (hcl : P.cellsOf tl = 1)
    (hi : P.underlying ti = some (.int .i64)) (hc1 : P.cellsOf ti = 1) (h : DataW.trod enc P w base spare held fuel t [v] = some x) :
    ∃ A gr c, v = .slice A (List.length gr) c ∧ gr.length ≤ c ∧ NodesIn w A gr := by
  obtain ⟨A, len, c, rfl, hl, hm, hx⟩ := sl_open ht hsz dE h
  by_cases h0 : len = 0
  · subst h0
    exact ⟨A, [], c, rfl, Nat.zero_le _, Nat.zero_le _, fun h => absurd rfl h⟩
  · obtain ⟨b, o, rfl, hlt, hc⟩ := hx h0
    obtain ⟨gr, hxl, hxs⟩ := choose_list (p := fun i (z : Nd) => NdIn w b (o + i * 2) z) (n := len) (fun i hi' => by
      obtain ⟨cs, k, y, h1, h2, h3⟩ := hc i hi'
      obtain ⟨v0, v1, n, y0, y1, rfl, q0, q1⟩ := two_cells he h1 o0 o1 (by rw [e0]; exact hc1) (by rw [e1]; exact hcl) h3
      rw [e0] at q0
      rw [e1] at q1
      obtain ⟨z1, h5, _, _⟩ := DataW.trod_int hi q0
      obtain ⟨A', xs, c', rfl, _, hin⟩ := links_open htl hte hst p0 p1 d0 d1 hi hc1 q1
      rw [one_val h5] at h2
      exact ⟨⟨z1, xs⟩, A', c', h2, hin⟩)
    subst hxl
    exact ⟨_, gr, c, rfl, hl, nLT hl hm, fun _ => ⟨b, o, rfl, hlt, hxs⟩⟩
end
end Go.Proofs.YtegngekpmpdngaaDoor
