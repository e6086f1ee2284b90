/- What these functions of the program compute, at every world: glosswright/glosswrightlaw3.UnifyInAnyOrder. -/
import Derived.Test.YteoncmfiiknfbaaDoorSBase
import Derived.Test.YteoncmfiiknfbaaDoorMany
import Derived.Test.YteoncmfiiknfbaaDoorUAll
namespace Go.Proofs.YteoncmfiiknfbaaDoor
open Go.RowKit

inductive GrVs (w : World) : List (List Nd) → List Value → Prop
  | nil : GrVs w [] []
  | cons {A : Option Addr} {g : List Nd} {c : Nat} {gs : List (List Nd)} {vs : List Value} (h : NodesIn w A g) (k : GrVs w gs vs) : GrVs w (g :: gs) (.slice A g.length c :: vs)
theorem GrVs.get {w : World} : ∀ {gs : List (List Nd)} {vs : List Value}, GrVs w gs vs → ∀ k (hk : k < gs.length), ∃ A c, vs[k]? = some (.slice A (gs[k]).length c) ∧ NodesIn w A gs[k]
  | _, _, .cons h _, 0, _ => ⟨_, _, rfl, h⟩
  | _, _, .cons _ r, k + 1, hk => by
    obtain ⟨A, c, h1, h2⟩ := r.get k (by simpa using hk)
    exact ⟨A, c, by simpa using h1, h2⟩
theorem grs_of_blk {w : World} {b t : Nat} {gs : List (List Nd)} {vs : List Value} (h : Blk w b t vs.toArray) (hv : GrVs w gs vs) (hl : gs.length ≤ maxI) : GrsIn w (some ⟨b, 0, none⟩) gs :=
  ⟨hl, fun _ => ⟨b, 0, rfl, h.lt, fun k hk => by
    obtain ⟨A, c, h1, h2⟩ := hv.get k hk
    refine ⟨A, c, fun j v hj => ?_, h2⟩
    match j, hj with
    | 0, hj => cases hj; exact h.cell (by simpa using h1)
    | _ + 1, hj => cases hj⟩⟩
theorem uallp_any {w : World} {A B : Option Addr} {b : Nat} (hTab : TabIn w) (hT : TypesIn w A pairT) (hF : FeatsIn w B pairF) (hL : GrsIn w (some ⟨b, 0, none⟩) [sharedG, apartG]) : Calls Tryd.prog 9 #[.agg #[.slice A 4 4, .slice B 2 2], .slice (some ⟨b, 0, none⟩) 2 2] w fun e w' => (∃ GA, e = .returned (.tuple #[.agg #[.slice GA 2 2], .bool true, .agg #[.int .i64 0, .int .i64 0]]) ∧ NodesIn w' GA sharedG) ∧ Bel w w' := by
  refine (uall_any A B _ 4 2 2 pairT pairF [sharedG, apartG] w hTab hT hF hL).mono fun e w' h => ?_
  obtain ⟨⟨GA, X, ok, f, he, hN, hU⟩, hs⟩ := h
  have h0 : (allF pairT pairF [sharedG, apartG]).1 = 0 := all_zero (gv_of shared_ok).h (by simp) (fun g hg => by
    simp only [List.mem_cons, List.not_mem_nil, or_false] at hg
    rcases hg with rfl | rfl
    · exact shared_ok
    · exact apart_ok)
  obtain ⟨hok, hf, hX⟩ := alls_above h0 (gv_of shared_ok) (amaps_two.2 ⟨⟨_, Hom.refl (gv_of shared_ok).gx⟩, ⟨_, maps_as⟩⟩) (by simp) shared_dl hU
  have hX : X = sharedG := hX.trans (by decide)
  subst hX hok hf
  exact ⟨⟨GA, he, hN _ (FrSame.refl _ _)⟩, hs⟩
theorem three_zero {l : List Ty} {fs : List Ft} {gs : List (List Nd)} {ga gb gc : List Nd} (hv : (hierFault l fs).1 = 0) (ha : (graphF l fs ga).1 = 0) (hb : (graphF l fs gb).1 = 0) (hc : (graphF l fs gc).1 = 0) (hs : ∀ g ∈ gs, g = ga ∨ g = gb ∨ g = gc) (hl : gs.length ≤ 300) : (allF l fs gs).1 = 0 := all_zero hv hl (fun g hg => by rcases hs g hg with rfl | rfl | rfl <;> assumption)
theorem amaps_five {l : List Ty} {ga gb gc c : List Nd} : AMaps l [ga, gb, gc] c ↔ AMaps l [gc, ga, gb, ga, gc] c :=
  ⟨fun h => h.sup (Sup.of (by simp)), fun h => h.sup (Sup.of (by simp))⟩
theorem uni_step {l : List Ty} {fs : List Ft} {ga gb gc X Z : List Nd} {ok ok3 : Bool} {f f3 : Fl} (ha : (graphF l fs ga).1 = 0) (hb : (graphF l fs gb).1 = 0) (hc : (graphF l fs gc).1 = 0) (hX : UnifyS l fs ga gb ok f X) (hok : ok = true) (hY : AllS l fs [ga, gb, gc] ok3 f3 Z) : (graphF l fs X).1 = 0 ∧ ∀ (ok2 : Bool) (f2 : Fl) (Y : List Nd), UnifyS l fs X gc ok2 f2 Y → f2 = f3 ∧ ok2 = ok3 ∧ Y = Z := by
  have hva := gv_of ha
  have h0 := two_mk ha hb
  have hA := unify_alls h0 hX
  have hlub : LubL l [ga, gb] X ∧ UniR l (ga ++ gb.map (shN ga.length)) [(0, ga.length)] X ∧ X.length ≤ 60 := by
    subst hok
    rcases hX with ⟨_, h, _⟩ | ⟨_, h, _⟩ | ⟨_, h, _⟩ | ⟨_, _, _, h1, h2⟩
    · cases h
    · cases h
    · cases h
    · rcases hA with ⟨_, h, _⟩ | ⟨_, h, _⟩ | ⟨_, h, _⟩ | ⟨_, _, _, h3, _⟩
      · cases h
      · cases h
      · cases h
      · exact ⟨h3, h1, h2⟩
  have hX0 : (graphF l fs X).1 = 0 := by rw [uni_valid hva (gv_of hb) hlub.2.1 hlub.2.2]
  refine ⟨hX0, fun ok2 f2 Y hU => ?_⟩
  have h2 := two_mk hX0 hc
  exact alls_same (all_zero hva.h (by simp) (fun g hg => by
    simp only [List.mem_cons, List.not_mem_nil, or_false] at hg
    rcases hg with rfl | rfl <;> assumption)) (three_zero hva.h ha hb hc (by simp) (by simp)) (fun c hcy => amaps_step hva.s.vt hlub.1 hcy) (unify_alls h2 hU) hY
theorem uni_turn {l : List Ty} {fs : List Ft} {ga gb X Y : List Nd} {ok ok2 : Bool} {f f2 : Fl} (ha : (graphF l fs ga).1 = 0) (hb : (graphF l fs gb).1 = 0) (hX : UnifyS l fs ga gb ok f X) (hY : UnifyS l fs gb ga ok2 f2 Y) : f = f2 ∧ ok = ok2 ∧ X = Y := by
  have hva := gv_of ha
  exact alls_same (three_zero hva.h ha hb hb (by simp) (by simp)) (three_zero hva.h ha hb hb (by simp) (by simp)) (fun c _ => ⟨fun h => h.sup (Sup.of (by simp)), fun h => h.sup (Sup.of (by simp))⟩) (unify_alls (two_mk ha hb) hX) (unify_alls (two_mk hb ha) hY)

theorem fd30 : (Tryd.prog.fieldsOf 30).toList.map (fun f => (f.name == "_", f.type, f.offset)) = [(false, 3, 0), (false, 3, 1)] := by kernel_rfl
theorem fn10_UOrd : callable Tryd.prog 10 = true := by kernel_rfl
theorem fn11_UOrd : callable Tryd.prog 11 = true := by kernel_rfl
theorem fn12 : callable Tryd.prog 12 = true := by kernel_rfl
theorem fn13_UOrd : callable Tryd.prog 13 = true := by kernel_rfl
theorem fn14_UOrd : callable Tryd.prog 14 = true := by kernel_rfl
theorem fn16_UOrd : callable Tryd.prog 16 = true := by kernel_rfl
theorem fn9 : callable Tryd.prog 9 = true := by kernel_rfl
theorem ft30 : Tryd.prog.underlying 30 = some (.struct (Tryd.prog.fieldsOf 30)) := by kernel_rfl
set_option maxHeartbeats 8000000 in
theorem law17_any (A B G1 G2 G3 : Option Addr) (c d c1 c2 c3 : Nat) (l : List Ty) (fs : List Ft) (ga gb gc : List Nd) (w : World) (hTab : TabIn w) (hcl : l.length ≤ c) (hdl : fs.length ≤ d) (hT : TypesIn w A l) (hF : FeatsIn w B fs) (hG1 : NodesIn w G1 ga) (hG2 : NodesIn w G2 gb) (hG3 : NodesIn w G3 gc) : Calls Tryd.prog 3 #[.agg #[.slice A l.length c, .slice B fs.length d], .agg #[.slice G1 ga.length c1], .agg #[.slice G2 gb.length c2], .agg #[.slice G3 gc.length c3]] w fun e w' => e = .returned (.bool true) ∧ Bel w w' := by
 refine enter Tryd.func3 Tryd.ntmps3 rfl (Nat.le_of_ble_eq_true rfl) ?_
 have hB : Bel w w := Below.refl _ _
 refine c_seq ?_
 refine c_region ?_
 refine wl_bx (v := .agg #[_, _]) (cs := #[_, _]) rfl rfl (fun b4 w1 hb4 hs hr => ?_)
 have lo4 := Nat.le_trans (Bel.size hB) hr
 replace hB := hB.tr0 hs
 clear hs
 clear hr
 refine wl_bx (v := .agg #[_]) (cs := #[_]) rfl rfl (fun b5 w2 hb5 hs hr => ?_)
 have or_b4_b5 : b4 < b5 := Nat.lt_of_lt_of_le hb4.lt hr
 have lo5 := Nat.le_trans (Bel.size hB) hr
 replace hB := hB.tr0 hs
 replace hb4 := hb4.tr0 hs
 clear hs
 clear hr
 refine wl_bx (v := .agg #[_]) (cs := #[_]) rfl rfl (fun b6 w3 hb6 hs hr => ?_)
 have or_b4_b6 : b4 < b6 := Nat.lt_of_lt_of_le hb4.lt hr
 have or_b5_b6 : b5 < b6 := Nat.lt_of_lt_of_le hb5.lt hr
 have lo6 := Nat.le_trans (Bel.size hB) hr
 replace hB := hB.tr0 hs
 replace hb4 := hb4.tr0 hs
 replace hb5 := hb5.tr0 hs
 clear hs
 clear hr
 refine wl_bx (v := .agg #[_]) (cs := #[_]) rfl rfl (fun b7 w4 hb7 hs hr => ?_)
 have or_b4_b7 : b4 < b7 := Nat.lt_of_lt_of_le hb4.lt hr
 have or_b5_b7 : b5 < b7 := Nat.lt_of_lt_of_le hb5.lt hr
 have or_b6_b7 : b6 < b7 := Nat.lt_of_lt_of_le hb6.lt hr
 have lo7 := Nat.le_trans (Bel.size hB) hr
 replace hB := hB.tr0 hs
 replace hb4 := hb4.tr0 hs
 replace hb5 := hb5.tr0 hs
 replace hb6 := hb6.tr0 hs
 clear hs
 clear hr
 refine wl (r_as (v := .bool _) rfl) ?_
 refine x_nil ?_
 refine e_S ?_
 refine c_seq ?_
 refine c_seq ?_
 refine c_region ?_
 refine wl_cl fn10_UOrd (pair_any _) rfl (fun e' w5 hr => ?_)
 obtain ⟨⟨Ap, Bp, rfl, hTp, hFp⟩, hs⟩ := hr
 replace hs := Same.of_bel hs
 replace hB := hB.tr0 hs
 replace hb4 := hb4.tr0 hs
 replace hb5 := hb5.tr0 hs
 replace hb6 := hb6.tr0 hs
 replace hb7 := hb7.tr0 hs
 clear hs
 have hB0 : Bel w5 w5 := Below.refl _ _
 refine ⟨_, rfl, ?_⟩
 refine wl_cl fn11_UOrd (shared_any _) rfl (fun e' w6 hr => ?_)
 obtain ⟨⟨Gb, rfl, hGb⟩, hs⟩ := hr
 replace hs := Same.of_bel hs
 replace hB := hB.tr0 hs
 replace hb4 := hb4.tr0 hs
 replace hb5 := hb5.tr0 hs
 replace hb6 := hb6.tr0 hs
 replace hb7 := hb7.tr0 hs
 replace hB0 := hB0.tr0 hs
 clear hs
 have hB2 : Bel w6 w6 := Below.refl _ _
 refine ⟨_, rfl, ?_⟩
 refine wl_cl fn12 (apart_any _) rfl (fun e' w7 hr => ?_)
 obtain ⟨⟨Ga, rfl, hGa⟩, hs⟩ := hr
 replace hs := Same.of_bel hs
 replace hB := hB.tr0 hs
 replace hb4 := hb4.tr0 hs
 replace hb5 := hb5.tr0 hs
 replace hb6 := hb6.tr0 hs
 replace hb7 := hb7.tr0 hs
 replace hB0 := hB0.tr0 hs
 replace hB2 := hB2.tr0 hs
 clear hs
 have hB1 : Bel w7 w7 := Below.refl _ _
 refine ⟨_, rfl, ?_⟩
 refine wl_bs (cs := #[_, _]) [(0, .agg _), (1, .agg _)] rfl Tryd.underlying35 sz28 ze28 (by decide) (by decide) (by kernel_rfl) rfl (fun b29 w8 hb29 hs hr => ?_)
 have or_b4_b29 : b4 < b29 := Nat.lt_of_lt_of_le hb4.lt hr
 have or_b5_b29 : b5 < b29 := Nat.lt_of_lt_of_le hb5.lt hr
 have or_b6_b29 : b6 < b29 := Nat.lt_of_lt_of_le hb6.lt hr
 have or_b7_b29 : b7 < b29 := Nat.lt_of_lt_of_le hb7.lt hr
 have lo29 := Nat.le_trans (Bel.size hB) hr
 have lo_hB0_b29 := Nat.le_trans (Bel.size hB0) hr
 have lo_hB2_b29 := Nat.le_trans (Bel.size hB2) hr
 have lo_hB1_b29 := Nat.le_trans (Bel.size hB1) hr
 replace hB := hB.tr0 hs
 replace hb4 := hb4.tr0 hs
 replace hb5 := hb5.tr0 hs
 replace hb6 := hb6.tr0 hs
 replace hb7 := hb7.tr0 hs
 replace hB0 := hB0.tr0 hs
 replace hB2 := hB2.tr0 hs
 replace hB1 := hB1.tr0 hs
 clear hs
 clear hr
 refine wl_cl fn9 (uallp_any (hTab.mono hB) (hTp.mono hB0) (hFp.mono hB0) (grs_of_blk hb29 (.cons (hGb.mono hB2) (.cons (hGa.mono hB1) .nil)) (by decide))) rfl (fun e' w9 hr => ?_)
 obtain ⟨⟨GW, rfl, hGW⟩, hs⟩ := hr
 replace hs := Same.of_bel hs
 replace hB := hB.tr0 hs
 replace hb4 := hb4.tr0 hs
 replace hb5 := hb5.tr0 hs
 replace hb6 := hb6.tr0 hs
 replace hb7 := hb7.tr0 hs
 replace hB0 := hB0.tr0 hs
 replace hB2 := hB2.tr0 hs
 replace hB1 := hB1.tr0 hs
 replace hb29 := hb29.tr0 hs
 clear hs
 have hBW : Bel w9 w9 := Below.refl _ _
 refine ⟨_, rfl, ?_⟩
 refine wl (r_mv (v := .tuple _) rfl) ?_
 refine wl (r_ex (v := _) rfl rfl) ?_
 refine wl (r_ex (v := _) rfl rfl) ?_
 refine wl (r_ex (v := _) rfl rfl) ?_
 refine wl_al (cs := #[.slice none 0 0]) ze28 rfl (fun b9 w10 hb9 hs hr => ?_)
 have or_b4_b9 : b4 < b9 := Nat.lt_of_lt_of_le hb4.lt hr
 have or_b5_b9 : b5 < b9 := Nat.lt_of_lt_of_le hb5.lt hr
 have or_b6_b9 : b6 < b9 := Nat.lt_of_lt_of_le hb6.lt hr
 have or_b7_b9 : b7 < b9 := Nat.lt_of_lt_of_le hb7.lt hr
 have or_b29_b9 : b29 < b9 := Nat.lt_of_lt_of_le hb29.lt hr
 have lo9 := Nat.le_trans (Bel.size hB) hr
 have lo_hBW_b9 := Nat.le_trans (Bel.size hBW) hr
 replace hB := hB.tr0 hs
 replace hb4 := hb4.tr0 hs
 replace hb5 := hb5.tr0 hs
 replace hb6 := hb6.tr0 hs
 replace hb7 := hb7.tr0 hs
 replace hb29 := hb29.tr0 hs
 replace hBW := hBW.tr0 hs
 clear hs
 clear hr
 refine wl_al (cs := #[.int .i64 0, .int .i64 0]) ze30_SFind rfl (fun b11 w11 hb11 hs hr => ?_)
 have or_b4_b11 : b4 < b11 := Nat.lt_of_lt_of_le hb4.lt hr
 have or_b5_b11 : b5 < b11 := Nat.lt_of_lt_of_le hb5.lt hr
 have or_b6_b11 : b6 < b11 := Nat.lt_of_lt_of_le hb6.lt hr
 have or_b7_b11 : b7 < b11 := Nat.lt_of_lt_of_le hb7.lt hr
 have or_b29_b11 : b29 < b11 := Nat.lt_of_lt_of_le hb29.lt hr
 have or_b9_b11 : b9 < b11 := Nat.lt_of_lt_of_le hb9.lt hr
 have lo11 := Nat.le_trans (Bel.size hB) hr
 have lo_hBW_b11 := Nat.le_trans (Bel.size hBW) hr
 replace hB := hB.tr0 hs
 replace hb4 := hb4.tr0 hs
 replace hb5 := hb5.tr0 hs
 replace hb6 := hb6.tr0 hs
 replace hb7 := hb7.tr0 hs
 replace hb29 := hb29.tr0 hs
 replace hBW := hBW.tr0 hs
 replace hb9 := hb9.tr0 hs
 clear hs
 clear hr
 refine wl_stW hb9 rfl rfl sz28 rfl (by repeat (first | rfl | refine one_cons (by first | rfl | assumption) ?_)) (fun w12 hq hs => ?_)
 replace hB := hB.tr1 hs lo9
 replace hb4 := hb4.tr1 hs (by omega)
 replace hb5 := hb5.tr1 hs (by omega)
 replace hb6 := hb6.tr1 hs (by omega)
 replace hb7 := hb7.tr1 hs (by omega)
 replace hb29 := hb29.tr1 hs (by omega)
 replace hBW := hBW.tr1 hs lo_hBW_b9
 replace hb11 := hb11.tr1 hs (by omega)
 clear hs
 replace hb9 := hq
 refine wl (r_as (v := .bool _) rfl) ?_
 refine wl_stW hb11 rfl rfl sz30_SFind rfl (by repeat (first | rfl | refine one_cons (by first | rfl | assumption) ?_)) (fun w13 hq hs => ?_)
 replace hB := hB.tr1 hs lo11
 replace hb4 := hb4.tr1 hs (by omega)
 replace hb5 := hb5.tr1 hs (by omega)
 replace hb6 := hb6.tr1 hs (by omega)
 replace hb7 := hb7.tr1 hs (by omega)
 replace hb29 := hb29.tr1 hs (by omega)
 replace hBW := hBW.tr1 hs lo_hBW_b11
 replace hb9 := hb9.tr1 hs (by omega)
 clear hs
 replace hb11 := hq
 refine x_nil ?_
 refine e_S ?_
 refine c_seq ?_
 refine c_monoGO 8 [34, 35, 36, 37, 38, 39, 40, 41] (fun _ => false) (fun ix v wv => match ix with | 0 => v = .bool true | 1 => v = .bool false | 2 => v = .bool false | 3 => v = .agg #[.slice GW 2 2] | 4 => ∃ AS, v = .agg #[.slice AS 2 2] ∧ NodesIn wv AS sharedG | 5 => v = .bool true | 6 => v = .bool false | 7 => v = .bool false | _ => True) (by kernel_rfl) (by kernel_rfl) ?_ ?_ ?_
 ·
  intro ix v wv wv2 h hs
  match ix, h with
  | 0, h => exact h
  | 1, h => exact h
  | 2, h => exact h
  | 3, h => exact h
  | 4, h =>
   obtain ⟨AS, e38, hNS⟩ := (show ∃ AS, v = .agg #[.slice AS 2 2] ∧ NodesIn wv AS sharedG from h)
   exact ⟨AS, e38, hNS.mono hs.bel⟩
  | 5, h => exact h
  | 6, h => exact h
  | 7, h => exact h
  | _ + 8, h => exact trivial
 ·
  intro ix o hix hoq gg wx hs hd hdis
  match ix, hix, hoq with
  | 0, _, hoq =>
   obtain rfl : _ = o := Option.some.inj hoq
   have hs0 := hs
   clear hs
   refine ⟨fun _ => ?_, fun hw => Bool.noConfusion (show true = false from hw)⟩
   refine os_rv (r_mv (v := .bool _) rfl) ⟨Same.refl _ _, ?_, frsh_no⟩
   exact rfl
  | 1, _, hoq =>
   obtain rfl : _ = o := Option.some.inj hoq
   have hs0 := hs
   clear hs
   have d0 : gg 34 = .bool true := hd 0 (dep_of (by kernel_rfl))
   have e34 := d0
   refine ⟨fun _ => ?_, fun hw => Bool.noConfusion (show true = false from hw)⟩
   refine os_know 34 (.bool true) e34 (by simp [undef]) ?_
   refine os_rv (r_not rfl) ⟨Same.refl _ _, ?_, frsh_no⟩
   exact rfl
  | 2, _, hoq =>
   obtain rfl : _ = o := Option.some.inj hoq
   have hs0 := hs
   clear hs
   have d1 : gg 35 = .bool false := hd 1 (dep_of (by kernel_rfl))
   have e35 := d1
   refine ⟨fun _ => ?_, fun hw => Bool.noConfusion (show true = false from hw)⟩
   refine os_know 35 (.bool false) e35 (by simp [undef]) ?_
   refine os_rv (r_mv (v := .bool _) rfl) ⟨Same.refl _ _, ?_, frsh_no⟩
   exact rfl
  | 3, _, hoq =>
   obtain rfl : _ = o := Option.some.inj hoq
   have hs0 := hs
   replace hb9 := hb9.tr0 hs
   clear hs
   have d2 : gg 36 = .bool false := hd 2 (dep_of (by kernel_rfl))
   have e36 := d2
   refine guard_case 36 false rfl e36 (fun _ => ?_) (fun h => absurd h (by decide))
   refine os_know 36 (.bool false) e36 (by simp [undef]) ?_
   refine os_rv (r_ldS Tryd.underlying28 rfl rfl hb9.range0 sz28) ⟨Same.refl _ _, ?_, frsh_no⟩
   exact rfl
  | 4, _, hoq =>
   obtain rfl : _ = o := Option.some.inj hoq
   have hs0 := hs
   clear hs
   have d2 : gg 36 = .bool false := hd 2 (dep_of (by kernel_rfl))
   have e36 := d2
   refine guard_case 36 false rfl e36 (fun _ => ?_) (fun h => absurd h (by decide))
   refine os_know 36 (.bool false) e36 (by simp [undef]) ?_
   refine os_cl fn11_UOrd (shared_any wx) rfl (fun e' w2 hr => ?_)
   obtain ⟨⟨AS, rfl, hNS⟩, hs⟩ := hr
   exact ⟨_, rfl, Same.of_bel hs, ⟨_, rfl, hNS⟩, frsh_no⟩
  | 5, _, hoq =>
   obtain rfl : _ = o := Option.some.inj hoq
   have hs0 := hs
   replace hBW := hBW.tr0 hs
   clear hs
   have d2 : gg 36 = .bool false := hd 2 (dep_of (by kernel_rfl))
   have e36 := d2
   have d3 : gg 37 = .agg #[.slice GW 2 2] := hd 3 (dep_of (by kernel_rfl))
   have e37 := d3
   have d4 : ∃ AS, gg 38 = .agg #[.slice AS 2 2] ∧ NodesIn wx AS sharedG := hd 4 (dep_of (by kernel_rfl))
   obtain ⟨AS, e38, hNS⟩ := d4
   refine guard_case 36 false rfl e36 (fun _ => ?_) (fun h => absurd h (by decide))
   refine os_know 36 (.bool false) e36 (by simp [undef]) ?_
   refine os_know 37 (.agg #[.slice GW 2 2]) e37 (by simp [undef]) ?_
   refine os_know 38 (.agg #[.slice AS 2 2]) e38 (by simp [undef]) ?_
   refine os_cl fn13_UOrd (same_any GW AS 2 2 2 2 sharedG sharedG wx (hGW.mono hBW) hNS rfl rfl rfl) rfl (fun e' w2 hr => ?_)
   obtain ⟨rfl, hs⟩ := hr
   exact ⟨_, rfl, Same.of_bel hs, rfl, frsh_no⟩
  | 6, _, hoq =>
   obtain rfl : _ = o := Option.some.inj hoq
   have hs0 := hs
   clear hs
   have d2 : gg 36 = .bool false := hd 2 (dep_of (by kernel_rfl))
   have e36 := d2
   have d5 : gg 39 = .bool true := hd 5 (dep_of (by kernel_rfl))
   have e39 := d5
   refine guard_case 36 false rfl e36 (fun _ => ?_) (fun h => absurd h (by decide))
   refine os_know 36 (.bool false) e36 (by simp [undef]) ?_
   refine os_know 39 (.bool true) e39 (by simp [undef]) ?_
   refine os_rv (r_not rfl) ⟨Same.refl _ _, ?_, frsh_no⟩
   exact rfl
  | 7, _, hoq =>
   obtain rfl : _ = o := Option.some.inj hoq
   have hs0 := hs
   clear hs
   have d2 : gg 36 = .bool false := hd 2 (dep_of (by kernel_rfl))
   have e36 := d2
   have d6 : gg 40 = .bool false := hd 6 (dep_of (by kernel_rfl))
   have e40 := d6
   refine ⟨fun _ => ?_, fun hw => Bool.noConfusion (show true = false from hw)⟩
   refine os_know 36 (.bool false) e36 (by simp [undef]) ?_
   refine os_know 40 (.bool false) e40 (by simp [undef]) ?_
   refine os_rv (r_pf (v := .bool _) rfl rfl) ⟨Same.refl _ _, ?_, frsh_no⟩
   exact rfl
  | _ + 8, hix, _ => exact absurd hix (by omega)
 ·
  intro gg w14 hs hR hdis
  have hs0 := hs
  replace hB := hB.tr0 hs
  replace hb4 := hb4.tr0 hs
  replace hb5 := hb5.tr0 hs
  replace hb6 := hb6.tr0 hs
  replace hb7 := hb7.tr0 hs
  replace hb29 := hb29.tr0 hs
  replace hBW := hBW.tr0 hs
  replace hb9 := hb9.tr0 hs
  replace hb11 := hb11.tr0 hs
  clear hs
  have d7 : gg 41 = .bool false := hR 7 (by decide)
  have e41 := d7
  refine wl_know 41 (.bool false) e41 (by simp [undef]) ?_
  refine x_nil ?_
  refine e_S ?_
  refine c_if rfl (fun c41 => ?_) (fun c41 => ?_)
  ·
   exact absurd c41 (by decide)
  ·
   refine c_skip ?_
   refine e_S ?_
   refine c_seq ?_
   refine c_seq ?_
   refine c_region ?_
   refine wl (r_ldS Tryd.underlying25 rfl rfl hb4.range0 sz25_SFind) ?_
   refine wl (r_ldS Tryd.underlying28 rfl rfl hb5.range0 sz28) ?_
   refine wl (r_ldS Tryd.underlying28 rfl rfl hb6.range0 sz28) ?_
   refine wl_cl fn14_UOrd (twof_any A B G1 G2 c d c1 c2 l fs ga gb _ hcl hdl (hT.mono hB) (hF.mono hB) (hG1.mono hB) (hG2.mono hB)) rfl (fun e' w15 hr => ?_)
   obtain ⟨rfl, hs⟩ := hr
   replace hs := Same.of_bel hs
   replace hB := hB.tr0 hs
   replace hb4 := hb4.tr0 hs
   replace hb5 := hb5.tr0 hs
   replace hb6 := hb6.tr0 hs
   replace hb7 := hb7.tr0 hs
   replace hb29 := hb29.tr0 hs
   replace hb9 := hb9.tr0 hs
   replace hb11 := hb11.tr0 hs
   clear hs
   refine ⟨_, rfl, ?_⟩
   refine wl (r_fd1 (v := .int _ _) Tryd.underlying30 rfl Tryd.underlying3 rfl rfl rfl) ?_
   refine wl (r_neq rfl rfl) ?_
   refine wl (r_mv (v := .bool _) rfl) ?_
   refine wl_casesd 48 rfl (fun g48 => ?_) (fun g48 => ?_)
   ·
    refine wlgn 48 rfl rfl rfl ?_
    refine wlgn 48 rfl rfl rfl ?_
    refine wlgn 48 rfl rfl rfl ?_
    refine wlgn 48 rfl rfl rfl ?_
    refine wlgn 48 rfl rfl rfl ?_
    refine wl (r_pt (v := .bool _) rfl rfl) ?_
    refine x_nil ?_
    refine e_S ?_
    refine c_yes rfl ?_
    refine c_seq ?_
    refine c_region ?_
    refine wl (r_as (v := .bool _) rfl) ?_
    refine x_nil ?_
    refine e_S ?_
    refine c_ret ?_
    refine e_Sr ?_
    refine fin1 (.inl rfl) rfl rfl ?_
    exact ⟨rfl, hB⟩
   ·
    have h0 := Decidable.not_not.1 g48
    obtain ⟨⟨hva, hvb⟩, hga0, hgb0⟩ := two_gv h0
    refine wl_gd 48 rfl rfl ?_
    refine wl (r_ldS Tryd.underlying25 rfl rfl hb4.range0 sz25_SFind) ?_
    refine wl_gd 48 rfl rfl ?_
    refine wl (r_ldS Tryd.underlying28 rfl rfl hb7.range0 sz28) ?_
    refine wl_gd 48 rfl rfl ?_
    refine wl_cl fn15_SFind (inh_any A B G3 c d c3 l fs gc _ (hT.mono hB) hva.s.vt hva.s.le (hF.mono hB) (hG3.mono hB) hva.f) rfl (fun e' w16 hr => ?_)
    obtain ⟨rfl, hs⟩ := hr
    replace hs := Same.of_bel hs
    replace hB := hB.tr0 hs
    replace hb4 := hb4.tr0 hs
    replace hb5 := hb5.tr0 hs
    replace hb6 := hb6.tr0 hs
    replace hb7 := hb7.tr0 hs
    replace hb29 := hb29.tr0 hs
    replace hb9 := hb9.tr0 hs
    replace hb11 := hb11.tr0 hs
    clear hs
    refine ⟨_, rfl, ?_⟩
    refine wl_gd 48 rfl rfl ?_
    refine wl (r_fd1 (v := .int _ _) Tryd.underlying30 rfl Tryd.underlying3 rfl rfl rfl) ?_
    refine wl_gd 48 rfl rfl ?_
    refine wl (r_neq rfl rfl) ?_
    refine wl (r_pf (v := .bool _) rfl rfl) ?_
    refine x_nil ?_
    refine e_S ?_
    refine c_ifd rfl (fun c54 => ?_) (fun c54 => ?_)
    ·
     refine c_seq ?_
     refine c_region ?_
     refine wl (r_as (v := .bool _) rfl) ?_
     refine x_nil ?_
     refine e_S ?_
     refine c_ret ?_
     refine e_Sr ?_
     refine fin1 (.inl rfl) rfl rfl ?_
     exact ⟨rfl, hB⟩
    ·
     have hc0 := Decidable.not_not.1 c54
     have hgc0 : (graphF l fs gc).1 = 0 := by rw [gf_in hva.h]; exact hc0
     have hvc := gv_of hgc0
     refine c_skip ?_
     refine e_S ?_
     refine c_seq ?_
     refine c_region ?_
     refine wl (r_ldS Tryd.underlying25 rfl rfl hb4.range0 sz25_SFind) ?_
     refine wl (r_ldS Tryd.underlying28 rfl rfl hb5.range0 sz28) ?_
     refine wl (r_ldS Tryd.underlying28 rfl rfl hb6.range0 sz28) ?_
     refine wl (r_ldS Tryd.underlying28 rfl rfl hb7.range0 sz28) ?_
     refine wl_bs (cs := #[_, _, _]) [(0, .agg _), (1, .agg _), (2, .agg _)] rfl Tryd.underlying35 sz28 ze28 (by decide) (by decide) (by kernel_rfl) rfl (fun b60 w17 hb60 hs hr => ?_)
     have or_b4_b60 : b4 < b60 := Nat.lt_of_lt_of_le hb4.lt hr
     have or_b5_b60 : b5 < b60 := Nat.lt_of_lt_of_le hb5.lt hr
     have or_b6_b60 : b6 < b60 := Nat.lt_of_lt_of_le hb6.lt hr
     have or_b7_b60 : b7 < b60 := Nat.lt_of_lt_of_le hb7.lt hr
     have or_b29_b60 : b29 < b60 := Nat.lt_of_lt_of_le hb29.lt hr
     have or_b9_b60 : b9 < b60 := Nat.lt_of_lt_of_le hb9.lt hr
     have or_b11_b60 : b11 < b60 := Nat.lt_of_lt_of_le hb11.lt hr
     have lo60 := Nat.le_trans (Bel.size hB) hr
     replace hB := hB.tr0 hs
     replace hb4 := hb4.tr0 hs
     replace hb5 := hb5.tr0 hs
     replace hb6 := hb6.tr0 hs
     replace hb7 := hb7.tr0 hs
     replace hb29 := hb29.tr0 hs
     replace hb9 := hb9.tr0 hs
     replace hb11 := hb11.tr0 hs
     clear hs
     clear hr
     refine wl_cl fn9 (uall_any A B (some ⟨b60, 0, none⟩) c d 3 l fs [ga, gb, gc] _ (hTab.mono hB) (hT.mono hB) (hF.mono hB) (grs_of_blk hb60 (.cons (hG1.mono hB) (.cons (hG2.mono hB) (.cons (hG3.mono hB) (.nil)))) (by show 3 ≤ maxI; decide))) rfl (fun e' w18 hr => ?_)
     obtain ⟨⟨AX, XX, okX, fX, rfl, hNX, hUX⟩, hs⟩ := hr
     replace hs := Same.of_bel hs
     replace hB := hB.tr0 hs
     replace hb4 := hb4.tr0 hs
     replace hb5 := hb5.tr0 hs
     replace hb6 := hb6.tr0 hs
     replace hb7 := hb7.tr0 hs
     replace hb29 := hb29.tr0 hs
     replace hb9 := hb9.tr0 hs
     replace hb11 := hb11.tr0 hs
     replace hb60 := hb60.tr0 hs
     clear hs
     replace hNX := hNX w18 (FrSame.refl _ _)
     have hBuX : Bel w18 w18 := Below.refl _ _
     refine ⟨_, rfl, ?_⟩
     refine wl (r_mv (v := .tuple _) rfl) ?_
     refine wl (r_ex (v := _) rfl rfl) ?_
     refine wl (r_ex (v := _) rfl rfl) ?_
     refine wl (r_ex (v := _) rfl rfl) ?_
     refine wl_al (cs := #[.slice none 0 0]) ze28 rfl (fun b12 w19 hb12 hs hr => ?_)
     have or_b4_b12 : b4 < b12 := Nat.lt_of_lt_of_le hb4.lt hr
     have or_b5_b12 : b5 < b12 := Nat.lt_of_lt_of_le hb5.lt hr
     have or_b6_b12 : b6 < b12 := Nat.lt_of_lt_of_le hb6.lt hr
     have or_b7_b12 : b7 < b12 := Nat.lt_of_lt_of_le hb7.lt hr
     have or_b29_b12 : b29 < b12 := Nat.lt_of_lt_of_le hb29.lt hr
     have or_b9_b12 : b9 < b12 := Nat.lt_of_lt_of_le hb9.lt hr
     have or_b11_b12 : b11 < b12 := Nat.lt_of_lt_of_le hb11.lt hr
     have or_b60_b12 : b60 < b12 := Nat.lt_of_lt_of_le hb60.lt hr
     have lo12 := Nat.le_trans (Bel.size hB) hr
     have lo_hBuX_b12 := Nat.le_trans (Bel.size hBuX) hr
     replace hB := hB.tr0 hs
     replace hb4 := hb4.tr0 hs
     replace hb5 := hb5.tr0 hs
     replace hb6 := hb6.tr0 hs
     replace hb7 := hb7.tr0 hs
     replace hb29 := hb29.tr0 hs
     replace hb9 := hb9.tr0 hs
     replace hb11 := hb11.tr0 hs
     replace hb60 := hb60.tr0 hs
     replace hBuX := hBuX.tr0 hs
     clear hs
     clear hr
     refine wl_al (cs := #[.int .i64 0, .int .i64 0]) ze30_SFind rfl (fun b14 w20 hb14 hs hr => ?_)
     have or_b4_b14 : b4 < b14 := Nat.lt_of_lt_of_le hb4.lt hr
     have or_b5_b14 : b5 < b14 := Nat.lt_of_lt_of_le hb5.lt hr
     have or_b6_b14 : b6 < b14 := Nat.lt_of_lt_of_le hb6.lt hr
     have or_b7_b14 : b7 < b14 := Nat.lt_of_lt_of_le hb7.lt hr
     have or_b29_b14 : b29 < b14 := Nat.lt_of_lt_of_le hb29.lt hr
     have or_b9_b14 : b9 < b14 := Nat.lt_of_lt_of_le hb9.lt hr
     have or_b11_b14 : b11 < b14 := Nat.lt_of_lt_of_le hb11.lt hr
     have or_b60_b14 : b60 < b14 := Nat.lt_of_lt_of_le hb60.lt hr
     have or_b12_b14 : b12 < b14 := Nat.lt_of_lt_of_le hb12.lt hr
     have lo14 := Nat.le_trans (Bel.size hB) hr
     have lo_hBuX_b14 := Nat.le_trans (Bel.size hBuX) hr
     replace hB := hB.tr0 hs
     replace hb4 := hb4.tr0 hs
     replace hb5 := hb5.tr0 hs
     replace hb6 := hb6.tr0 hs
     replace hb7 := hb7.tr0 hs
     replace hb29 := hb29.tr0 hs
     replace hb9 := hb9.tr0 hs
     replace hb11 := hb11.tr0 hs
     replace hb60 := hb60.tr0 hs
     replace hBuX := hBuX.tr0 hs
     replace hb12 := hb12.tr0 hs
     clear hs
     clear hr
     refine wl_stW hb12 rfl rfl sz28 rfl (by repeat (first | rfl | refine one_cons (by first | rfl | assumption) ?_)) (fun w21 hq hs => ?_)
     replace hB := hB.tr1 hs lo12
     replace hb4 := hb4.tr1 hs (by omega)
     replace hb5 := hb5.tr1 hs (by omega)
     replace hb6 := hb6.tr1 hs (by omega)
     replace hb7 := hb7.tr1 hs (by omega)
     replace hb29 := hb29.tr1 hs (by omega)
     replace hb9 := hb9.tr1 hs (by omega)
     replace hb11 := hb11.tr1 hs (by omega)
     replace hb60 := hb60.tr1 hs (by omega)
     replace hBuX := hBuX.tr1 hs lo_hBuX_b12
     replace hb14 := hb14.tr1 hs (by omega)
     clear hs
     replace hb12 := hq
     refine wl (r_as (v := .bool _) rfl) ?_
     refine wl_stW hb14 rfl rfl sz30_SFind rfl (by repeat (first | rfl | refine one_cons (by first | rfl | assumption) ?_)) (fun w22 hq hs => ?_)
     replace hB := hB.tr1 hs lo14
     replace hb4 := hb4.tr1 hs (by omega)
     replace hb5 := hb5.tr1 hs (by omega)
     replace hb6 := hb6.tr1 hs (by omega)
     replace hb7 := hb7.tr1 hs (by omega)
     replace hb29 := hb29.tr1 hs (by omega)
     replace hb9 := hb9.tr1 hs (by omega)
     replace hb11 := hb11.tr1 hs (by omega)
     replace hb60 := hb60.tr1 hs (by omega)
     replace hBuX := hBuX.tr1 hs lo_hBuX_b14
     replace hb12 := hb12.tr1 hs (by omega)
     clear hs
     replace hb14 := hq
     refine x_nil ?_
     refine e_S ?_
     refine c_seq ?_
     refine c_region ?_
     refine wl (r_ldS Tryd.underlying25 rfl rfl hb4.range0 sz25_SFind) ?_
     refine wl (r_ldS Tryd.underlying28 rfl rfl hb7.range0 sz28) ?_
     refine wl (r_ldS Tryd.underlying28 rfl rfl hb5.range0 sz28) ?_
     refine wl (r_ldS Tryd.underlying28 rfl rfl hb6.range0 sz28) ?_
     refine wl (r_ldS Tryd.underlying28 rfl rfl hb5.range0 sz28) ?_
     refine wl (r_ldS Tryd.underlying28 rfl rfl hb7.range0 sz28) ?_
     refine wl_bs (cs := #[_, _, _, _, _]) [(0, .agg _), (1, .agg _), (2, .agg _), (3, .agg _), (4, .agg _)] rfl Tryd.underlying35 sz28 ze28 (by decide) (by decide) (by kernel_rfl) rfl (fun b72 w23 hb72 hs hr => ?_)
     have or_b4_b72 : b4 < b72 := Nat.lt_of_lt_of_le hb4.lt hr
     have or_b5_b72 : b5 < b72 := Nat.lt_of_lt_of_le hb5.lt hr
     have or_b6_b72 : b6 < b72 := Nat.lt_of_lt_of_le hb6.lt hr
     have or_b7_b72 : b7 < b72 := Nat.lt_of_lt_of_le hb7.lt hr
     have or_b29_b72 : b29 < b72 := Nat.lt_of_lt_of_le hb29.lt hr
     have or_b9_b72 : b9 < b72 := Nat.lt_of_lt_of_le hb9.lt hr
     have or_b11_b72 : b11 < b72 := Nat.lt_of_lt_of_le hb11.lt hr
     have or_b60_b72 : b60 < b72 := Nat.lt_of_lt_of_le hb60.lt hr
     have or_b12_b72 : b12 < b72 := Nat.lt_of_lt_of_le hb12.lt hr
     have or_b14_b72 : b14 < b72 := Nat.lt_of_lt_of_le hb14.lt hr
     have lo72 := Nat.le_trans (Bel.size hB) hr
     have lo_hBuX_b72 := Nat.le_trans (Bel.size hBuX) hr
     replace hB := hB.tr0 hs
     replace hb4 := hb4.tr0 hs
     replace hb5 := hb5.tr0 hs
     replace hb6 := hb6.tr0 hs
     replace hb7 := hb7.tr0 hs
     replace hb29 := hb29.tr0 hs
     replace hb9 := hb9.tr0 hs
     replace hb11 := hb11.tr0 hs
     replace hb60 := hb60.tr0 hs
     replace hBuX := hBuX.tr0 hs
     replace hb12 := hb12.tr0 hs
     replace hb14 := hb14.tr0 hs
     clear hs
     clear hr
     refine wl_cl fn9 (uall_any A B (some ⟨b72, 0, none⟩) c d 5 l fs [gc, ga, gb, ga, gc] _ (hTab.mono hB) (hT.mono hB) (hF.mono hB) (grs_of_blk hb72 (.cons (hG3.mono hB) (.cons (hG1.mono hB) (.cons (hG2.mono hB) (.cons (hG1.mono hB) (.cons (hG3.mono hB) (.nil)))))) (by show 5 ≤ maxI; decide))) rfl (fun e' w24 hr => ?_)
     obtain ⟨⟨AY, XY, okY, fY, rfl, hNY, hUY⟩, hs⟩ := hr
     replace hs := Same.of_bel hs
     replace hB := hB.tr0 hs
     replace hb4 := hb4.tr0 hs
     replace hb5 := hb5.tr0 hs
     replace hb6 := hb6.tr0 hs
     replace hb7 := hb7.tr0 hs
     replace hb29 := hb29.tr0 hs
     replace hb9 := hb9.tr0 hs
     replace hb11 := hb11.tr0 hs
     replace hb60 := hb60.tr0 hs
     replace hBuX := hBuX.tr0 hs
     replace hb12 := hb12.tr0 hs
     replace hb14 := hb14.tr0 hs
     replace hb72 := hb72.tr0 hs
     clear hs
     replace hNY := hNY w24 (FrSame.refl _ _)
     have hBuY : Bel w24 w24 := Below.refl _ _
     obtain ⟨ef, eo, eX⟩ := alls_same (three_zero hva.h hga0 hgb0 hgc0 (by simp) (by simp)) (three_zero hva.h hga0 hgb0 hgc0 (by simp) (by simp)) (fun c _ => amaps_five) hUX hUY
     subst ef eo eX
     refine ⟨_, rfl, ?_⟩
     refine wl (r_mv (v := .tuple _) rfl) ?_
     refine wl (r_ex (v := _) rfl rfl) ?_
     refine wl (r_ex (v := _) rfl rfl) ?_
     refine wl (r_ex (v := _) rfl rfl) ?_
     refine wl_al (cs := #[.slice none 0 0]) ze28 rfl (fun b15 w25 hb15 hs hr => ?_)
     have or_b4_b15 : b4 < b15 := Nat.lt_of_lt_of_le hb4.lt hr
     have or_b5_b15 : b5 < b15 := Nat.lt_of_lt_of_le hb5.lt hr
     have or_b6_b15 : b6 < b15 := Nat.lt_of_lt_of_le hb6.lt hr
     have or_b7_b15 : b7 < b15 := Nat.lt_of_lt_of_le hb7.lt hr
     have or_b29_b15 : b29 < b15 := Nat.lt_of_lt_of_le hb29.lt hr
     have or_b9_b15 : b9 < b15 := Nat.lt_of_lt_of_le hb9.lt hr
     have or_b11_b15 : b11 < b15 := Nat.lt_of_lt_of_le hb11.lt hr
     have or_b60_b15 : b60 < b15 := Nat.lt_of_lt_of_le hb60.lt hr
     have or_b12_b15 : b12 < b15 := Nat.lt_of_lt_of_le hb12.lt hr
     have or_b14_b15 : b14 < b15 := Nat.lt_of_lt_of_le hb14.lt hr
     have or_b72_b15 : b72 < b15 := Nat.lt_of_lt_of_le hb72.lt hr
     have lo15 := Nat.le_trans (Bel.size hB) hr
     have lo_hBuX_b15 := Nat.le_trans (Bel.size hBuX) hr
     have lo_hBuY_b15 := Nat.le_trans (Bel.size hBuY) hr
     replace hB := hB.tr0 hs
     replace hb4 := hb4.tr0 hs
     replace hb5 := hb5.tr0 hs
     replace hb6 := hb6.tr0 hs
     replace hb7 := hb7.tr0 hs
     replace hb29 := hb29.tr0 hs
     replace hb9 := hb9.tr0 hs
     replace hb11 := hb11.tr0 hs
     replace hb60 := hb60.tr0 hs
     replace hBuX := hBuX.tr0 hs
     replace hb12 := hb12.tr0 hs
     replace hb14 := hb14.tr0 hs
     replace hb72 := hb72.tr0 hs
     replace hBuY := hBuY.tr0 hs
     clear hs
     clear hr
     refine wl_al (cs := #[.int .i64 0, .int .i64 0]) ze30_SFind rfl (fun b17 w26 hb17 hs hr => ?_)
     have or_b4_b17 : b4 < b17 := Nat.lt_of_lt_of_le hb4.lt hr
     have or_b5_b17 : b5 < b17 := Nat.lt_of_lt_of_le hb5.lt hr
     have or_b6_b17 : b6 < b17 := Nat.lt_of_lt_of_le hb6.lt hr
     have or_b7_b17 : b7 < b17 := Nat.lt_of_lt_of_le hb7.lt hr
     have or_b29_b17 : b29 < b17 := Nat.lt_of_lt_of_le hb29.lt hr
     have or_b9_b17 : b9 < b17 := Nat.lt_of_lt_of_le hb9.lt hr
     have or_b11_b17 : b11 < b17 := Nat.lt_of_lt_of_le hb11.lt hr
     have or_b60_b17 : b60 < b17 := Nat.lt_of_lt_of_le hb60.lt hr
     have or_b12_b17 : b12 < b17 := Nat.lt_of_lt_of_le hb12.lt hr
     have or_b14_b17 : b14 < b17 := Nat.lt_of_lt_of_le hb14.lt hr
     have or_b72_b17 : b72 < b17 := Nat.lt_of_lt_of_le hb72.lt hr
     have or_b15_b17 : b15 < b17 := Nat.lt_of_lt_of_le hb15.lt hr
     have lo17 := Nat.le_trans (Bel.size hB) hr
     have lo_hBuX_b17 := Nat.le_trans (Bel.size hBuX) hr
     have lo_hBuY_b17 := Nat.le_trans (Bel.size hBuY) hr
     replace hB := hB.tr0 hs
     replace hb4 := hb4.tr0 hs
     replace hb5 := hb5.tr0 hs
     replace hb6 := hb6.tr0 hs
     replace hb7 := hb7.tr0 hs
     replace hb29 := hb29.tr0 hs
     replace hb9 := hb9.tr0 hs
     replace hb11 := hb11.tr0 hs
     replace hb60 := hb60.tr0 hs
     replace hBuX := hBuX.tr0 hs
     replace hb12 := hb12.tr0 hs
     replace hb14 := hb14.tr0 hs
     replace hb72 := hb72.tr0 hs
     replace hBuY := hBuY.tr0 hs
     replace hb15 := hb15.tr0 hs
     clear hs
     clear hr
     refine wl_stW hb15 rfl rfl sz28 rfl (by repeat (first | rfl | refine one_cons (by first | rfl | assumption) ?_)) (fun w27 hq hs => ?_)
     replace hB := hB.tr1 hs lo15
     replace hb4 := hb4.tr1 hs (by omega)
     replace hb5 := hb5.tr1 hs (by omega)
     replace hb6 := hb6.tr1 hs (by omega)
     replace hb7 := hb7.tr1 hs (by omega)
     replace hb29 := hb29.tr1 hs (by omega)
     replace hb9 := hb9.tr1 hs (by omega)
     replace hb11 := hb11.tr1 hs (by omega)
     replace hb60 := hb60.tr1 hs (by omega)
     replace hBuX := hBuX.tr1 hs lo_hBuX_b15
     replace hb12 := hb12.tr1 hs (by omega)
     replace hb14 := hb14.tr1 hs (by omega)
     replace hb72 := hb72.tr1 hs (by omega)
     replace hBuY := hBuY.tr1 hs lo_hBuY_b15
     replace hb17 := hb17.tr1 hs (by omega)
     clear hs
     replace hb15 := hq
     refine wl (r_as (v := .bool _) rfl) ?_
     refine wl_stW hb17 rfl rfl sz30_SFind rfl (by repeat (first | rfl | refine one_cons (by first | rfl | assumption) ?_)) (fun w28 hq hs => ?_)
     replace hB := hB.tr1 hs lo17
     replace hb4 := hb4.tr1 hs (by omega)
     replace hb5 := hb5.tr1 hs (by omega)
     replace hb6 := hb6.tr1 hs (by omega)
     replace hb7 := hb7.tr1 hs (by omega)
     replace hb29 := hb29.tr1 hs (by omega)
     replace hb9 := hb9.tr1 hs (by omega)
     replace hb11 := hb11.tr1 hs (by omega)
     replace hb60 := hb60.tr1 hs (by omega)
     replace hBuX := hBuX.tr1 hs lo_hBuX_b17
     replace hb12 := hb12.tr1 hs (by omega)
     replace hb14 := hb14.tr1 hs (by omega)
     replace hb72 := hb72.tr1 hs (by omega)
     replace hBuY := hBuY.tr1 hs lo_hBuY_b17
     replace hb15 := hb15.tr1 hs (by omega)
     clear hs
     replace hb17 := hq
     refine x_nil ?_
     refine e_S ?_
     refine c_seq ?_
     refine c_seq ?_
     refine c_region ?_
     refine wl (r_ldS Tryd.underlying30 rfl rfl hb14.range0 sz30_SFind) ?_
     refine wl (r_ldS Tryd.underlying30 rfl rfl hb17.range0 sz30_SFind) ?_
     refine wl (r_neF Tryd.eqGuardType30 ft30 Tryd.stoodInHeld30 fd30 Tryd.underlying3 rfl rfl) ?_
     refine wl (r_mv (v := .bool false) (congrArg Value.bool (decide_eq_false (fun h => h ⟨rfl, rfl⟩)))) ?_
     refine wl_gd 80 rfl rfl ?_
     refine wl (r_mv (v := .bool _) rfl) ?_
     refine wl_gd 80 rfl rfl ?_
     refine wl (r_mv (v := .bool _) rfl) ?_
     refine wl_gd 80 rfl rfl ?_
     refine wl (r_neqB Tryd.underlying4 rfl rfl) ?_
     refine wl (r_pf (v := .bool _) rfl rfl) ?_
     refine wl (r_mv (v := .bool false) (congrArg Value.bool (by cases okX <;> rfl))) ?_
     refine wl_gd 85 rfl rfl ?_
     refine wl (r_ldS Tryd.underlying28 rfl rfl hb12.range0 sz28) ?_
     refine wl_gd 85 rfl rfl ?_
     refine wl (r_ldS Tryd.underlying28 rfl rfl hb15.range0 sz28) ?_
     refine wl_gd 85 rfl rfl ?_
     refine wl_cl fn13_UOrd (same_any AX AY _ _ _ _ _ _ _ (hNX.mono hBuX) (hNY.mono hBuY) rfl rfl rfl) rfl (fun e' w29 hr => ?_)
     obtain ⟨rfl, hs⟩ := hr
     replace hs := Same.of_bel hs
     replace hB := hB.tr0 hs
     replace hb4 := hb4.tr0 hs
     replace hb5 := hb5.tr0 hs
     replace hb6 := hb6.tr0 hs
     replace hb7 := hb7.tr0 hs
     replace hb29 := hb29.tr0 hs
     replace hb9 := hb9.tr0 hs
     replace hb11 := hb11.tr0 hs
     replace hb60 := hb60.tr0 hs
     replace hBuX := hBuX.tr0 hs
     replace hb12 := hb12.tr0 hs
     replace hb14 := hb14.tr0 hs
     replace hb72 := hb72.tr0 hs
     replace hBuY := hBuY.tr0 hs
     replace hb15 := hb15.tr0 hs
     replace hb17 := hb17.tr0 hs
     clear hs
     refine ⟨_, rfl, ?_⟩
     refine wl_gd 85 rfl rfl ?_
     refine wl (r_not rfl) ?_
     refine wl (r_pf (v := .bool _) rfl rfl) ?_
     refine x_nil ?_
     refine e_S ?_
     refine c_if rfl (fun c90 => ?_) (fun c90 => ?_)
     ·
      exact absurd c90 (by decide)
     ·
      refine c_skip ?_
      refine e_S ?_
      refine c_seq ?_
      refine c_region ?_
      refine wl (r_ldS Tryd.underlying25 rfl rfl hb4.range0 sz25_SFind) ?_
      refine wl (r_ldS Tryd.underlying28 rfl rfl hb5.range0 sz28) ?_
      refine wl (r_ldS Tryd.underlying28 rfl rfl hb6.range0 sz28) ?_
      refine wl_cl fn16_UOrd (unify_any A B G1 G2 c d c1 c2 l fs ga gb _ (hTab.mono hB) (hT.mono hB) (hF.mono hB) (hG1.mono hB) (hG2.mono hB)) rfl (fun e' w30 hr => ?_)
      obtain ⟨⟨AU, XU, okU, fU, rfl, hNU, hUU⟩, hs⟩ := hr
      replace hs := Same.of_bel hs
      replace hB := hB.tr0 hs
      replace hb4 := hb4.tr0 hs
      replace hb5 := hb5.tr0 hs
      replace hb6 := hb6.tr0 hs
      replace hb7 := hb7.tr0 hs
      replace hb29 := hb29.tr0 hs
      replace hb9 := hb9.tr0 hs
      replace hb11 := hb11.tr0 hs
      replace hb60 := hb60.tr0 hs
      replace hBuX := hBuX.tr0 hs
      replace hb12 := hb12.tr0 hs
      replace hb14 := hb14.tr0 hs
      replace hb72 := hb72.tr0 hs
      replace hBuY := hBuY.tr0 hs
      replace hb15 := hb15.tr0 hs
      replace hb17 := hb17.tr0 hs
      clear hs
      replace hNU := hNU w30 (FrSame.refl _ _)
      have hBuU : Bel w30 w30 := Below.refl _ _
      refine ⟨_, rfl, ?_⟩
      refine wl (r_mv (v := .tuple _) rfl) ?_
      refine wl (r_ex (v := _) rfl rfl) ?_
      refine wl (r_ex (v := _) rfl rfl) ?_
      refine wl (r_ex (v := _) rfl rfl) ?_
      refine wl_al (cs := #[.slice none 0 0]) ze28 rfl (fun b18 w31 hb18 hs hr => ?_)
      have or_b4_b18 : b4 < b18 := Nat.lt_of_lt_of_le hb4.lt hr
      have or_b5_b18 : b5 < b18 := Nat.lt_of_lt_of_le hb5.lt hr
      have or_b6_b18 : b6 < b18 := Nat.lt_of_lt_of_le hb6.lt hr
      have or_b7_b18 : b7 < b18 := Nat.lt_of_lt_of_le hb7.lt hr
      have or_b29_b18 : b29 < b18 := Nat.lt_of_lt_of_le hb29.lt hr
      have or_b9_b18 : b9 < b18 := Nat.lt_of_lt_of_le hb9.lt hr
      have or_b11_b18 : b11 < b18 := Nat.lt_of_lt_of_le hb11.lt hr
      have or_b60_b18 : b60 < b18 := Nat.lt_of_lt_of_le hb60.lt hr
      have or_b12_b18 : b12 < b18 := Nat.lt_of_lt_of_le hb12.lt hr
      have or_b14_b18 : b14 < b18 := Nat.lt_of_lt_of_le hb14.lt hr
      have or_b72_b18 : b72 < b18 := Nat.lt_of_lt_of_le hb72.lt hr
      have or_b15_b18 : b15 < b18 := Nat.lt_of_lt_of_le hb15.lt hr
      have or_b17_b18 : b17 < b18 := Nat.lt_of_lt_of_le hb17.lt hr
      have lo18 := Nat.le_trans (Bel.size hB) hr
      have lo_hBuX_b18 := Nat.le_trans (Bel.size hBuX) hr
      have lo_hBuY_b18 := Nat.le_trans (Bel.size hBuY) hr
      have lo_hBuU_b18 := Nat.le_trans (Bel.size hBuU) hr
      replace hB := hB.tr0 hs
      replace hb4 := hb4.tr0 hs
      replace hb5 := hb5.tr0 hs
      replace hb6 := hb6.tr0 hs
      replace hb7 := hb7.tr0 hs
      replace hb29 := hb29.tr0 hs
      replace hb9 := hb9.tr0 hs
      replace hb11 := hb11.tr0 hs
      replace hb60 := hb60.tr0 hs
      replace hBuX := hBuX.tr0 hs
      replace hb12 := hb12.tr0 hs
      replace hb14 := hb14.tr0 hs
      replace hb72 := hb72.tr0 hs
      replace hBuY := hBuY.tr0 hs
      replace hb15 := hb15.tr0 hs
      replace hb17 := hb17.tr0 hs
      replace hBuU := hBuU.tr0 hs
      clear hs
      clear hr
      refine wl_al (cs := #[.int .i64 0, .int .i64 0]) ze30_SFind rfl (fun b20 w32 hb20 hs hr => ?_)
      have or_b4_b20 : b4 < b20 := Nat.lt_of_lt_of_le hb4.lt hr
      have or_b5_b20 : b5 < b20 := Nat.lt_of_lt_of_le hb5.lt hr
      have or_b6_b20 : b6 < b20 := Nat.lt_of_lt_of_le hb6.lt hr
      have or_b7_b20 : b7 < b20 := Nat.lt_of_lt_of_le hb7.lt hr
      have or_b29_b20 : b29 < b20 := Nat.lt_of_lt_of_le hb29.lt hr
      have or_b9_b20 : b9 < b20 := Nat.lt_of_lt_of_le hb9.lt hr
      have or_b11_b20 : b11 < b20 := Nat.lt_of_lt_of_le hb11.lt hr
      have or_b60_b20 : b60 < b20 := Nat.lt_of_lt_of_le hb60.lt hr
      have or_b12_b20 : b12 < b20 := Nat.lt_of_lt_of_le hb12.lt hr
      have or_b14_b20 : b14 < b20 := Nat.lt_of_lt_of_le hb14.lt hr
      have or_b72_b20 : b72 < b20 := Nat.lt_of_lt_of_le hb72.lt hr
      have or_b15_b20 : b15 < b20 := Nat.lt_of_lt_of_le hb15.lt hr
      have or_b17_b20 : b17 < b20 := Nat.lt_of_lt_of_le hb17.lt hr
      have or_b18_b20 : b18 < b20 := Nat.lt_of_lt_of_le hb18.lt hr
      have lo20 := Nat.le_trans (Bel.size hB) hr
      have lo_hBuX_b20 := Nat.le_trans (Bel.size hBuX) hr
      have lo_hBuY_b20 := Nat.le_trans (Bel.size hBuY) hr
      have lo_hBuU_b20 := Nat.le_trans (Bel.size hBuU) hr
      replace hB := hB.tr0 hs
      replace hb4 := hb4.tr0 hs
      replace hb5 := hb5.tr0 hs
      replace hb6 := hb6.tr0 hs
      replace hb7 := hb7.tr0 hs
      replace hb29 := hb29.tr0 hs
      replace hb9 := hb9.tr0 hs
      replace hb11 := hb11.tr0 hs
      replace hb60 := hb60.tr0 hs
      replace hBuX := hBuX.tr0 hs
      replace hb12 := hb12.tr0 hs
      replace hb14 := hb14.tr0 hs
      replace hb72 := hb72.tr0 hs
      replace hBuY := hBuY.tr0 hs
      replace hb15 := hb15.tr0 hs
      replace hb17 := hb17.tr0 hs
      replace hBuU := hBuU.tr0 hs
      replace hb18 := hb18.tr0 hs
      clear hs
      clear hr
      refine wl_stW hb18 rfl rfl sz28 rfl (by repeat (first | rfl | refine one_cons (by first | rfl | assumption) ?_)) (fun w33 hq hs => ?_)
      replace hB := hB.tr1 hs lo18
      replace hb4 := hb4.tr1 hs (by omega)
      replace hb5 := hb5.tr1 hs (by omega)
      replace hb6 := hb6.tr1 hs (by omega)
      replace hb7 := hb7.tr1 hs (by omega)
      replace hb29 := hb29.tr1 hs (by omega)
      replace hb9 := hb9.tr1 hs (by omega)
      replace hb11 := hb11.tr1 hs (by omega)
      replace hb60 := hb60.tr1 hs (by omega)
      replace hBuX := hBuX.tr1 hs lo_hBuX_b18
      replace hb12 := hb12.tr1 hs (by omega)
      replace hb14 := hb14.tr1 hs (by omega)
      replace hb72 := hb72.tr1 hs (by omega)
      replace hBuY := hBuY.tr1 hs lo_hBuY_b18
      replace hb15 := hb15.tr1 hs (by omega)
      replace hb17 := hb17.tr1 hs (by omega)
      replace hBuU := hBuU.tr1 hs lo_hBuU_b18
      replace hb20 := hb20.tr1 hs (by omega)
      clear hs
      replace hb18 := hq
      refine wl (r_as (v := .bool _) rfl) ?_
      refine wl_stW hb20 rfl rfl sz30_SFind rfl (by repeat (first | rfl | refine one_cons (by first | rfl | assumption) ?_)) (fun w34 hq hs => ?_)
      replace hB := hB.tr1 hs lo20
      replace hb4 := hb4.tr1 hs (by omega)
      replace hb5 := hb5.tr1 hs (by omega)
      replace hb6 := hb6.tr1 hs (by omega)
      replace hb7 := hb7.tr1 hs (by omega)
      replace hb29 := hb29.tr1 hs (by omega)
      replace hb9 := hb9.tr1 hs (by omega)
      replace hb11 := hb11.tr1 hs (by omega)
      replace hb60 := hb60.tr1 hs (by omega)
      replace hBuX := hBuX.tr1 hs lo_hBuX_b20
      replace hb12 := hb12.tr1 hs (by omega)
      replace hb14 := hb14.tr1 hs (by omega)
      replace hb72 := hb72.tr1 hs (by omega)
      replace hBuY := hBuY.tr1 hs lo_hBuY_b20
      replace hb15 := hb15.tr1 hs (by omega)
      replace hb17 := hb17.tr1 hs (by omega)
      replace hBuU := hBuU.tr1 hs lo_hBuU_b20
      replace hb18 := hb18.tr1 hs (by omega)
      clear hs
      replace hb20 := hq
      refine x_nil ?_
      refine e_S ?_
      refine c_seq ?_
      refine c_region ?_
      refine wl (r_ldS Tryd.underlying25 rfl rfl hb4.range0 sz25_SFind) ?_
      refine wl (r_ldS Tryd.underlying28 rfl rfl hb6.range0 sz28) ?_
      refine wl (r_ldS Tryd.underlying28 rfl rfl hb5.range0 sz28) ?_
      refine wl_cl fn16_UOrd (unify_any A B G2 G1 c d c2 c1 l fs gb ga _ (hTab.mono hB) (hT.mono hB) (hF.mono hB) (hG2.mono hB) (hG1.mono hB)) rfl (fun e' w35 hr => ?_)
      obtain ⟨⟨AV, XV, okV, fV, rfl, hNV, hUV⟩, hs⟩ := hr
      replace hs := Same.of_bel hs
      replace hB := hB.tr0 hs
      replace hb4 := hb4.tr0 hs
      replace hb5 := hb5.tr0 hs
      replace hb6 := hb6.tr0 hs
      replace hb7 := hb7.tr0 hs
      replace hb29 := hb29.tr0 hs
      replace hb9 := hb9.tr0 hs
      replace hb11 := hb11.tr0 hs
      replace hb60 := hb60.tr0 hs
      replace hBuX := hBuX.tr0 hs
      replace hb12 := hb12.tr0 hs
      replace hb14 := hb14.tr0 hs
      replace hb72 := hb72.tr0 hs
      replace hBuY := hBuY.tr0 hs
      replace hb15 := hb15.tr0 hs
      replace hb17 := hb17.tr0 hs
      replace hBuU := hBuU.tr0 hs
      replace hb18 := hb18.tr0 hs
      replace hb20 := hb20.tr0 hs
      clear hs
      replace hNV := hNV w35 (FrSame.refl _ _)
      have hBuV : Bel w35 w35 := Below.refl _ _
      obtain ⟨ef, eo, eX⟩ := uni_turn hga0 hgb0 hUU hUV
      subst ef eo eX
      refine ⟨_, rfl, ?_⟩
      refine wl (r_mv (v := .tuple _) rfl) ?_
      refine wl (r_ex (v := _) rfl rfl) ?_
      refine wl (r_ex (v := _) rfl rfl) ?_
      refine wl (r_ex (v := _) rfl rfl) ?_
      refine wl_al (cs := #[.slice none 0 0]) ze28 rfl (fun b21 w36 hb21 hs hr => ?_)
      have or_b4_b21 : b4 < b21 := Nat.lt_of_lt_of_le hb4.lt hr
      have or_b5_b21 : b5 < b21 := Nat.lt_of_lt_of_le hb5.lt hr
      have or_b6_b21 : b6 < b21 := Nat.lt_of_lt_of_le hb6.lt hr
      have or_b7_b21 : b7 < b21 := Nat.lt_of_lt_of_le hb7.lt hr
      have or_b29_b21 : b29 < b21 := Nat.lt_of_lt_of_le hb29.lt hr
      have or_b9_b21 : b9 < b21 := Nat.lt_of_lt_of_le hb9.lt hr
      have or_b11_b21 : b11 < b21 := Nat.lt_of_lt_of_le hb11.lt hr
      have or_b60_b21 : b60 < b21 := Nat.lt_of_lt_of_le hb60.lt hr
      have or_b12_b21 : b12 < b21 := Nat.lt_of_lt_of_le hb12.lt hr
      have or_b14_b21 : b14 < b21 := Nat.lt_of_lt_of_le hb14.lt hr
      have or_b72_b21 : b72 < b21 := Nat.lt_of_lt_of_le hb72.lt hr
      have or_b15_b21 : b15 < b21 := Nat.lt_of_lt_of_le hb15.lt hr
      have or_b17_b21 : b17 < b21 := Nat.lt_of_lt_of_le hb17.lt hr
      have or_b18_b21 : b18 < b21 := Nat.lt_of_lt_of_le hb18.lt hr
      have or_b20_b21 : b20 < b21 := Nat.lt_of_lt_of_le hb20.lt hr
      have lo21 := Nat.le_trans (Bel.size hB) hr
      have lo_hBuX_b21 := Nat.le_trans (Bel.size hBuX) hr
      have lo_hBuY_b21 := Nat.le_trans (Bel.size hBuY) hr
      have lo_hBuU_b21 := Nat.le_trans (Bel.size hBuU) hr
      have lo_hBuV_b21 := Nat.le_trans (Bel.size hBuV) hr
      replace hB := hB.tr0 hs
      replace hb4 := hb4.tr0 hs
      replace hb5 := hb5.tr0 hs
      replace hb6 := hb6.tr0 hs
      replace hb7 := hb7.tr0 hs
      replace hb29 := hb29.tr0 hs
      replace hb9 := hb9.tr0 hs
      replace hb11 := hb11.tr0 hs
      replace hb60 := hb60.tr0 hs
      replace hBuX := hBuX.tr0 hs
      replace hb12 := hb12.tr0 hs
      replace hb14 := hb14.tr0 hs
      replace hb72 := hb72.tr0 hs
      replace hBuY := hBuY.tr0 hs
      replace hb15 := hb15.tr0 hs
      replace hb17 := hb17.tr0 hs
      replace hBuU := hBuU.tr0 hs
      replace hb18 := hb18.tr0 hs
      replace hb20 := hb20.tr0 hs
      replace hBuV := hBuV.tr0 hs
      clear hs
      clear hr
      refine wl_al (cs := #[.int .i64 0, .int .i64 0]) ze30_SFind rfl (fun b23 w37 hb23 hs hr => ?_)
      have or_b4_b23 : b4 < b23 := Nat.lt_of_lt_of_le hb4.lt hr
      have or_b5_b23 : b5 < b23 := Nat.lt_of_lt_of_le hb5.lt hr
      have or_b6_b23 : b6 < b23 := Nat.lt_of_lt_of_le hb6.lt hr
      have or_b7_b23 : b7 < b23 := Nat.lt_of_lt_of_le hb7.lt hr
      have or_b29_b23 : b29 < b23 := Nat.lt_of_lt_of_le hb29.lt hr
      have or_b9_b23 : b9 < b23 := Nat.lt_of_lt_of_le hb9.lt hr
      have or_b11_b23 : b11 < b23 := Nat.lt_of_lt_of_le hb11.lt hr
      have or_b60_b23 : b60 < b23 := Nat.lt_of_lt_of_le hb60.lt hr
      have or_b12_b23 : b12 < b23 := Nat.lt_of_lt_of_le hb12.lt hr
      have or_b14_b23 : b14 < b23 := Nat.lt_of_lt_of_le hb14.lt hr
      have or_b72_b23 : b72 < b23 := Nat.lt_of_lt_of_le hb72.lt hr
      have or_b15_b23 : b15 < b23 := Nat.lt_of_lt_of_le hb15.lt hr
      have or_b17_b23 : b17 < b23 := Nat.lt_of_lt_of_le hb17.lt hr
      have or_b18_b23 : b18 < b23 := Nat.lt_of_lt_of_le hb18.lt hr
      have or_b20_b23 : b20 < b23 := Nat.lt_of_lt_of_le hb20.lt hr
      have or_b21_b23 : b21 < b23 := Nat.lt_of_lt_of_le hb21.lt hr
      have lo23 := Nat.le_trans (Bel.size hB) hr
      have lo_hBuX_b23 := Nat.le_trans (Bel.size hBuX) hr
      have lo_hBuY_b23 := Nat.le_trans (Bel.size hBuY) hr
      have lo_hBuU_b23 := Nat.le_trans (Bel.size hBuU) hr
      have lo_hBuV_b23 := Nat.le_trans (Bel.size hBuV) hr
      replace hB := hB.tr0 hs
      replace hb4 := hb4.tr0 hs
      replace hb5 := hb5.tr0 hs
      replace hb6 := hb6.tr0 hs
      replace hb7 := hb7.tr0 hs
      replace hb29 := hb29.tr0 hs
      replace hb9 := hb9.tr0 hs
      replace hb11 := hb11.tr0 hs
      replace hb60 := hb60.tr0 hs
      replace hBuX := hBuX.tr0 hs
      replace hb12 := hb12.tr0 hs
      replace hb14 := hb14.tr0 hs
      replace hb72 := hb72.tr0 hs
      replace hBuY := hBuY.tr0 hs
      replace hb15 := hb15.tr0 hs
      replace hb17 := hb17.tr0 hs
      replace hBuU := hBuU.tr0 hs
      replace hb18 := hb18.tr0 hs
      replace hb20 := hb20.tr0 hs
      replace hBuV := hBuV.tr0 hs
      replace hb21 := hb21.tr0 hs
      clear hs
      clear hr
      refine wl_stW hb21 rfl rfl sz28 rfl (by repeat (first | rfl | refine one_cons (by first | rfl | assumption) ?_)) (fun w38 hq hs => ?_)
      replace hB := hB.tr1 hs lo21
      replace hb4 := hb4.tr1 hs (by omega)
      replace hb5 := hb5.tr1 hs (by omega)
      replace hb6 := hb6.tr1 hs (by omega)
      replace hb7 := hb7.tr1 hs (by omega)
      replace hb29 := hb29.tr1 hs (by omega)
      replace hb9 := hb9.tr1 hs (by omega)
      replace hb11 := hb11.tr1 hs (by omega)
      replace hb60 := hb60.tr1 hs (by omega)
      replace hBuX := hBuX.tr1 hs lo_hBuX_b21
      replace hb12 := hb12.tr1 hs (by omega)
      replace hb14 := hb14.tr1 hs (by omega)
      replace hb72 := hb72.tr1 hs (by omega)
      replace hBuY := hBuY.tr1 hs lo_hBuY_b21
      replace hb15 := hb15.tr1 hs (by omega)
      replace hb17 := hb17.tr1 hs (by omega)
      replace hBuU := hBuU.tr1 hs lo_hBuU_b21
      replace hb18 := hb18.tr1 hs (by omega)
      replace hb20 := hb20.tr1 hs (by omega)
      replace hBuV := hBuV.tr1 hs lo_hBuV_b21
      replace hb23 := hb23.tr1 hs (by omega)
      clear hs
      replace hb21 := hq
      refine wl (r_as (v := .bool _) rfl) ?_
      refine wl_stW hb23 rfl rfl sz30_SFind rfl (by repeat (first | rfl | refine one_cons (by first | rfl | assumption) ?_)) (fun w39 hq hs => ?_)
      replace hB := hB.tr1 hs lo23
      replace hb4 := hb4.tr1 hs (by omega)
      replace hb5 := hb5.tr1 hs (by omega)
      replace hb6 := hb6.tr1 hs (by omega)
      replace hb7 := hb7.tr1 hs (by omega)
      replace hb29 := hb29.tr1 hs (by omega)
      replace hb9 := hb9.tr1 hs (by omega)
      replace hb11 := hb11.tr1 hs (by omega)
      replace hb60 := hb60.tr1 hs (by omega)
      replace hBuX := hBuX.tr1 hs lo_hBuX_b23
      replace hb12 := hb12.tr1 hs (by omega)
      replace hb14 := hb14.tr1 hs (by omega)
      replace hb72 := hb72.tr1 hs (by omega)
      replace hBuY := hBuY.tr1 hs lo_hBuY_b23
      replace hb15 := hb15.tr1 hs (by omega)
      replace hb17 := hb17.tr1 hs (by omega)
      replace hBuU := hBuU.tr1 hs lo_hBuU_b23
      replace hb18 := hb18.tr1 hs (by omega)
      replace hb20 := hb20.tr1 hs (by omega)
      replace hBuV := hBuV.tr1 hs lo_hBuV_b23
      replace hb21 := hb21.tr1 hs (by omega)
      clear hs
      replace hb23 := hq
      refine x_nil ?_
      refine e_S ?_
      refine c_seq ?_
      refine c_seq ?_
      refine c_region ?_
      refine wl (r_ldS Tryd.underlying30 rfl rfl hb20.range0 sz30_SFind) ?_
      refine wl (r_ldS Tryd.underlying30 rfl rfl hb23.range0 sz30_SFind) ?_
      refine wl (r_neF Tryd.eqGuardType30 ft30 Tryd.stoodInHeld30 fd30 Tryd.underlying3 rfl rfl) ?_
      refine wl (r_mv (v := .bool false) (congrArg Value.bool (decide_eq_false (fun h => h ⟨rfl, rfl⟩)))) ?_
      refine wl_gd 110 rfl rfl ?_
      refine wl (r_mv (v := .bool _) rfl) ?_
      refine wl_gd 110 rfl rfl ?_
      refine wl (r_mv (v := .bool _) rfl) ?_
      refine wl_gd 110 rfl rfl ?_
      refine wl (r_neqB Tryd.underlying4 rfl rfl) ?_
      refine wl (r_pf (v := .bool _) rfl rfl) ?_
      refine wl (r_mv (v := .bool false) (congrArg Value.bool (by cases okU <;> rfl))) ?_
      refine wl_gd 115 rfl rfl ?_
      refine wl (r_ldS Tryd.underlying28 rfl rfl hb18.range0 sz28) ?_
      refine wl_gd 115 rfl rfl ?_
      refine wl (r_ldS Tryd.underlying28 rfl rfl hb21.range0 sz28) ?_
      refine wl_gd 115 rfl rfl ?_
      refine wl_cl fn13_UOrd (same_any AU AV _ _ _ _ _ _ _ (hNU.mono hBuU) (hNV.mono hBuV) rfl rfl rfl) rfl (fun e' w40 hr => ?_)
      obtain ⟨rfl, hs⟩ := hr
      replace hs := Same.of_bel hs
      replace hB := hB.tr0 hs
      replace hb4 := hb4.tr0 hs
      replace hb5 := hb5.tr0 hs
      replace hb6 := hb6.tr0 hs
      replace hb7 := hb7.tr0 hs
      replace hb29 := hb29.tr0 hs
      replace hb9 := hb9.tr0 hs
      replace hb11 := hb11.tr0 hs
      replace hb60 := hb60.tr0 hs
      replace hBuX := hBuX.tr0 hs
      replace hb12 := hb12.tr0 hs
      replace hb14 := hb14.tr0 hs
      replace hb72 := hb72.tr0 hs
      replace hBuY := hBuY.tr0 hs
      replace hb15 := hb15.tr0 hs
      replace hb17 := hb17.tr0 hs
      replace hBuU := hBuU.tr0 hs
      replace hb18 := hb18.tr0 hs
      replace hb20 := hb20.tr0 hs
      replace hBuV := hBuV.tr0 hs
      replace hb21 := hb21.tr0 hs
      replace hb23 := hb23.tr0 hs
      clear hs
      refine ⟨_, rfl, ?_⟩
      refine wl_gd 115 rfl rfl ?_
      refine wl (r_not rfl) ?_
      refine wl (r_pf (v := .bool _) rfl rfl) ?_
      refine x_nil ?_
      refine e_S ?_
      refine c_if rfl (fun c120 => ?_) (fun c120 => ?_)
      ·
       exact absurd c120 (by decide)
      ·
       refine c_skip ?_
       refine e_S ?_
       refine c_seq ?_
       refine c_seq ?_
       refine c_region ?_
       refine wl (r_fa Tryd.underlying30 sz3_GSearch (by decide) rfl rfl rfl) ?_
       refine wl (r_ld1 (v := .int _ _) Tryd.underlying3 rfl rfl (hb20.cell rfl)) ?_
       refine wl (r_neq rfl rfl) ?_
       refine wl (r_mv (v := .bool _) rfl) ?_
       refine wl_casesd 124 rfl (fun g124 => ?_) (fun g124 => ?_)
       ·
        refine wlgn 124 rfl rfl rfl ?_
        refine wlgn 124 rfl rfl rfl ?_
        refine wl (r_pt (v := .bool _) rfl rfl) ?_
        refine x_nil ?_
        refine e_S ?_
        refine c_yes rfl ?_
        refine c_seq ?_
        refine c_region ?_
        refine wl (r_as (v := .bool _) rfl) ?_
        refine x_nil ?_
        refine e_S ?_
        refine c_ret ?_
        refine e_Sr ?_
        refine fin1 (.inl rfl) rfl rfl ?_
        exact ⟨rfl, hB⟩
       ·
        refine wl_gd 124 rfl rfl ?_
        refine wl (r_mv (v := .bool _) rfl) ?_
        refine wl_gd 124 rfl rfl ?_
        refine wl (r_not rfl) ?_
        refine wl (r_pf (v := .bool _) rfl rfl) ?_
        refine x_nil ?_
        refine e_S ?_
        refine c_if rfl (fun c127 => ?_) (fun c127 => ?_)
        ·
         refine c_seq ?_
         refine c_region ?_
         refine wl (r_as (v := .bool _) rfl) ?_
         refine x_nil ?_
         refine e_S ?_
         refine c_ret ?_
         refine e_Sr ?_
         refine fin1 (.inl rfl) rfl rfl ?_
         exact ⟨rfl, hB⟩
        ·
         have hokU : okU = true := by simpa using c127
         obtain ⟨hX0, hst⟩ := uni_step (gc := gc) hga0 hgb0 hgc0 hUU hokU hUX
         refine c_skip ?_
         refine e_S ?_
         refine c_seq ?_
         refine c_region ?_
         refine wl (r_ldS Tryd.underlying25 rfl rfl hb4.range0 sz25_SFind) ?_
         refine wl (r_ldS Tryd.underlying28 rfl rfl hb18.range0 sz28) ?_
         refine wl (r_ldS Tryd.underlying28 rfl rfl hb7.range0 sz28) ?_
         have z20 := hb20.lt
         refine wl_cl fn16_UOrd (unify_any A B AU G3 c d XU.length c3 l fs XU gc _ (hTab.mono hB) (hT.mono hB) (hF.mono hB) (hNU.mono hBuU) (hG3.mono hB)) rfl (fun e' w41 hr => ?_)
         obtain ⟨⟨AW, XW, okW, fW, rfl, hNW, hUW⟩, hs⟩ := hr
         replace hs := Same.of_bel hs
         replace hB := hB.tr0 hs
         replace hb4 := hb4.tr0 hs
         replace hb5 := hb5.tr0 hs
         replace hb6 := hb6.tr0 hs
         replace hb7 := hb7.tr0 hs
         replace hb29 := hb29.tr0 hs
         replace hb9 := hb9.tr0 hs
         replace hb11 := hb11.tr0 hs
         replace hb60 := hb60.tr0 hs
         replace hBuX := hBuX.tr0 hs
         replace hb12 := hb12.tr0 hs
         replace hb14 := hb14.tr0 hs
         replace hb72 := hb72.tr0 hs
         replace hBuY := hBuY.tr0 hs
         replace hb15 := hb15.tr0 hs
         replace hb17 := hb17.tr0 hs
         replace hBuU := hBuU.tr0 hs
         replace hb18 := hb18.tr0 hs
         replace hb20 := hb20.tr0 hs
         replace hBuV := hBuV.tr0 hs
         replace hb21 := hb21.tr0 hs
         replace hb23 := hb23.tr0 hs
         clear hs
         obtain ⟨ef, eo, eX⟩ := hst _ _ _ hUW
         subst ef eo eX
         obtain ⟨ZW, hZW⟩ : ∃ z, z = (w40).heap.size := ⟨_, rfl⟩
         rw [← hZW] at hNW z20
         obtain ⟨wW, hwW⟩ : ∃ z, z = w41 := ⟨_, rfl⟩
         have hFW : FrSame ZW wW w41 := by rw [hwW]; exact FrSame.refl _ _
         rw [← hwW] at hNW
         refine ⟨_, rfl, ?_⟩
         refine wl (r_mv (v := .tuple _) rfl) ?_
         refine wl (r_ex (v := _) rfl rfl) ?_
         refine wl (r_ex (v := _) rfl rfl) ?_
         refine wl (r_ex (v := _) rfl rfl) ?_
         refine wl_al (cs := #[.slice none 0 0]) ze28 rfl (fun b24 w42 hb24 hs hr => ?_)
         have or_b4_b24 : b4 < b24 := Nat.lt_of_lt_of_le hb4.lt hr
         have or_b5_b24 : b5 < b24 := Nat.lt_of_lt_of_le hb5.lt hr
         have or_b6_b24 : b6 < b24 := Nat.lt_of_lt_of_le hb6.lt hr
         have or_b7_b24 : b7 < b24 := Nat.lt_of_lt_of_le hb7.lt hr
         have or_b29_b24 : b29 < b24 := Nat.lt_of_lt_of_le hb29.lt hr
         have or_b9_b24 : b9 < b24 := Nat.lt_of_lt_of_le hb9.lt hr
         have or_b11_b24 : b11 < b24 := Nat.lt_of_lt_of_le hb11.lt hr
         have or_b60_b24 : b60 < b24 := Nat.lt_of_lt_of_le hb60.lt hr
         have or_b12_b24 : b12 < b24 := Nat.lt_of_lt_of_le hb12.lt hr
         have or_b14_b24 : b14 < b24 := Nat.lt_of_lt_of_le hb14.lt hr
         have or_b72_b24 : b72 < b24 := Nat.lt_of_lt_of_le hb72.lt hr
         have or_b15_b24 : b15 < b24 := Nat.lt_of_lt_of_le hb15.lt hr
         have or_b17_b24 : b17 < b24 := Nat.lt_of_lt_of_le hb17.lt hr
         have or_b18_b24 : b18 < b24 := Nat.lt_of_lt_of_le hb18.lt hr
         have or_b20_b24 : b20 < b24 := Nat.lt_of_lt_of_le hb20.lt hr
         have or_b21_b24 : b21 < b24 := Nat.lt_of_lt_of_le hb21.lt hr
         have or_b23_b24 : b23 < b24 := Nat.lt_of_lt_of_le hb23.lt hr
         have or_hFW_b24 := (Nat.le_trans hFW.size hr)
         have lo24 := Nat.le_trans (Bel.size hB) hr
         have lo_hBuX_b24 := Nat.le_trans (Bel.size hBuX) hr
         replace hB := hB.tr0 hs
         replace hb4 := hb4.tr0 hs
         replace hb5 := hb5.tr0 hs
         replace hb6 := hb6.tr0 hs
         replace hb7 := hb7.tr0 hs
         replace hb29 := hb29.tr0 hs
         replace hb9 := hb9.tr0 hs
         replace hb11 := hb11.tr0 hs
         replace hb60 := hb60.tr0 hs
         replace hBuX := hBuX.tr0 hs
         replace hb12 := hb12.tr0 hs
         replace hb14 := hb14.tr0 hs
         replace hb72 := hb72.tr0 hs
         replace hb15 := hb15.tr0 hs
         replace hb17 := hb17.tr0 hs
         replace hb18 := hb18.tr0 hs
         replace hb20 := hb20.tr0 hs
         replace hb21 := hb21.tr0 hs
         replace hb23 := hb23.tr0 hs
         replace hFW := hFW.of hs (by simp)
         clear hs
         clear hr
         refine wl_stW hb24 rfl rfl sz28 rfl (by repeat (first | rfl | refine one_cons (by first | rfl | assumption) ?_)) (fun w43 hq hs => ?_)
         replace hB := hB.tr1 hs lo24
         replace hb4 := hb4.tr1 hs (by omega)
         replace hb5 := hb5.tr1 hs (by omega)
         replace hb6 := hb6.tr1 hs (by omega)
         replace hb7 := hb7.tr1 hs (by omega)
         replace hb29 := hb29.tr1 hs (by omega)
         replace hb9 := hb9.tr1 hs (by omega)
         replace hb11 := hb11.tr1 hs (by omega)
         replace hb60 := hb60.tr1 hs (by omega)
         replace hBuX := hBuX.tr1 hs lo_hBuX_b24
         replace hb12 := hb12.tr1 hs (by omega)
         replace hb14 := hb14.tr1 hs (by omega)
         replace hb72 := hb72.tr1 hs (by omega)
         replace hb15 := hb15.tr1 hs (by omega)
         replace hb17 := hb17.tr1 hs (by omega)
         replace hb18 := hb18.tr1 hs (by omega)
         replace hb20 := hb20.tr1 hs (by omega)
         replace hb21 := hb21.tr1 hs (by omega)
         replace hb23 := hb23.tr1 hs (by omega)
         replace hFW := hFW.of hs (fun g hg => by rw [List.mem_singleton.1 hg]; omega)
         clear hs
         replace hb24 := hq
         refine wl (r_as (v := .bool _) rfl) ?_
         refine wl_stW hb20 rfl rfl sz30_SFind rfl (by repeat (first | rfl | refine one_cons (by first | rfl | assumption) ?_)) (fun w44 hq hs => ?_)
         replace hB := hB.tr1 hs lo20
         replace hb4 := hb4.tr1 hs (by omega)
         replace hb5 := hb5.tr1 hs (by omega)
         replace hb6 := hb6.tr1 hs (by omega)
         replace hb7 := hb7.tr1 hs (by omega)
         replace hb29 := hb29.tr1 hs (by omega)
         replace hb9 := hb9.tr1 hs (by omega)
         replace hb11 := hb11.tr1 hs (by omega)
         replace hb60 := hb60.tr1 hs (by omega)
         replace hBuX := hBuX.tr1 hs lo_hBuX_b20
         replace hb12 := hb12.tr1 hs (by omega)
         replace hb14 := hb14.tr1 hs (by omega)
         replace hb72 := hb72.tr1 hs (by omega)
         replace hb15 := hb15.tr1 hs (by omega)
         replace hb17 := hb17.tr1 hs (by omega)
         replace hb18 := hb18.tr1 hs (by omega)
         replace hb21 := hb21.tr1 hs (by omega)
         replace hb23 := hb23.tr1 hs (by omega)
         replace hFW := hFW.of hs (fun g hg => by rw [List.mem_singleton.1 hg]; omega)
         replace hb24 := hb24.tr1 hs (by omega)
         clear hs
         replace hb20 := hq
         refine x_nil ?_
         refine e_S ?_
         refine c_seq ?_
         refine c_region ?_
         refine wl (r_ldS Tryd.underlying30 rfl rfl hb20.range0 sz30_SFind) ?_
         refine wl (r_ldS Tryd.underlying30 rfl rfl hb14.range0 sz30_SFind) ?_
         refine wl (r_eqF Tryd.eqGuardType30 ft30 Tryd.stoodInHeld30 fd30 Tryd.underlying3 rfl rfl) ?_
         refine wl (r_mv (v := .bool true) (congrArg Value.bool (decide_eq_true ⟨rfl, rfl⟩))) ?_
         refine wl_gd 139 rfl rfl ?_
         refine wl (r_mv (v := .bool _) rfl) ?_
         refine wl_gd 139 rfl rfl ?_
         refine wl (r_mv (v := .bool _) rfl) ?_
         refine wl_gd 139 rfl rfl ?_
         refine wl (r_eqlBr Tryd.underlying4 rfl rfl (beq_self_eq_true _)) ?_
         refine wl (r_pt (v := .bool _) rfl rfl) ?_
         refine wl (r_mv (v := .bool _) rfl) ?_
         refine wl_gd 144 rfl rfl ?_
         refine wl (r_ldS Tryd.underlying28 rfl rfl hb12.range0 sz28) ?_
         refine wl_gd 144 rfl rfl ?_
         refine wl (r_ldS Tryd.underlying28 rfl rfl hb24.range0 sz28) ?_
         refine wl_gd 144 rfl rfl ?_
         refine wl_cl fn13_UOrd (same_any AX AW _ _ _ _ _ _ _ (hNX.mono hBuX) (hNW _ hFW) rfl rfl rfl) rfl (fun e' w45 hr => ?_)
         obtain ⟨rfl, hs⟩ := hr
         replace hs := Same.of_bel hs
         replace hB := hB.tr0 hs
         replace hb4 := hb4.tr0 hs
         replace hb5 := hb5.tr0 hs
         replace hb6 := hb6.tr0 hs
         replace hb7 := hb7.tr0 hs
         replace hb29 := hb29.tr0 hs
         replace hb9 := hb9.tr0 hs
         replace hb11 := hb11.tr0 hs
         replace hb60 := hb60.tr0 hs
         replace hBuX := hBuX.tr0 hs
         replace hb12 := hb12.tr0 hs
         replace hb14 := hb14.tr0 hs
         replace hb72 := hb72.tr0 hs
         replace hb15 := hb15.tr0 hs
         replace hb17 := hb17.tr0 hs
         replace hb18 := hb18.tr0 hs
         replace hb20 := hb20.tr0 hs
         replace hb21 := hb21.tr0 hs
         replace hb23 := hb23.tr0 hs
         replace hFW := hFW.of hs (by simp)
         replace hb24 := hb24.tr0 hs
         clear hs
         refine ⟨_, rfl, ?_⟩
         refine wl (r_pt (v := .bool _) rfl rfl) ?_
         refine wl (r_as (v := .bool _) rfl) ?_
         refine x_nil ?_
         refine e_S ?_
         refine c_ret ?_
         refine fin1 (.inl rfl) rfl rfl ?_
         exact ⟨rfl, hB⟩
end Go.Proofs.YteoncmfiiknfbaaDoor
