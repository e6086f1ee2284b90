/- What these functions of the program compute, at every world: glosswright/glosswrightlaw3.GeneralAbsorbs. -/
import Derived.Test.YteoncmfiiknfbaaDoorU
import Derived.Test.YteoncmfiiknfbaaDoorGenC
import Derived.Test.YteoncmfiiknfbaaDoorULst
namespace Go.Proofs.YteoncmfiiknfbaaDoor
open Go.RowKit
theorem genp_any {w : World} {A B G1 G2 : Option Addr} (hTab : TabIn w) (hT : TypesIn w A pairT) (hF : FeatsIn w B pairF) (hG1 : NodesIn w G1 sharedG) (hG2 : NodesIn w G2 sharedG) : Calls Tryd.prog 20 #[.agg #[.slice A 4 4, .slice B 2 2], .agg #[.slice G1 2 2], .agg #[.slice G2 2 2]] w fun e w' => (∃ GA cA, e = .returned (.tuple #[.agg #[.slice GA 2 cA], .agg #[.int .i64 0, .int .i64 0]]) ∧ NodesIn w' GA sharedG) ∧ Bel w w' := by
  refine (gen_any A B G1 G2 4 2 2 2 pairT pairF sharedG sharedG w hTab hT hF hG1 hG2).mono fun e w' h => ?_
  obtain ⟨⟨GA, X, cX, f, he, hN, hS⟩, hs⟩ := h
  obtain ⟨h1, h2⟩ := gen_sub shared_ok shared_ok hS ⟨_, Hom.refl (gv_of shared_ok).gx⟩
  have hX : X = sharedG := (h2 _ shared_dl).trans dE
  subst h1
  subst hX
  exact ⟨⟨GA, cX, he, hN _ (FrSame.refl _ _)⟩, hs⟩
theorem uni_abs {l : List Ty} {fs : List Ft} {ga X Y : List Nd} {ok : Bool} {f : Fl} {oa : List Nat} (ha : (graphF l fs ga).1 = 0) (hX : (graphF l fs X).1 = 0) (hm : Maps l X ga) (hU : UnifyS l fs ga X ok f Y) (ho : DL ga [0] [] oa) : ok = true ∧ f = (0, 0) ∧ Y = canG ga oa := by
  have hva := gv_of ha
  exact alls_above (all_zero hva.h (by simp) (fun g hg => by
    simp only [List.mem_cons, List.not_mem_nil, or_false] at hg
    rcases hg with rfl | rfl <;> assumption)) hva (amaps_two.2 ⟨⟨_, Hom.refl hva.gx⟩, hm⟩) (by simp) ho (unify_alls (two_mk ha hX) hU)
theorem fn19_UGen : callable Tryd.prog 19 = true := by kernel_rfl
theorem fn20 : callable Tryd.prog 20 = true := by kernel_rfl
set_option maxRecDepth 100000 in
set_option maxHeartbeats 8000000 in
theorem law23_any (A B G1 G2 : Option Addr) (c d c1 c2 : Nat) (l : List Ty) (fs : List Ft) (ga gb : List Nd) (w : World) (hTab : TabIn w) (hcl : l.length ≤ c) (hdl : fs.length ≤ d) (hT : TypesIn w A l) (hF : FeatsIn w B fs) (hG1 : NodesIn w G1 ga) (hG2 : NodesIn w G2 gb) : Calls Tryd.prog 6 #[.agg #[.slice A l.length c, .slice B fs.length d], .agg #[.slice G1 ga.length c1], .agg #[.slice G2 gb.length c2]] w fun e w' => e = .returned (.bool true) ∧ Bel w w' := by
 refine enter Tryd.func6 Tryd.ntmps6 rfl (Nat.le_of_ble_eq_true rfl) ?_
 have hB : Bel w w := Below.refl _ _
 refine c_seq (c_region ?_)
 refine wl_bx (v := .agg #[_, _]) (cs := #[_, _]) rfl rfl (fun b3 w1 hb3 hs hr => ?_)
 have lo3 := nLT (Bel.size hB) hr
 replace hB := hB.tr0 hs
 clear hs
 clear hr
 refine wl_bx (v := .agg #[_]) (cs := #[_]) rfl rfl (fun b4 w2 hb4 hs hr => ?_)
 have or_b3_b4 : b3 < b4 := nLL hb3.lt hr
 have lo4 := nLT (Bel.size hB) hr
 replace hB := hB.tr0 hs
 replace hb3 := hb3.tr0 hs
 clear hs
 clear hr
 refine wl_bx (v := .agg #[_]) (cs := #[_]) rfl rfl (fun b5 w3 hb5 hs hr => ?_)
 have or_b3_b5 : b3 < b5 := nLL hb3.lt hr
 have or_b4_b5 : b4 < b5 := nLL hb4.lt hr
 have lo5 := nLT (Bel.size hB) hr
 replace hB := hB.tr0 hs
 replace hb3 := hb3.tr0 hs
 replace hb4 := hb4.tr0 hs
 clear hs
 clear hr
 refine waB rfl (x_nil (e_S (c_seq (c_seq (c_region ?_)))))
 refine wl_cl fn10_UOrd (pair_any _) rfl (fun e' w4 hr => ?_)
 obtain ⟨⟨Ap, Bp, rfl, hTp, hFp⟩, hs⟩ := hr
 replace hs := Same.of_bel hs
 replace hB := hB.tr0 hs
 replace hb3 := hb3.tr0 hs
 replace hb4 := hb4.tr0 hs
 replace hb5 := hb5.tr0 hs
 clear hs
 have hB0 : Bel w4 w4 := Below.refl _ _
 refine ⟨_, rfl, ?_⟩
 refine wl_cl fn11_UOrd (shared_any _) rfl (fun e' w5 hr => ?_)
 obtain ⟨⟨Ga, rfl, hGa⟩, hs⟩ := hr
 replace hs := Same.of_bel hs
 replace hB := hB.tr0 hs
 replace hb3 := hb3.tr0 hs
 replace hb4 := hb4.tr0 hs
 replace hb5 := hb5.tr0 hs
 replace hB0 := hB0.tr0 hs
 clear hs
 have hB1 : Bel w5 w5 := Below.refl _ _
 refine ⟨_, rfl, ?_⟩
 refine wl_cl fn11_UOrd (shared_any _) rfl (fun e' w6 hr => ?_)
 obtain ⟨⟨Gb, rfl, hGb⟩, hs⟩ := hr
 replace hs := Same.of_bel hs
 replace hB := hB.tr0 hs
 replace hb3 := hb3.tr0 hs
 replace hb4 := hb4.tr0 hs
 replace hb5 := hb5.tr0 hs
 replace hB0 := hB0.tr0 hs
 replace hB1 := hB1.tr0 hs
 clear hs
 have hB2 : Bel w6 w6 := Below.refl _ _
 refine ⟨_, rfl, ?_⟩
 refine wl_cl fn20 (genp_any (hTab.mono hB) (hTp.mono hB0) (hFp.mono hB0) (hGa.mono hB1) (hGb.mono hB2)) rfl (fun e' w7 hr => ?_)
 obtain ⟨⟨GW, cW, rfl, hGW⟩, hs⟩ := hr
 replace hs := Same.of_bel hs
 replace hB := hB.tr0 hs
 replace hb3 := hb3.tr0 hs
 replace hb4 := hb4.tr0 hs
 replace hb5 := hb5.tr0 hs
 replace hB0 := hB0.tr0 hs
 replace hB1 := hB1.tr0 hs
 replace hB2 := hB2.tr0 hs
 clear hs
 have hBW : Bel w7 w7 := Below.refl _ _
 refine ⟨_, rfl, ?_⟩
 refine wmT rfl (wl (r_ex (v := _) rfl rfl) (wl (r_ex (v := _) rfl rfl) ?_))
 refine wl_al (cs := #[.slice none 0 0]) ze28 rfl (fun b7 w8 hb7 hs hr => ?_)
 have or_b3_b7 : b3 < b7 := nLL hb3.lt hr
 have or_b4_b7 : b4 < b7 := nLL hb4.lt hr
 have or_b5_b7 : b5 < b7 := nLL hb5.lt hr
 have lo7 := nLT (Bel.size hB) hr
 have lo_hBW_b7 := nLT (Bel.size hBW) hr
 replace hB := hB.tr0 hs
 replace hb3 := hb3.tr0 hs
 replace hb4 := hb4.tr0 hs
 replace hb5 := hb5.tr0 hs
 replace hBW := hBW.tr0 hs
 clear hs
 clear hr
 refine wl_al (cs := #[.int .i64 0, .int .i64 0]) ze30_UAll rfl (fun b8 w9 hb8 hs hr => ?_)
 have or_b3_b8 : b3 < b8 := nLL hb3.lt hr
 have or_b4_b8 : b4 < b8 := nLL hb4.lt hr
 have or_b5_b8 : b5 < b8 := nLL hb5.lt hr
 have or_b7_b8 : b7 < b8 := nLL hb7.lt hr
 have lo8 := nLT (Bel.size hB) hr
 have lo_hBW_b8 := nLT (Bel.size hBW) hr
 replace hB := hB.tr0 hs
 replace hb3 := hb3.tr0 hs
 replace hb4 := hb4.tr0 hs
 replace hb5 := hb5.tr0 hs
 replace hBW := hBW.tr0 hs
 replace hb7 := hb7.tr0 hs
 clear hs
 clear hr
 refine wl_stW hb7 rfl rfl sz28_GTgt rfl oneA (fun w10 hq hs => ?_)
 replace hB := hB.tr1 hs lo7
 replace hb3 := hb3.tr1 hs om
 replace hb4 := hb4.tr1 hs om
 replace hb5 := hb5.tr1 hs om
 replace hBW := hBW.tr1 hs lo_hBW_b7
 replace hb8 := hb8.tr1 hs om
 clear hs
 replace hb7 := hq
 refine wl_stW hb8 rfl rfl sz30_UAll rfl oneA (fun w11 hq hs => ?_)
 replace hB := hB.tr1 hs lo8
 replace hb3 := hb3.tr1 hs om
 replace hb4 := hb4.tr1 hs om
 replace hb5 := hb5.tr1 hs om
 replace hBW := hBW.tr1 hs lo_hBW_b8
 replace hb7 := hb7.tr1 hs om
 clear hs
 replace hb8 := hq
 refine x_nil (e_S (c_seq ?_))
 refine c_monoTO 4 [27, 28, 29, 30] (fun _ => false) (fun ix v wv => match ix with | 0 => v = .agg #[.slice GW 2 cW] | 1 => ∃ AS, v = .agg #[.slice AS 2 2] ∧ NodesIn wv AS sharedG | 2 => v = .bool true | 3 => v = .bool false | _ => True) kR kR ?_ ?_ ?_
 ·
  intro ix v wv wv2 h hs
  match ix, h with
  | 0, h => exact h
  | 1, h =>
   obtain ⟨AS, e28, hNS⟩ := (show ∃ AS, v = .agg #[.slice AS 2 2] ∧ NodesIn wv AS sharedG from h)
   exact ⟨AS, e28, hNS.mono hs.bel⟩
  | 2, h => exact h
  | 3, h => exact h
  | _ + 4, h => exact trivial
 ·
  intro ix o hix hoq gg wx hs hd hdis
  match ix, hix, hoq with
  | 0, _, hoq =>
   obtain rfl := sI hoq
   have hs0 := hs
   replace hb7 := hb7.tr0 hs
   clear hs
   refine os_rv (r_ldS U28 rfl rfl hb7.range0 sz28_GTgt) ⟨Same.refl _ _, ?_, frsh_no⟩
   exact rfl
  | 1, _, hoq =>
   obtain rfl := sI hoq
   have hs0 := hs
   clear hs
   refine os_cl fn11_UOrd (shared_any wx) rfl (fun e' w2 hr => ?_)
   obtain ⟨⟨AS, rfl, hNS⟩, hs⟩ := hr
   exact ⟨_, rfl, Same.of_bel hs, ⟨_, rfl, hNS⟩, frsh_no⟩
  | 2, _, hoq =>
   obtain rfl := sI hoq
   have hs0 := hs
   replace hBW := hBW.tr0 hs
   clear hs
   have d0 : gg 27 = .agg #[.slice GW 2 cW] := hd 0 (dep_of kR)
   have e27 := d0
   have d1 : ∃ AS, gg 28 = .agg #[.slice AS 2 2] ∧ NodesIn wx AS sharedG := hd 1 (dep_of kR)
   obtain ⟨AS, e28, hNS⟩ := d1
   refine os_know 27 (.agg #[.slice GW 2 cW]) e27 nu (os_know 28 (.agg #[.slice AS 2 2]) e28 nu ?_)
   refine os_cl fn13_UOrd (nodesb_any GW AS 2 2 cW 2 sharedG sharedG true wx (hGW.mono hBW) hNS rfl rfl (decide_eq_true rfl)) rfl (fun e' w2 hr => ?_)
   obtain ⟨rfl, hs⟩ := hr
   exact ⟨_, rfl, Same.of_bel hs, rfl, frsh_no⟩
  | 3, _, hoq =>
   obtain rfl := sI hoq
   have hs0 := hs
   clear hs
   have d2 : gg 29 = .bool true := hd 2 (dep_of kR)
   have e29 := d2
   refine os_know 29 (.bool true) e29 nu ?_
   refine os_rv (r_not rfl) ⟨Same.refl _ _, ?_, frsh_no⟩
   exact rfl
  | _ + 4, hix, _ => exact absurd hix om
 intro gg w12 hs hR hdis
 have hs0 := hs
 replace hB := hB.tr0 hs
 replace hb3 := hb3.tr0 hs
 replace hb4 := hb4.tr0 hs
 replace hb5 := hb5.tr0 hs
 replace hBW := hBW.tr0 hs
 replace hb7 := hb7.tr0 hs
 replace hb8 := hb8.tr0 hs
 clear hs
 have d3 : gg 30 = .bool false := hR 3 dE
 have e30 := d3
 refine wl_know 30 (.bool false) e30 nu (x_nil (e_S ?_))
 refine c_if rfl (fun c30 => ?_) (fun c30 => ?_)
 ·
  exact absurd c30 dE
 refine c_skip (e_S (c_seq (c_seq (c_region (wl (r_ldS U25 rfl rfl hb3.range0 sz25_GenZ) ?_)))))
 refine wl (r_ldS U28 rfl rfl hb4.range0 sz28_GTgt) (wl (r_ldS U28 rfl rfl hb5.range0 sz28_GTgt) ?_)
 refine wl_cl fn14_UOrd (twof_any A B G1 G2 c d c1 c2 l fs ga gb _ hcl hdl (hT.mono hB) (hF.mono hB) (hG1.mono hB) (hG2.mono hB)) rfl (fun e' w13 hr => ?_)
 obtain ⟨rfl, hs⟩ := hr
 replace hs := Same.of_bel hs
 replace hB := hB.tr0 hs
 replace hb3 := hb3.tr0 hs
 replace hb4 := hb4.tr0 hs
 replace hb5 := hb5.tr0 hs
 replace hb7 := hb7.tr0 hs
 replace hb8 := hb8.tr0 hs
 clear hs
 refine ⟨_, rfl, ?_⟩
 refine wl (r_fd1 (v := .int _ _) U30 rfl U3 rfl rfl rfl) (wl (r_neq rfl rfl) (x_nil (e_S ?_)))
 refine c_ifd rfl (fun c36 => ?_) (fun c36 => ?_)
 ·
  refine c_seq (c_region (waB rfl (x_nil (e_S (c_ret ?_)))))
  refine e_Sr (fin1 (.inl rfl) rfl rfl ?_)
  exact ⟨rfl, hB⟩
 have h0 := Decidable.not_not.1 c36
 obtain ⟨⟨hva, hvb⟩, hga0, hgb0⟩ := two_gv h0
 obtain ⟨oa, hoa⟩ := hva.gx.toGY.dl hva.gok.pos
 have hcan := canF_ok hga0 hoa
 refine c_skip (e_S (c_seq (c_seq (c_region (wl (r_ldS U25 rfl rfl hb3.range0 sz25_GenZ) ?_)))))
 refine wl (r_ldS U28 rfl rfl hb4.range0 sz28_GTgt) (wl (r_ldS U28 rfl rfl hb5.range0 sz28_GTgt) ?_)
 refine wl_cl fn16_UOrd (unify_any A B G1 G2 c d c1 c2 l fs ga gb _ (hTab.mono hB) (hT.mono hB) (hF.mono hB) (hG1.mono hB) (hG2.mono hB)) rfl (fun e' w14 hr => ?_)
 obtain ⟨⟨AX, XX, okX, fX, rfl, hNX, hUX⟩, hs⟩ := hr
 replace hs := Same.of_bel hs
 replace hB := hB.tr0 hs
 replace hb3 := hb3.tr0 hs
 replace hb4 := hb4.tr0 hs
 replace hb5 := hb5.tr0 hs
 replace hb7 := hb7.tr0 hs
 replace hb8 := hb8.tr0 hs
 clear hs
 replace hNX := hNX w14 (FrSame.refl _ _)
 have hBuX : Bel w14 w14 := Below.refl _ _
 refine ⟨_, rfl, ?_⟩
 refine wmT rfl (wl (r_ex (v := _) rfl rfl) (wl (r_ex (v := _) rfl rfl) (wl (r_ex (v := _) rfl rfl) ?_)))
 refine wl_al (cs := #[.slice none 0 0]) ze28 rfl (fun b9 w15 hb9 hs hr => ?_)
 have or_b3_b9 : b3 < b9 := nLL hb3.lt hr
 have or_b4_b9 : b4 < b9 := nLL hb4.lt hr
 have or_b5_b9 : b5 < b9 := nLL hb5.lt hr
 have or_b7_b9 : b7 < b9 := nLL hb7.lt hr
 have or_b8_b9 : b8 < b9 := nLL hb8.lt hr
 have lo9 := nLT (Bel.size hB) hr
 have lo_hBuX_b9 := nLT (Bel.size hBuX) hr
 replace hB := hB.tr0 hs
 replace hb3 := hb3.tr0 hs
 replace hb4 := hb4.tr0 hs
 replace hb5 := hb5.tr0 hs
 replace hb7 := hb7.tr0 hs
 replace hb8 := hb8.tr0 hs
 replace hBuX := hBuX.tr0 hs
 clear hs
 clear hr
 refine wl_al (cs := #[.int .i64 0, .int .i64 0]) ze30_UAll rfl (fun b11 w16 hb11 hs hr => ?_)
 have or_b3_b11 : b3 < b11 := nLL hb3.lt hr
 have or_b4_b11 : b4 < b11 := nLL hb4.lt hr
 have or_b5_b11 : b5 < b11 := nLL hb5.lt hr
 have or_b7_b11 : b7 < b11 := nLL hb7.lt hr
 have or_b8_b11 : b8 < b11 := nLL hb8.lt hr
 have or_b9_b11 : b9 < b11 := nLL hb9.lt hr
 have lo11 := nLT (Bel.size hB) hr
 have lo_hBuX_b11 := nLT (Bel.size hBuX) hr
 replace hB := hB.tr0 hs
 replace hb3 := hb3.tr0 hs
 replace hb4 := hb4.tr0 hs
 replace hb5 := hb5.tr0 hs
 replace hb7 := hb7.tr0 hs
 replace hb8 := hb8.tr0 hs
 replace hBuX := hBuX.tr0 hs
 replace hb9 := hb9.tr0 hs
 clear hs
 clear hr
 refine wl_stW hb9 rfl rfl sz28_GTgt rfl oneA (fun w17 hq hs => ?_)
 replace hB := hB.tr1 hs lo9
 replace hb3 := hb3.tr1 hs om
 replace hb4 := hb4.tr1 hs om
 replace hb5 := hb5.tr1 hs om
 replace hb7 := hb7.tr1 hs om
 replace hb8 := hb8.tr1 hs om
 replace hBuX := hBuX.tr1 hs lo_hBuX_b9
 replace hb11 := hb11.tr1 hs om
 clear hs
 replace hb9 := hq
 refine waB rfl ?_
 refine wl_stW hb11 rfl rfl sz30_UAll rfl oneA (fun w18 hq hs => ?_)
 replace hB := hB.tr1 hs lo11
 replace hb3 := hb3.tr1 hs om
 replace hb4 := hb4.tr1 hs om
 replace hb5 := hb5.tr1 hs om
 replace hb7 := hb7.tr1 hs om
 replace hb8 := hb8.tr1 hs om
 replace hBuX := hBuX.tr1 hs lo_hBuX_b11
 replace hb9 := hb9.tr1 hs om
 clear hs
 replace hb11 := hq
 refine x_nil (e_S (c_seq ?_))
 refine c_cut1 [45, 46, 47, 48, 49, 50] 50 (.bool (decide (fX.1 = 0 ∧ okX = true))) nu ?_ (fun gq => ?_)
 ·
  refine c_region (wl (r_fa U30 sz3_UAll dE rfl rfl rfl) (wl (r_ld1 (v := .int _ _) U3 rfl rfl (hb11.cell rfl)) (wl (r_eql rfl rfl) (wmB rfl ?_))))
  refine wl_casesd 48 rfl (fun g48 => ?_) (fun g48 => ?_)
  ·
   refine wl_gd 48 rfl rfl (wmB rfl (wl (r_pt (v := .bool _) rfl rfl) ?_))
   refine x_nil (e_R ⟨rfl, agA, ?_⟩)
   show Value.bool _ = Value.bool _
   first
    | exact congrArg Value.bool (decide_eq_false (fun h => g48 h.1)).symm
    | exact congrArg Value.bool (by cases okX <;> simp [g48])
  refine wlgn 48 rfl rfl rfl (wl (r_pf (v := .bool _) rfl rfl) ?_)
  refine x_nil (e_R ⟨rfl, agA, ?_⟩)
  show Value.bool _ = Value.bool _
  first
   | exact congrArg Value.bool (decide_eq_false (fun h => g48 h.1)).symm
   | exact congrArg Value.bool (by cases okX <;> simp [g48])
 refine e_S ?_
 refine c_ifd rfl (fun c50 => ?_) (fun c50 => ?_)
 ·
  obtain ⟨hs1, _, hXX0⟩ := uni_bounds hga0 hgb0 hUX c50.2
  have hmX := (subB_iff hga0 hXX0).1 hs1
  refine c_seq (c_region (wl (r_ldS U25 rfl rfl hb3.range0 sz25_GenZ) (wl (r_ldS U28 rfl rfl hb4.range0 sz28_GTgt) (wl (r_ldS U28 rfl rfl hb9.range0 sz28_GTgt) ?_))))
  refine wl_cl fn20 (gen_any A B G1 AX c d c1 XX.length l fs ga XX _ (hTab.mono hB) (hT.mono hB) (hF.mono hB) (hG1.mono hB) (hNX.mono hBuX)) rfl (fun e' w19 hr => ?_)
  obtain ⟨⟨AY, XY, cY, fY, rfl, hNY, hSY⟩, hs⟩ := hr
  replace hs := Same.of_bel hs
  replace hB := hB.tr0 hs
  replace hb3 := hb3.tr0 hs
  replace hb4 := hb4.tr0 hs
  replace hb5 := hb5.tr0 hs
  replace hb7 := hb7.tr0 hs
  replace hb8 := hb8.tr0 hs
  replace hBuX := hBuX.tr0 hs
  replace hb9 := hb9.tr0 hs
  replace hb11 := hb11.tr0 hs
  clear hs
  replace hNY := hNY w19 (FrSame.refl _ _)
  have hBuY : Bel w19 w19 := Below.refl _ _
  obtain ⟨efY, eXY⟩ := gen_sub hga0 hXX0 hSY hmX
  subst efY
  have hdY := decide_eq_true ((eXY oa hoa).trans hcan.symm)
  refine ⟨_, rfl, ?_⟩
  refine wmT rfl (wl (r_ex (v := _) rfl rfl) (wl (r_ex (v := _) rfl rfl) ?_))
  refine wl_al (cs := #[.slice none 0 0]) ze28 rfl (fun b12 w20 hb12 hs hr => ?_)
  have or_b3_b12 : b3 < b12 := nLL hb3.lt hr
  have or_b4_b12 : b4 < b12 := nLL hb4.lt hr
  have or_b5_b12 : b5 < b12 := nLL hb5.lt hr
  have or_b7_b12 : b7 < b12 := nLL hb7.lt hr
  have or_b8_b12 : b8 < b12 := nLL hb8.lt hr
  have or_b9_b12 : b9 < b12 := nLL hb9.lt hr
  have or_b11_b12 : b11 < b12 := nLL hb11.lt hr
  have lo12 := nLT (Bel.size hB) hr
  have lo_hBuX_b12 := nLT (Bel.size hBuX) hr
  have lo_hBuY_b12 := nLT (Bel.size hBuY) hr
  replace hB := hB.tr0 hs
  replace hb3 := hb3.tr0 hs
  replace hb4 := hb4.tr0 hs
  replace hb5 := hb5.tr0 hs
  replace hb7 := hb7.tr0 hs
  replace hb8 := hb8.tr0 hs
  replace hBuX := hBuX.tr0 hs
  replace hb9 := hb9.tr0 hs
  replace hb11 := hb11.tr0 hs
  replace hBuY := hBuY.tr0 hs
  clear hs
  clear hr
  refine wl_al (cs := #[.int .i64 0, .int .i64 0]) ze30_UAll rfl (fun b13 w21 hb13 hs hr => ?_)
  have or_b3_b13 : b3 < b13 := nLL hb3.lt hr
  have or_b4_b13 : b4 < b13 := nLL hb4.lt hr
  have or_b5_b13 : b5 < b13 := nLL hb5.lt hr
  have or_b7_b13 : b7 < b13 := nLL hb7.lt hr
  have or_b8_b13 : b8 < b13 := nLL hb8.lt hr
  have or_b9_b13 : b9 < b13 := nLL hb9.lt hr
  have or_b11_b13 : b11 < b13 := nLL hb11.lt hr
  have or_b12_b13 : b12 < b13 := nLL hb12.lt hr
  have lo13 := nLT (Bel.size hB) hr
  have lo_hBuX_b13 := nLT (Bel.size hBuX) hr
  have lo_hBuY_b13 := nLT (Bel.size hBuY) hr
  replace hB := hB.tr0 hs
  replace hb3 := hb3.tr0 hs
  replace hb4 := hb4.tr0 hs
  replace hb5 := hb5.tr0 hs
  replace hb7 := hb7.tr0 hs
  replace hb8 := hb8.tr0 hs
  replace hBuX := hBuX.tr0 hs
  replace hb9 := hb9.tr0 hs
  replace hb11 := hb11.tr0 hs
  replace hBuY := hBuY.tr0 hs
  replace hb12 := hb12.tr0 hs
  clear hs
  clear hr
  refine wl_stW hb12 rfl rfl sz28_GTgt rfl oneA (fun w22 hq hs => ?_)
  replace hB := hB.tr1 hs lo12
  replace hb3 := hb3.tr1 hs om
  replace hb4 := hb4.tr1 hs om
  replace hb5 := hb5.tr1 hs om
  replace hb7 := hb7.tr1 hs om
  replace hb8 := hb8.tr1 hs om
  replace hBuX := hBuX.tr1 hs lo_hBuX_b12
  replace hb9 := hb9.tr1 hs om
  replace hb11 := hb11.tr1 hs om
  replace hBuY := hBuY.tr1 hs lo_hBuY_b12
  replace hb13 := hb13.tr1 hs om
  clear hs
  replace hb12 := hq
  refine wl_stW hb13 rfl rfl sz30_UAll rfl oneA (fun w23 hq hs => ?_)
  replace hB := hB.tr1 hs lo13
  replace hb3 := hb3.tr1 hs om
  replace hb4 := hb4.tr1 hs om
  replace hb5 := hb5.tr1 hs om
  replace hb7 := hb7.tr1 hs om
  replace hb8 := hb8.tr1 hs om
  replace hBuX := hBuX.tr1 hs lo_hBuX_b13
  replace hb9 := hb9.tr1 hs om
  replace hb11 := hb11.tr1 hs om
  replace hBuY := hBuY.tr1 hs lo_hBuY_b13
  replace hb12 := hb12.tr1 hs om
  clear hs
  replace hb13 := hq
  refine x_nil (e_S (c_seq ?_))
  refine c_monoGO 10 [58, 59, 60, 61, 62, 63, 64, 65, 66, 67] (fun _ => false) (fun ix v wv => match ix with | 0 => v = .pointer (some ⟨b13, 0, none⟩) | 1 => v = .int .i64 0 | 2 => v = .bool false | 3 => v = .bool false | 4 => v = .agg #[.slice AY XY.length cY] | 5 => v = .agg #[.slice G1 ga.length c1] | 6 => ∃ AR c, v = .agg #[.slice AR (canF l fs ga).length c] ∧ NodesIn wv AR (canF l fs ga) | 7 => v = .bool true | 8 => v = .bool false | 9 => v = .bool false | _ => True) kR kR ?_ ?_ ?_
  ·
   intro ix v wv wv2 h hs
   match ix, h with
   | 0, h => exact h
   | 1, h => exact h
   | 2, h => exact h
   | 3, h => exact h
   | 4, h => exact h
   | 5, h => exact h
   | 6, h =>
    obtain ⟨AR64, cR64, e64, hNR64⟩ := (show ∃ AR c, v = .agg #[.slice AR (canF l fs ga).length c] ∧ NodesIn wv AR (canF l fs ga) from h)
    exact ⟨AR64, cR64, e64, hNR64.mono hs.bel⟩
   | 7, h => exact h
   | 8, h => exact h
   | 9, h => exact h
   | _ + 10, h => exact trivial
  ·
   intro ix o hix hoq gg wx hs hd hdis
   match ix, hix, hoq with
   | 0, _, hoq =>
    obtain rfl := sI hoq
    have hs0 := hs
    replace hb13 := hb13.tr0 hs
    clear hs
    refine ⟨fun _ => ?_, fun hw => Bool.noConfusion (show true = false from hw)⟩
    refine os_rv (r_fa U30 sz3_UAll dE rfl rfl rfl) ⟨Same.refl _ _, ?_, frsh_no⟩
    exact rfl
   | 1, _, hoq =>
    obtain rfl := sI hoq
    have hs0 := hs
    replace hb13 := hb13.tr0 hs
    clear hs
    have d0 : gg 58 = .pointer (some ⟨b13, 0, none⟩) := hd 0 (dep_of kR)
    have e58 := d0
    refine ⟨fun _ => ?_, fun hw => Bool.noConfusion (show true = false from hw)⟩
    refine os_know 58 (.pointer (some ⟨b13, 0, none⟩)) e58 nu ?_
    refine os_rv (r_ld1 (v := .int _ _) U3 rfl rfl (hb13.cell rfl)) ⟨Same.refl _ _, ?_, frsh_no⟩
    exact rfl
   | 2, _, hoq =>
    obtain rfl := sI hoq
    have hs0 := hs
    clear hs
    have d1 : gg 59 = .int .i64 0 := hd 1 (dep_of kR)
    have e59 := d1
    refine ⟨fun _ => ?_, fun hw => Bool.noConfusion (show true = false from hw)⟩
    refine os_know 59 (.int .i64 0) e59 nu ?_
    refine os_rv (r_neq rfl rfl) ⟨Same.refl _ _, ?_, frsh_no⟩
    exact (congrArg Value.bool (decide_eq_false (fun h => h rfl)))
   | 3, _, hoq =>
    obtain rfl := sI hoq
    have hs0 := hs
    clear hs
    have d2 : gg 60 = .bool false := hd 2 (dep_of kR)
    have e60 := d2
    refine ⟨fun _ => ?_, fun hw => Bool.noConfusion (show true = false from hw)⟩
    refine os_know 60 (.bool false) e60 nu ?_
    refine os_rv (r_mv (v := .bool _) rfl) ⟨Same.refl _ _, ?_, frsh_no⟩
    exact rfl
   | 4, _, hoq =>
    obtain rfl := sI hoq
    have hs0 := hs
    replace hb12 := hb12.tr0 hs
    clear hs
    have d3 : gg 61 = .bool false := hd 3 (dep_of kR)
    have e61 := d3
    refine guard_case 61 false rfl e61 (fun _ => ?_) (fun h => absurd h dE)
    refine os_know 61 (.bool false) e61 nu ?_
    refine os_rv (r_ldS U28 rfl rfl hb12.range0 sz28_GTgt) ⟨Same.refl _ _, ?_, frsh_no⟩
    exact rfl
   | 5, _, hoq =>
    obtain rfl := sI hoq
    have hs0 := hs
    replace hb4 := hb4.tr0 hs
    clear hs
    have d3 : gg 61 = .bool false := hd 3 (dep_of kR)
    have e61 := d3
    refine guard_case 61 false rfl e61 (fun _ => ?_) (fun h => absurd h dE)
    refine os_know 61 (.bool false) e61 nu ?_
    refine os_rv (r_ldS U28 rfl rfl hb4.range0 sz28_GTgt) ⟨Same.refl _ _, ?_, frsh_no⟩
    exact rfl
   | 6, _, hoq =>
    obtain rfl := sI hoq
    have hs0 := hs
    replace hB := hB.tr0 hs
    clear hs
    have d3 : gg 61 = .bool false := hd 3 (dep_of kR)
    have e61 := d3
    have d5 : gg 63 = .agg #[.slice G1 ga.length c1] := hd 5 (dep_of kR)
    have e63 := d5
    refine guard_case 61 false rfl e61 (fun _ => ?_) (fun h => absurd h dE)
    refine os_know 61 (.bool false) e61 nu (os_know 63 (.agg #[.slice G1 ga.length c1]) e63 nu ?_)
    refine os_cl fn19_UGen (rcan_any G1 _ c1 l fs ga wx (hG1.mono hB) rfl hga0) rfl (fun e' w2 hr => ?_)
    obtain ⟨⟨AR, cR, rfl, hNR⟩, hs⟩ := hr
    exact ⟨_, rfl, Same.of_bel hs, ⟨_, _, rfl, hNR _ (FrSame.refl _ _)⟩, frsh_no⟩
   | 7, _, hoq =>
    obtain rfl := sI hoq
    have hs0 := hs
    replace hBuY := hBuY.tr0 hs
    clear hs
    have d3 : gg 61 = .bool false := hd 3 (dep_of kR)
    have e61 := d3
    have d4 : gg 62 = .agg #[.slice AY XY.length cY] := hd 4 (dep_of kR)
    have e62 := d4
    have d6 : ∃ AR c, gg 64 = .agg #[.slice AR (canF l fs ga).length c] ∧ NodesIn wx AR (canF l fs ga) := hd 6 (dep_of kR)
    obtain ⟨AR64, cR64, e64, hNR64⟩ := d6
    refine guard_case 61 false rfl e61 (fun _ => ?_) (fun h => absurd h dE)
    refine os_know 61 (.bool false) e61 nu (os_know 62 (.agg #[.slice AY XY.length cY]) e62 nu (os_know 64 (.agg #[.slice AR64 (canF l fs ga).length cR64]) e64 nu ?_))
    refine os_cl fn13_UOrd (nodesb_any AY AR64 _ _ _ cR64 _ _ true wx (hNY.mono hBuY) hNR64 rfl rfl hdY) rfl (fun e' w2 hr => ?_)
    obtain ⟨rfl, hs⟩ := hr
    exact ⟨_, rfl, Same.of_bel hs, rfl, frsh_no⟩
   | 8, _, hoq =>
    obtain rfl := sI hoq
    have hs0 := hs
    clear hs
    have d3 : gg 61 = .bool false := hd 3 (dep_of kR)
    have e61 := d3
    have d7 : gg 65 = .bool true := hd 7 (dep_of kR)
    have e65 := d7
    refine guard_case 61 false rfl e61 (fun _ => ?_) (fun h => absurd h dE)
    refine os_know 61 (.bool false) e61 nu (os_know 65 (.bool true) e65 nu ?_)
    refine os_rv (r_not rfl) ⟨Same.refl _ _, ?_, frsh_no⟩
    exact rfl
   | 9, _, hoq =>
    obtain rfl := sI hoq
    have hs0 := hs
    clear hs
    have d3 : gg 61 = .bool false := hd 3 (dep_of kR)
    have e61 := d3
    have d8 : gg 66 = .bool false := hd 8 (dep_of kR)
    have e66 := d8
    refine ⟨fun _ => ?_, fun hw => Bool.noConfusion (show true = false from hw)⟩
    refine os_know 61 (.bool false) e61 nu (os_know 66 (.bool false) e66 nu ?_)
    refine os_rv (r_pf (v := .bool _) rfl rfl) ⟨Same.refl _ _, ?_, frsh_no⟩
    exact rfl
   | _ + 10, hix, _ => exact absurd hix om
  intro gg w24 hs hR hdis
  have hs0 := hs
  replace hB := hB.tr0 hs
  replace hb3 := hb3.tr0 hs
  replace hb4 := hb4.tr0 hs
  replace hb5 := hb5.tr0 hs
  replace hb7 := hb7.tr0 hs
  replace hb8 := hb8.tr0 hs
  replace hBuX := hBuX.tr0 hs
  replace hb9 := hb9.tr0 hs
  replace hb11 := hb11.tr0 hs
  replace hBuY := hBuY.tr0 hs
  replace hb12 := hb12.tr0 hs
  replace hb13 := hb13.tr0 hs
  clear hs
  have d9 : gg 67 = .bool false := hR 9 dE
  have e67 := d9
  refine wl_know 67 (.bool false) e67 nu (x_nil (e_S ?_))
  refine c_if rfl (fun c67 => ?_) (fun c67 => ?_)
  ·
   exact absurd c67 dE
  refine c_skip (e_S (c_seq (c_region (wl (r_ldS U25 rfl rfl hb3.range0 sz25_GenZ) (wl (r_ldS U28 rfl rfl hb4.range0 sz28_GTgt) ?_)))))
  refine wl (r_ldS U28 rfl rfl hb5.range0 sz28_GTgt) ?_
  refine wl_cl fn20 (gen_any A B G1 G2 c d c1 c2 l fs ga gb _ (hTab.mono hB) (hT.mono hB) (hF.mono hB) (hG1.mono hB) (hG2.mono hB)) rfl (fun e' w25 hr => ?_)
  obtain ⟨⟨AZ, XZ, cZ, fZ, rfl, hNZ, hSZ⟩, hs⟩ := hr
  replace hs := Same.of_bel hs
  replace hB := hB.tr0 hs
  replace hb3 := hb3.tr0 hs
  replace hb4 := hb4.tr0 hs
  replace hb5 := hb5.tr0 hs
  replace hb7 := hb7.tr0 hs
  replace hb8 := hb8.tr0 hs
  replace hb9 := hb9.tr0 hs
  replace hb11 := hb11.tr0 hs
  replace hb12 := hb12.tr0 hs
  replace hb13 := hb13.tr0 hs
  clear hs
  replace hNZ := hNZ w25 (FrSame.refl _ _)
  have hBuZ : Bel w25 w25 := Below.refl _ _
  refine ⟨_, rfl, ?_⟩
  refine wmT rfl (wl (r_ex (v := _) rfl rfl) (wl (r_ex (v := _) rfl rfl) ?_))
  refine wl_al (cs := #[.slice none 0 0]) ze28 rfl (fun b14 w26 hb14 hs hr => ?_)
  have or_b3_b14 : b3 < b14 := nLL hb3.lt hr
  have or_b4_b14 : b4 < b14 := nLL hb4.lt hr
  have or_b5_b14 : b5 < b14 := nLL hb5.lt hr
  have or_b7_b14 : b7 < b14 := nLL hb7.lt hr
  have or_b8_b14 : b8 < b14 := nLL hb8.lt hr
  have or_b9_b14 : b9 < b14 := nLL hb9.lt hr
  have or_b11_b14 : b11 < b14 := nLL hb11.lt hr
  have or_b12_b14 : b12 < b14 := nLL hb12.lt hr
  have or_b13_b14 : b13 < b14 := nLL hb13.lt hr
  have lo14 := nLT (Bel.size hB) hr
  have lo_hBuZ_b14 := nLT (Bel.size hBuZ) hr
  replace hB := hB.tr0 hs
  replace hb3 := hb3.tr0 hs
  replace hb4 := hb4.tr0 hs
  replace hb5 := hb5.tr0 hs
  replace hb7 := hb7.tr0 hs
  replace hb8 := hb8.tr0 hs
  replace hb9 := hb9.tr0 hs
  replace hb11 := hb11.tr0 hs
  replace hb12 := hb12.tr0 hs
  replace hb13 := hb13.tr0 hs
  replace hBuZ := hBuZ.tr0 hs
  clear hs
  clear hr
  refine wl_al (cs := #[.int .i64 0, .int .i64 0]) ze30_UAll rfl (fun b15 w27 hb15 hs hr => ?_)
  have or_b3_b15 : b3 < b15 := nLL hb3.lt hr
  have or_b4_b15 : b4 < b15 := nLL hb4.lt hr
  have or_b5_b15 : b5 < b15 := nLL hb5.lt hr
  have or_b7_b15 : b7 < b15 := nLL hb7.lt hr
  have or_b8_b15 : b8 < b15 := nLL hb8.lt hr
  have or_b9_b15 : b9 < b15 := nLL hb9.lt hr
  have or_b11_b15 : b11 < b15 := nLL hb11.lt hr
  have or_b12_b15 : b12 < b15 := nLL hb12.lt hr
  have or_b13_b15 : b13 < b15 := nLL hb13.lt hr
  have or_b14_b15 : b14 < b15 := nLL hb14.lt hr
  have lo15 := nLT (Bel.size hB) hr
  have lo_hBuZ_b15 := nLT (Bel.size hBuZ) hr
  replace hB := hB.tr0 hs
  replace hb3 := hb3.tr0 hs
  replace hb4 := hb4.tr0 hs
  replace hb5 := hb5.tr0 hs
  replace hb7 := hb7.tr0 hs
  replace hb8 := hb8.tr0 hs
  replace hb9 := hb9.tr0 hs
  replace hb11 := hb11.tr0 hs
  replace hb12 := hb12.tr0 hs
  replace hb13 := hb13.tr0 hs
  replace hBuZ := hBuZ.tr0 hs
  replace hb14 := hb14.tr0 hs
  clear hs
  clear hr
  refine wl_stW hb14 rfl rfl sz28_GTgt rfl oneA (fun w28 hq hs => ?_)
  replace hB := hB.tr1 hs lo14
  replace hb3 := hb3.tr1 hs om
  replace hb4 := hb4.tr1 hs om
  replace hb5 := hb5.tr1 hs om
  replace hb7 := hb7.tr1 hs om
  replace hb8 := hb8.tr1 hs om
  replace hb9 := hb9.tr1 hs om
  replace hb11 := hb11.tr1 hs om
  replace hb12 := hb12.tr1 hs om
  replace hb13 := hb13.tr1 hs om
  replace hBuZ := hBuZ.tr1 hs lo_hBuZ_b14
  replace hb15 := hb15.tr1 hs om
  clear hs
  replace hb14 := hq
  refine wl_stW hb15 rfl rfl sz30_UAll rfl oneA (fun w29 hq hs => ?_)
  replace hB := hB.tr1 hs lo15
  replace hb3 := hb3.tr1 hs om
  replace hb4 := hb4.tr1 hs om
  replace hb5 := hb5.tr1 hs om
  replace hb7 := hb7.tr1 hs om
  replace hb8 := hb8.tr1 hs om
  replace hb9 := hb9.tr1 hs om
  replace hb11 := hb11.tr1 hs om
  replace hb12 := hb12.tr1 hs om
  replace hb13 := hb13.tr1 hs om
  replace hBuZ := hBuZ.tr1 hs lo_hBuZ_b15
  replace hb14 := hb14.tr1 hs om
  clear hs
  replace hb15 := hq
  refine x_nil (e_S (c_seq (c_seq (c_region (wl (r_fa U30 sz3_UAll dE rfl rfl rfl) ?_)))))
  refine wl (r_ld1 (v := .int _ _) U3 rfl rfl (hb15.cell rfl)) (wl (r_neq rfl rfl) (x_nil (e_S ?_)))
  refine c_ifd rfl (fun c77 => ?_) (fun c77 => ?_)
  ·
   refine c_seq (c_region (waB rfl (x_nil (e_S (c_ret ?_)))))
   refine e_Sr (fin1 (.inl rfl) rfl rfl ?_)
   exact ⟨rfl, hB⟩
  have hfZ := Decidable.not_not.1 c77
  obtain ⟨efZ, hXZ0, hmZ, _⟩ := gen_says hga0 hgb0 hSZ hfZ
  refine c_skip (e_S (c_seq (c_region (wl (r_ldS U25 rfl rfl hb3.range0 sz25_GenZ) (wl (r_ldS U28 rfl rfl hb4.range0 sz28_GTgt) ?_)))))
  refine wl (r_ldS U28 rfl rfl hb14.range0 sz28_GTgt) ?_
  have z15 := hb15.lt
  refine wl_cl fn16_UOrd (unify_any A B G1 AZ c d c1 cZ l fs ga XZ _ (hTab.mono hB) (hT.mono hB) (hF.mono hB) (hG1.mono hB) (hNZ.mono hBuZ)) rfl (fun e' w30 hr => ?_)
  obtain ⟨⟨AU, XU, okU, fU, rfl, hNU, hUU⟩, hs⟩ := hr
  replace hs := Same.of_bel hs
  replace hB := hB.tr0 hs
  replace hb3 := hb3.tr0 hs
  replace hb4 := hb4.tr0 hs
  replace hb5 := hb5.tr0 hs
  replace hb7 := hb7.tr0 hs
  replace hb8 := hb8.tr0 hs
  replace hb9 := hb9.tr0 hs
  replace hb11 := hb11.tr0 hs
  replace hb12 := hb12.tr0 hs
  replace hb13 := hb13.tr0 hs
  replace hBuZ := hBuZ.tr0 hs
  replace hb14 := hb14.tr0 hs
  replace hb15 := hb15.tr0 hs
  clear hs
  obtain ⟨ZU, hZU⟩ : ∃ z, z = (w29).heap.size := ⟨_, rfl⟩
  rw [← hZU] at hNU z15
  obtain ⟨wU, hwU⟩ : ∃ z, z = w30 := ⟨_, rfl⟩
  have hFU : FrSame ZU wU w30 := by rw [hwU]; exact FrSame.refl _ _
  rw [← hwU] at hNU
  obtain ⟨eoU, efU, eXU⟩ := uni_abs hga0 hXZ0 hmZ.1 hUU hoa
  subst eoU
  subst efU
  have hdU := decide_eq_true (eXU.trans hcan.symm)
  refine ⟨_, rfl, ?_⟩
  refine wmT rfl (wl (r_ex (v := _) rfl rfl) (wl (r_ex (v := _) rfl rfl) (wl (r_ex (v := _) rfl rfl) ?_)))
  refine wl_al (cs := #[.slice none 0 0]) ze28 rfl (fun b16 w31 hb16 hs hr => ?_)
  have or_b3_b16 : b3 < b16 := nLL hb3.lt hr
  have or_b4_b16 : b4 < b16 := nLL hb4.lt hr
  have or_b5_b16 : b5 < b16 := nLL hb5.lt hr
  have or_b7_b16 : b7 < b16 := nLL hb7.lt hr
  have or_b8_b16 : b8 < b16 := nLL hb8.lt hr
  have or_b9_b16 : b9 < b16 := nLL hb9.lt hr
  have or_b11_b16 : b11 < b16 := nLL hb11.lt hr
  have or_b12_b16 : b12 < b16 := nLL hb12.lt hr
  have or_b13_b16 : b13 < b16 := nLL hb13.lt hr
  have or_b14_b16 : b14 < b16 := nLL hb14.lt hr
  have or_b15_b16 : b15 < b16 := nLL hb15.lt hr
  have or_hFU_b16 := (nLT hFU.size hr)
  have lo16 := nLT (Bel.size hB) hr
  have lo_hBuZ_b16 := nLT (Bel.size hBuZ) hr
  replace hB := hB.tr0 hs
  replace hb3 := hb3.tr0 hs
  replace hb4 := hb4.tr0 hs
  replace hb5 := hb5.tr0 hs
  replace hb7 := hb7.tr0 hs
  replace hb8 := hb8.tr0 hs
  replace hb9 := hb9.tr0 hs
  replace hb11 := hb11.tr0 hs
  replace hb12 := hb12.tr0 hs
  replace hb13 := hb13.tr0 hs
  replace hBuZ := hBuZ.tr0 hs
  replace hb14 := hb14.tr0 hs
  replace hb15 := hb15.tr0 hs
  replace hFU := hFU.of hs (by simp)
  clear hs
  clear hr
  refine wl_stW hb16 rfl rfl sz28_GTgt rfl oneA (fun w32 hq hs => ?_)
  replace hB := hB.tr1 hs lo16
  replace hb3 := hb3.tr1 hs om
  replace hb4 := hb4.tr1 hs om
  replace hb5 := hb5.tr1 hs om
  replace hb7 := hb7.tr1 hs om
  replace hb8 := hb8.tr1 hs om
  replace hb9 := hb9.tr1 hs om
  replace hb11 := hb11.tr1 hs om
  replace hb12 := hb12.tr1 hs om
  replace hb13 := hb13.tr1 hs om
  replace hBuZ := hBuZ.tr1 hs lo_hBuZ_b16
  replace hb14 := hb14.tr1 hs om
  replace hb15 := hb15.tr1 hs om
  replace hFU := hFU.of hs (fun g hg => by rw [List.mem_singleton.1 hg]; omega)
  clear hs
  replace hb16 := hq
  refine waB rfl ?_
  refine wl_stW hb15 rfl rfl sz30_UAll rfl oneA (fun w33 hq hs => ?_)
  replace hB := hB.tr1 hs lo15
  replace hb3 := hb3.tr1 hs om
  replace hb4 := hb4.tr1 hs om
  replace hb5 := hb5.tr1 hs om
  replace hb7 := hb7.tr1 hs om
  replace hb8 := hb8.tr1 hs om
  replace hb9 := hb9.tr1 hs om
  replace hb11 := hb11.tr1 hs om
  replace hb12 := hb12.tr1 hs om
  replace hb13 := hb13.tr1 hs om
  replace hBuZ := hBuZ.tr1 hs lo_hBuZ_b15
  replace hb14 := hb14.tr1 hs om
  replace hFU := hFU.of hs (fun g hg => by rw [List.mem_singleton.1 hg]; omega)
  replace hb16 := hb16.tr1 hs om
  clear hs
  replace hb15 := hq
  refine x_nil (e_S (c_seq (c_region (wl (r_ldS U25 rfl rfl hb3.range0 sz25_GenZ) (wl (r_ldS U28 rfl rfl hb5.range0 sz28_GTgt) ?_)))))
  refine wl (r_ldS U28 rfl rfl hb4.range0 sz28_GTgt) ?_
  refine wl_cl fn20 (gen_any A B G2 G1 c d c2 c1 l fs gb ga _ (hTab.mono hB) (hT.mono hB) (hF.mono hB) (hG2.mono hB) (hG1.mono hB)) rfl (fun e' w34 hr => ?_)
  obtain ⟨⟨AV, XV, cV, fV, rfl, hNV, hSV⟩, hs⟩ := hr
  replace hs := Same.of_bel hs
  replace hB := hB.tr0 hs
  replace hb3 := hb3.tr0 hs
  replace hb4 := hb4.tr0 hs
  replace hb5 := hb5.tr0 hs
  replace hb7 := hb7.tr0 hs
  replace hb8 := hb8.tr0 hs
  replace hb9 := hb9.tr0 hs
  replace hb11 := hb11.tr0 hs
  replace hb12 := hb12.tr0 hs
  replace hb13 := hb13.tr0 hs
  replace hBuZ := hBuZ.tr0 hs
  replace hb14 := hb14.tr0 hs
  replace hb15 := hb15.tr0 hs
  replace hFU := hFU.of hs (by simp)
  replace hb16 := hb16.tr0 hs
  clear hs
  replace hNV := hNV w34 (FrSame.refl _ _)
  have hBuV : Bel w34 w34 := Below.refl _ _
  obtain ⟨efV, eXV⟩ := gen_swap hga0 hgb0 hSZ hfZ hSV
  subst efV
  subst eXV
  refine ⟨_, rfl, ?_⟩
  refine wmT rfl (wl (r_ex (v := _) rfl rfl) (wl (r_ex (v := _) rfl rfl) ?_))
  refine wl_al (cs := #[.slice none 0 0]) ze28 rfl (fun b18 w35 hb18 hs hr => ?_)
  have or_b3_b18 : b3 < b18 := nLL hb3.lt hr
  have or_b4_b18 : b4 < b18 := nLL hb4.lt hr
  have or_b5_b18 : b5 < b18 := nLL hb5.lt hr
  have or_b7_b18 : b7 < b18 := nLL hb7.lt hr
  have or_b8_b18 : b8 < b18 := nLL hb8.lt hr
  have or_b9_b18 : b9 < b18 := nLL hb9.lt hr
  have or_b11_b18 : b11 < b18 := nLL hb11.lt hr
  have or_b12_b18 : b12 < b18 := nLL hb12.lt hr
  have or_b13_b18 : b13 < b18 := nLL hb13.lt hr
  have or_b14_b18 : b14 < b18 := nLL hb14.lt hr
  have or_b15_b18 : b15 < b18 := nLL hb15.lt hr
  have or_hFU_b18 := (nLT hFU.size hr)
  have or_b16_b18 : b16 < b18 := nLL hb16.lt hr
  have lo18 := nLT (Bel.size hB) hr
  have lo_hBuZ_b18 := nLT (Bel.size hBuZ) hr
  have lo_hBuV_b18 := nLT (Bel.size hBuV) hr
  replace hB := hB.tr0 hs
  replace hb3 := hb3.tr0 hs
  replace hb4 := hb4.tr0 hs
  replace hb5 := hb5.tr0 hs
  replace hb7 := hb7.tr0 hs
  replace hb8 := hb8.tr0 hs
  replace hb9 := hb9.tr0 hs
  replace hb11 := hb11.tr0 hs
  replace hb12 := hb12.tr0 hs
  replace hb13 := hb13.tr0 hs
  replace hBuZ := hBuZ.tr0 hs
  replace hb14 := hb14.tr0 hs
  replace hb15 := hb15.tr0 hs
  replace hFU := hFU.of hs (by simp)
  replace hb16 := hb16.tr0 hs
  replace hBuV := hBuV.tr0 hs
  clear hs
  clear hr
  refine wl_al (cs := #[.int .i64 0, .int .i64 0]) ze30_UAll rfl (fun b19 w36 hb19 hs hr => ?_)
  have or_b3_b19 : b3 < b19 := nLL hb3.lt hr
  have or_b4_b19 : b4 < b19 := nLL hb4.lt hr
  have or_b5_b19 : b5 < b19 := nLL hb5.lt hr
  have or_b7_b19 : b7 < b19 := nLL hb7.lt hr
  have or_b8_b19 : b8 < b19 := nLL hb8.lt hr
  have or_b9_b19 : b9 < b19 := nLL hb9.lt hr
  have or_b11_b19 : b11 < b19 := nLL hb11.lt hr
  have or_b12_b19 : b12 < b19 := nLL hb12.lt hr
  have or_b13_b19 : b13 < b19 := nLL hb13.lt hr
  have or_b14_b19 : b14 < b19 := nLL hb14.lt hr
  have or_b15_b19 : b15 < b19 := nLL hb15.lt hr
  have or_hFU_b19 := (nLT hFU.size hr)
  have or_b16_b19 : b16 < b19 := nLL hb16.lt hr
  have or_b18_b19 : b18 < b19 := nLL hb18.lt hr
  have lo19 := nLT (Bel.size hB) hr
  have lo_hBuZ_b19 := nLT (Bel.size hBuZ) hr
  have lo_hBuV_b19 := nLT (Bel.size hBuV) hr
  replace hB := hB.tr0 hs
  replace hb3 := hb3.tr0 hs
  replace hb4 := hb4.tr0 hs
  replace hb5 := hb5.tr0 hs
  replace hb7 := hb7.tr0 hs
  replace hb8 := hb8.tr0 hs
  replace hb9 := hb9.tr0 hs
  replace hb11 := hb11.tr0 hs
  replace hb12 := hb12.tr0 hs
  replace hb13 := hb13.tr0 hs
  replace hBuZ := hBuZ.tr0 hs
  replace hb14 := hb14.tr0 hs
  replace hb15 := hb15.tr0 hs
  replace hFU := hFU.of hs (by simp)
  replace hb16 := hb16.tr0 hs
  replace hBuV := hBuV.tr0 hs
  replace hb18 := hb18.tr0 hs
  clear hs
  clear hr
  refine wl_stW hb18 rfl rfl sz28_GTgt rfl oneA (fun w37 hq hs => ?_)
  replace hB := hB.tr1 hs lo18
  replace hb3 := hb3.tr1 hs om
  replace hb4 := hb4.tr1 hs om
  replace hb5 := hb5.tr1 hs om
  replace hb7 := hb7.tr1 hs om
  replace hb8 := hb8.tr1 hs om
  replace hb9 := hb9.tr1 hs om
  replace hb11 := hb11.tr1 hs om
  replace hb12 := hb12.tr1 hs om
  replace hb13 := hb13.tr1 hs om
  replace hBuZ := hBuZ.tr1 hs lo_hBuZ_b18
  replace hb14 := hb14.tr1 hs om
  replace hb15 := hb15.tr1 hs om
  replace hFU := hFU.of hs (fun g hg => by rw [List.mem_singleton.1 hg]; omega)
  replace hb16 := hb16.tr1 hs om
  replace hBuV := hBuV.tr1 hs lo_hBuV_b18
  replace hb19 := hb19.tr1 hs om
  clear hs
  replace hb18 := hq
  refine wl_stW hb19 rfl rfl sz30_UAll rfl oneA (fun w38 hq hs => ?_)
  replace hB := hB.tr1 hs lo19
  replace hb3 := hb3.tr1 hs om
  replace hb4 := hb4.tr1 hs om
  replace hb5 := hb5.tr1 hs om
  replace hb7 := hb7.tr1 hs om
  replace hb8 := hb8.tr1 hs om
  replace hb9 := hb9.tr1 hs om
  replace hb11 := hb11.tr1 hs om
  replace hb12 := hb12.tr1 hs om
  replace hb13 := hb13.tr1 hs om
  replace hBuZ := hBuZ.tr1 hs lo_hBuZ_b19
  replace hb14 := hb14.tr1 hs om
  replace hb15 := hb15.tr1 hs om
  replace hFU := hFU.of hs (fun g hg => by rw [List.mem_singleton.1 hg]; omega)
  replace hb16 := hb16.tr1 hs om
  replace hBuV := hBuV.tr1 hs lo_hBuV_b19
  replace hb18 := hb18.tr1 hs om
  clear hs
  replace hb19 := hq
  refine x_nil (e_S (c_seq ?_))
  refine c_monoGO 23 [93, 94, 95, 96, 97, 98, 99, 100, 101, 102, 103, 104, 105, 106, 107, 108, 109, 110, 111, 112, 113, 114, 6] (fun _ => false) (fun ix v wv => match ix with | 0 => v = .pointer (some ⟨b15, 0, none⟩) | 1 => v = .int .i64 0 | 2 => v = .bool true | 3 => v = .bool true | 4 => v = .bool true | 5 => v = .bool true | 6 => v = .bool true | 7 => v = .agg #[.slice AU XU.length XU.length] | 8 => v = .agg #[.slice G1 ga.length c1] | 9 => ∃ AR c, v = .agg #[.slice AR (canF l fs ga).length c] ∧ NodesIn wv AR (canF l fs ga) | 10 => v = .bool true | 11 => v = .bool true | 12 => v = .bool true | 13 => v = .pointer (some ⟨b19, 0, none⟩) | 14 => v = .int .i64 0 | 15 => v = .bool true | 16 => v = .bool true | 17 => v = .bool true | 18 => v = .agg #[.slice AZ XV.length cZ] | 19 => v = .agg #[.slice AV XV.length cV] | 20 => v = .bool true | 21 => v = .bool true | 22 => v = .bool true | _ => True) kR kR ?_ ?_ ?_
  ·
   intro ix v wv wv2 h hs
   match ix, h with
   | 0, h => exact h
   | 1, h => exact h
   | 2, h => exact h
   | 3, h => exact h
   | 4, h => exact h
   | 5, h => exact h
   | 6, h => exact h
   | 7, h => exact h
   | 8, h => exact h
   | 9, h =>
    obtain ⟨AR102, cR102, e102, hNR102⟩ := (show ∃ AR c, v = .agg #[.slice AR (canF l fs ga).length c] ∧ NodesIn wv AR (canF l fs ga) from h)
    exact ⟨AR102, cR102, e102, hNR102.mono hs.bel⟩
   | 10, h => exact h
   | 11, h => exact h
   | 12, h => exact h
   | 13, h => exact h
   | 14, h => exact h
   | 15, h => exact h
   | 16, h => exact h
   | 17, h => exact h
   | 18, h => exact h
   | 19, h => exact h
   | 20, h => exact h
   | 21, h => exact h
   | 22, h => exact h
   | _ + 23, h => exact trivial
  ·
   intro ix o hix hoq gg wx hs hd hdis
   match ix, hix, hoq with
   | 0, _, hoq =>
    obtain rfl := sI hoq
    have hs0 := hs
    replace hb15 := hb15.tr0 hs
    clear hs
    refine ⟨fun _ => ?_, fun hw => Bool.noConfusion (show true = false from hw)⟩
    refine os_rv (r_fa U30 sz3_UAll dE rfl rfl rfl) ⟨Same.refl _ _, ?_, frsh_no⟩
    exact rfl
   | 1, _, hoq =>
    obtain rfl := sI hoq
    have hs0 := hs
    replace hb15 := hb15.tr0 hs
    clear hs
    have d0 : gg 93 = .pointer (some ⟨b15, 0, none⟩) := hd 0 (dep_of kR)
    have e93 := d0
    refine ⟨fun _ => ?_, fun hw => Bool.noConfusion (show true = false from hw)⟩
    refine os_know 93 (.pointer (some ⟨b15, 0, none⟩)) e93 nu ?_
    refine os_rv (r_ld1 (v := .int _ _) U3 rfl rfl (hb15.cell rfl)) ⟨Same.refl _ _, ?_, frsh_no⟩
    exact rfl
   | 2, _, hoq =>
    obtain rfl := sI hoq
    have hs0 := hs
    clear hs
    have d1 : gg 94 = .int .i64 0 := hd 1 (dep_of kR)
    have e94 := d1
    refine ⟨fun _ => ?_, fun hw => Bool.noConfusion (show true = false from hw)⟩
    refine os_know 94 (.int .i64 0) e94 nu ?_
    refine os_rv (r_eql rfl rfl) ⟨Same.refl _ _, ?_, frsh_no⟩
    exact (congrArg Value.bool (decide_eq_true rfl))
   | 3, _, hoq =>
    obtain rfl := sI hoq
    have hs0 := hs
    clear hs
    have d2 : gg 95 = .bool true := hd 2 (dep_of kR)
    have e95 := d2
    refine ⟨fun _ => ?_, fun hw => Bool.noConfusion (show true = false from hw)⟩
    refine os_know 95 (.bool true) e95 nu ?_
    refine os_rv (r_mv (v := .bool _) rfl) ⟨Same.refl _ _, ?_, frsh_no⟩
    exact rfl
   | 4, _, hoq =>
    obtain rfl := sI hoq
    have hs0 := hs
    clear hs
    have d3 : gg 96 = .bool true := hd 3 (dep_of kR)
    have e96 := d3
    refine guard_case 96 true rfl e96 (fun _ => ?_) (fun h => absurd h dE)
    refine os_know 96 (.bool true) e96 nu ?_
    refine os_rv (r_mv (v := .bool _) rfl) ⟨Same.refl _ _, ?_, frsh_no⟩
    exact rfl
   | 5, _, hoq =>
    obtain rfl := sI hoq
    have hs0 := hs
    clear hs
    have d3 : gg 96 = .bool true := hd 3 (dep_of kR)
    have e96 := d3
    have d4 : gg 97 = .bool true := hd 4 (dep_of kR)
    have e97 := d4
    refine ⟨fun _ => ?_, fun hw => Bool.noConfusion (show true = false from hw)⟩
    refine os_know 96 (.bool true) e96 nu (os_know 97 (.bool true) e97 nu ?_)
    refine os_rv (r_pt (v := .bool _) rfl rfl) ⟨Same.refl _ _, ?_, frsh_no⟩
    exact rfl
   | 6, _, hoq =>
    obtain rfl := sI hoq
    have hs0 := hs
    clear hs
    have d5 : gg 98 = .bool true := hd 5 (dep_of kR)
    have e98 := d5
    refine ⟨fun _ => ?_, fun hw => Bool.noConfusion (show true = false from hw)⟩
    refine os_know 98 (.bool true) e98 nu ?_
    refine os_rv (r_mv (v := .bool _) rfl) ⟨Same.refl _ _, ?_, frsh_no⟩
    exact rfl
   | 7, _, hoq =>
    obtain rfl := sI hoq
    have hs0 := hs
    replace hb16 := hb16.tr0 hs
    clear hs
    have d6 : gg 99 = .bool true := hd 6 (dep_of kR)
    have e99 := d6
    refine guard_case 99 true rfl e99 (fun _ => ?_) (fun h => absurd h dE)
    refine os_know 99 (.bool true) e99 nu ?_
    refine os_rv (r_ldS U28 rfl rfl hb16.range0 sz28_GTgt) ⟨Same.refl _ _, ?_, frsh_no⟩
    exact rfl
   | 8, _, hoq =>
    obtain rfl := sI hoq
    have hs0 := hs
    replace hb4 := hb4.tr0 hs
    clear hs
    have d6 : gg 99 = .bool true := hd 6 (dep_of kR)
    have e99 := d6
    refine guard_case 99 true rfl e99 (fun _ => ?_) (fun h => absurd h dE)
    refine os_know 99 (.bool true) e99 nu ?_
    refine os_rv (r_ldS U28 rfl rfl hb4.range0 sz28_GTgt) ⟨Same.refl _ _, ?_, frsh_no⟩
    exact rfl
   | 9, _, hoq =>
    obtain rfl := sI hoq
    have hs0 := hs
    replace hB := hB.tr0 hs
    clear hs
    have d6 : gg 99 = .bool true := hd 6 (dep_of kR)
    have e99 := d6
    have d8 : gg 101 = .agg #[.slice G1 ga.length c1] := hd 8 (dep_of kR)
    have e101 := d8
    refine guard_case 99 true rfl e99 (fun _ => ?_) (fun h => absurd h dE)
    refine os_know 99 (.bool true) e99 nu (os_know 101 (.agg #[.slice G1 ga.length c1]) e101 nu ?_)
    refine os_cl fn19_UGen (rcan_any G1 _ c1 l fs ga wx (hG1.mono hB) rfl hga0) rfl (fun e' w2 hr => ?_)
    obtain ⟨⟨AR, cR, rfl, hNR⟩, hs⟩ := hr
    exact ⟨_, rfl, Same.of_bel hs, ⟨_, _, rfl, hNR _ (FrSame.refl _ _)⟩, frsh_no⟩
   | 10, _, hoq =>
    obtain rfl := sI hoq
    have hs0 := hs
    replace hFU := hFU.of hs (by simp)
    clear hs
    have d6 : gg 99 = .bool true := hd 6 (dep_of kR)
    have e99 := d6
    have d7 : gg 100 = .agg #[.slice AU XU.length XU.length] := hd 7 (dep_of kR)
    have e100 := d7
    have d9 : ∃ AR c, gg 102 = .agg #[.slice AR (canF l fs ga).length c] ∧ NodesIn wx AR (canF l fs ga) := hd 9 (dep_of kR)
    obtain ⟨AR102, cR102, e102, hNR102⟩ := d9
    refine guard_case 99 true rfl e99 (fun _ => ?_) (fun h => absurd h dE)
    refine os_know 99 (.bool true) e99 nu (os_know 100 (.agg #[.slice AU XU.length XU.length]) e100 nu (os_know 102 (.agg #[.slice AR102 (canF l fs ga).length cR102]) e102 nu ?_))
    refine os_cl fn13_UOrd (nodesb_any AU AR102 _ _ _ cR102 _ _ true wx (hNU _ hFU) hNR102 rfl rfl hdU) rfl (fun e' w2 hr => ?_)
    obtain ⟨rfl, hs⟩ := hr
    exact ⟨_, rfl, Same.of_bel hs, rfl, frsh_no⟩
   | 11, _, hoq =>
    obtain rfl := sI hoq
    have hs0 := hs
    clear hs
    have d6 : gg 99 = .bool true := hd 6 (dep_of kR)
    have e99 := d6
    have d10 : gg 103 = .bool true := hd 10 (dep_of kR)
    have e103 := d10
    refine ⟨fun _ => ?_, fun hw => Bool.noConfusion (show true = false from hw)⟩
    refine os_know 99 (.bool true) e99 nu (os_know 103 (.bool true) e103 nu ?_)
    refine os_rv (r_pt (v := .bool _) rfl rfl) ⟨Same.refl _ _, ?_, frsh_no⟩
    exact rfl
   | 12, _, hoq =>
    obtain rfl := sI hoq
    have hs0 := hs
    clear hs
    have d11 : gg 104 = .bool true := hd 11 (dep_of kR)
    have e104 := d11
    refine ⟨fun _ => ?_, fun hw => Bool.noConfusion (show true = false from hw)⟩
    refine os_know 104 (.bool true) e104 nu ?_
    refine os_rv (r_mv (v := .bool _) rfl) ⟨Same.refl _ _, ?_, frsh_no⟩
    exact rfl
   | 13, _, hoq =>
    obtain rfl := sI hoq
    have hs0 := hs
    replace hb19 := hb19.tr0 hs
    clear hs
    have d12 : gg 105 = .bool true := hd 12 (dep_of kR)
    have e105 := d12
    refine guard_case 105 true rfl e105 (fun _ => ?_) (fun h => absurd h dE)
    refine os_know 105 (.bool true) e105 nu ?_
    refine os_rv (r_fa U30 sz3_UAll dE rfl rfl rfl) ⟨Same.refl _ _, ?_, frsh_no⟩
    exact rfl
   | 14, _, hoq =>
    obtain rfl := sI hoq
    have hs0 := hs
    replace hb19 := hb19.tr0 hs
    clear hs
    have d12 : gg 105 = .bool true := hd 12 (dep_of kR)
    have e105 := d12
    have d13 : gg 106 = .pointer (some ⟨b19, 0, none⟩) := hd 13 (dep_of kR)
    have e106 := d13
    refine guard_case 105 true rfl e105 (fun _ => ?_) (fun h => absurd h dE)
    refine os_know 105 (.bool true) e105 nu (os_know 106 (.pointer (some ⟨b19, 0, none⟩)) e106 nu ?_)
    refine os_rv (r_ld1 (v := .int _ _) U3 rfl rfl (hb19.cell rfl)) ⟨Same.refl _ _, ?_, frsh_no⟩
    exact rfl
   | 15, _, hoq =>
    obtain rfl := sI hoq
    have hs0 := hs
    clear hs
    have d12 : gg 105 = .bool true := hd 12 (dep_of kR)
    have e105 := d12
    have d14 : gg 107 = .int .i64 0 := hd 14 (dep_of kR)
    have e107 := d14
    refine guard_case 105 true rfl e105 (fun _ => ?_) (fun h => absurd h dE)
    refine os_know 105 (.bool true) e105 nu (os_know 107 (.int .i64 0) e107 nu ?_)
    refine os_rv (r_eql rfl rfl) ⟨Same.refl _ _, ?_, frsh_no⟩
    exact (congrArg Value.bool (decide_eq_true rfl))
   | 16, _, hoq =>
    obtain rfl := sI hoq
    have hs0 := hs
    clear hs
    have d12 : gg 105 = .bool true := hd 12 (dep_of kR)
    have e105 := d12
    have d15 : gg 108 = .bool true := hd 15 (dep_of kR)
    have e108 := d15
    refine ⟨fun _ => ?_, fun hw => Bool.noConfusion (show true = false from hw)⟩
    refine os_know 105 (.bool true) e105 nu (os_know 108 (.bool true) e108 nu ?_)
    refine os_rv (r_pt (v := .bool _) rfl rfl) ⟨Same.refl _ _, ?_, frsh_no⟩
    exact rfl
   | 17, _, hoq =>
    obtain rfl := sI hoq
    have hs0 := hs
    clear hs
    have d16 : gg 109 = .bool true := hd 16 (dep_of kR)
    have e109 := d16
    refine ⟨fun _ => ?_, fun hw => Bool.noConfusion (show true = false from hw)⟩
    refine os_know 109 (.bool true) e109 nu ?_
    refine os_rv (r_mv (v := .bool _) rfl) ⟨Same.refl _ _, ?_, frsh_no⟩
    exact rfl
   | 18, _, hoq =>
    obtain rfl := sI hoq
    have hs0 := hs
    replace hb14 := hb14.tr0 hs
    clear hs
    have d17 : gg 110 = .bool true := hd 17 (dep_of kR)
    have e110 := d17
    refine guard_case 110 true rfl e110 (fun _ => ?_) (fun h => absurd h dE)
    refine os_know 110 (.bool true) e110 nu ?_
    refine os_rv (r_ldS U28 rfl rfl hb14.range0 sz28_GTgt) ⟨Same.refl _ _, ?_, frsh_no⟩
    exact rfl
   | 19, _, hoq =>
    obtain rfl := sI hoq
    have hs0 := hs
    replace hb18 := hb18.tr0 hs
    clear hs
    have d17 : gg 110 = .bool true := hd 17 (dep_of kR)
    have e110 := d17
    refine guard_case 110 true rfl e110 (fun _ => ?_) (fun h => absurd h dE)
    refine os_know 110 (.bool true) e110 nu ?_
    refine os_rv (r_ldS U28 rfl rfl hb18.range0 sz28_GTgt) ⟨Same.refl _ _, ?_, frsh_no⟩
    exact rfl
   | 20, _, hoq =>
    obtain rfl := sI hoq
    have hs0 := hs
    replace hBuZ := hBuZ.tr0 hs
    replace hBuV := hBuV.tr0 hs
    clear hs
    have d17 : gg 110 = .bool true := hd 17 (dep_of kR)
    have e110 := d17
    have d18 : gg 111 = .agg #[.slice AZ XV.length cZ] := hd 18 (dep_of kR)
    have e111 := d18
    have d19 : gg 112 = .agg #[.slice AV XV.length cV] := hd 19 (dep_of kR)
    have e112 := d19
    refine guard_case 110 true rfl e110 (fun _ => ?_) (fun h => absurd h dE)
    refine os_know 110 (.bool true) e110 nu (os_know 111 (.agg #[.slice AZ XV.length cZ]) e111 nu (os_know 112 (.agg #[.slice AV XV.length cV]) e112 nu ?_))
    refine os_cl fn13_UOrd (nodesb_any AZ AV _ _ _ _ XV XV true wx (hNZ.mono hBuZ) (hNV.mono hBuV) rfl rfl (decide_eq_true rfl)) rfl (fun e' w2 hr => ?_)
    obtain ⟨rfl, hs⟩ := hr
    exact ⟨_, rfl, Same.of_bel hs, rfl, frsh_no⟩
   | 21, _, hoq =>
    obtain rfl := sI hoq
    have hs0 := hs
    clear hs
    have d17 : gg 110 = .bool true := hd 17 (dep_of kR)
    have e110 := d17
    have d20 : gg 113 = .bool true := hd 20 (dep_of kR)
    have e113 := d20
    refine ⟨fun _ => ?_, fun hw => Bool.noConfusion (show true = false from hw)⟩
    refine os_know 110 (.bool true) e110 nu (os_know 113 (.bool true) e113 nu ?_)
    refine os_rv (r_pt (v := .bool _) rfl rfl) ⟨Same.refl _ _, ?_, frsh_no⟩
    exact rfl
   | 22, _, hoq =>
    obtain rfl := sI hoq
    have hs0 := hs
    clear hs
    have d21 : gg 114 = .bool true := hd 21 (dep_of kR)
    have e114 := d21
    refine ⟨fun _ => ?_, fun hw => Bool.noConfusion (show true = false from hw)⟩
    refine os_know 114 (.bool true) e114 nu ?_
    refine os_rv (r_as (v := .bool _) rfl) ⟨Same.refl _ _, ?_, frsh_no⟩
    exact rfl
   | _ + 23, hix, _ => exact absurd hix om
  intro gg w39 hs hR hdis
  have hs0 := hs
  replace hB := hB.tr0 hs
  replace hb3 := hb3.tr0 hs
  replace hb4 := hb4.tr0 hs
  replace hb5 := hb5.tr0 hs
  replace hb7 := hb7.tr0 hs
  replace hb8 := hb8.tr0 hs
  replace hb9 := hb9.tr0 hs
  replace hb11 := hb11.tr0 hs
  replace hb12 := hb12.tr0 hs
  replace hb13 := hb13.tr0 hs
  replace hBuZ := hBuZ.tr0 hs
  replace hb14 := hb14.tr0 hs
  replace hb15 := hb15.tr0 hs
  replace hFU := hFU.of hs (by simp)
  replace hb16 := hb16.tr0 hs
  replace hBuV := hBuV.tr0 hs
  replace hb18 := hb18.tr0 hs
  replace hb19 := hb19.tr0 hs
  clear hs
  have d22 : gg 6 = .bool true := hR 22 dE
  have e6 := d22
  refine wl_know 6 (.bool true) e6 nu (x_nil (e_S (c_ret (fin1 (.inl rfl) rfl rfl ?_))))
  exact ⟨rfl, hB⟩
 refine c_skip (e_S (c_seq (c_region (wl (r_ldS U25 rfl rfl hb3.range0 sz25_GenZ) (wl (r_ldS U28 rfl rfl hb4.range0 sz28_GTgt) ?_)))))
 refine wl (r_ldS U28 rfl rfl hb5.range0 sz28_GTgt) ?_
 refine wl_cl fn20 (gen_any A B G1 G2 c d c1 c2 l fs ga gb _ (hTab.mono hB) (hT.mono hB) (hF.mono hB) (hG1.mono hB) (hG2.mono hB)) rfl (fun e' w40 hr => ?_)
 obtain ⟨⟨AZ, XZ, cZ, fZ, rfl, hNZ, hSZ⟩, hs⟩ := hr
 replace hs := Same.of_bel hs
 replace hB := hB.tr0 hs
 replace hb3 := hb3.tr0 hs
 replace hb4 := hb4.tr0 hs
 replace hb5 := hb5.tr0 hs
 replace hb7 := hb7.tr0 hs
 replace hb8 := hb8.tr0 hs
 replace hBuX := hBuX.tr0 hs
 replace hb9 := hb9.tr0 hs
 replace hb11 := hb11.tr0 hs
 clear hs
 replace hNZ := hNZ w40 (FrSame.refl _ _)
 have hBuZ : Bel w40 w40 := Below.refl _ _
 refine ⟨_, rfl, ?_⟩
 refine wmT rfl (wl (r_ex (v := _) rfl rfl) (wl (r_ex (v := _) rfl rfl) ?_))
 refine wl_al (cs := #[.slice none 0 0]) ze28 rfl (fun b14 w41 hb14 hs hr => ?_)
 have or_b3_b14 : b3 < b14 := nLL hb3.lt hr
 have or_b4_b14 : b4 < b14 := nLL hb4.lt hr
 have or_b5_b14 : b5 < b14 := nLL hb5.lt hr
 have or_b7_b14 : b7 < b14 := nLL hb7.lt hr
 have or_b8_b14 : b8 < b14 := nLL hb8.lt hr
 have or_b9_b14 : b9 < b14 := nLL hb9.lt hr
 have or_b11_b14 : b11 < b14 := nLL hb11.lt hr
 have lo14 := nLT (Bel.size hB) hr
 have lo_hBuX_b14 := nLT (Bel.size hBuX) hr
 have lo_hBuZ_b14 := nLT (Bel.size hBuZ) hr
 replace hB := hB.tr0 hs
 replace hb3 := hb3.tr0 hs
 replace hb4 := hb4.tr0 hs
 replace hb5 := hb5.tr0 hs
 replace hb7 := hb7.tr0 hs
 replace hb8 := hb8.tr0 hs
 replace hBuX := hBuX.tr0 hs
 replace hb9 := hb9.tr0 hs
 replace hb11 := hb11.tr0 hs
 replace hBuZ := hBuZ.tr0 hs
 clear hs
 clear hr
 refine wl_al (cs := #[.int .i64 0, .int .i64 0]) ze30_UAll rfl (fun b15 w42 hb15 hs hr => ?_)
 have or_b3_b15 : b3 < b15 := nLL hb3.lt hr
 have or_b4_b15 : b4 < b15 := nLL hb4.lt hr
 have or_b5_b15 : b5 < b15 := nLL hb5.lt hr
 have or_b7_b15 : b7 < b15 := nLL hb7.lt hr
 have or_b8_b15 : b8 < b15 := nLL hb8.lt hr
 have or_b9_b15 : b9 < b15 := nLL hb9.lt hr
 have or_b11_b15 : b11 < b15 := nLL hb11.lt hr
 have or_b14_b15 : b14 < b15 := nLL hb14.lt hr
 have lo15 := nLT (Bel.size hB) hr
 have lo_hBuX_b15 := nLT (Bel.size hBuX) hr
 have lo_hBuZ_b15 := nLT (Bel.size hBuZ) hr
 replace hB := hB.tr0 hs
 replace hb3 := hb3.tr0 hs
 replace hb4 := hb4.tr0 hs
 replace hb5 := hb5.tr0 hs
 replace hb7 := hb7.tr0 hs
 replace hb8 := hb8.tr0 hs
 replace hBuX := hBuX.tr0 hs
 replace hb9 := hb9.tr0 hs
 replace hb11 := hb11.tr0 hs
 replace hBuZ := hBuZ.tr0 hs
 replace hb14 := hb14.tr0 hs
 clear hs
 clear hr
 refine wl_stW hb14 rfl rfl sz28_GTgt rfl oneA (fun w43 hq hs => ?_)
 replace hB := hB.tr1 hs lo14
 replace hb3 := hb3.tr1 hs om
 replace hb4 := hb4.tr1 hs om
 replace hb5 := hb5.tr1 hs om
 replace hb7 := hb7.tr1 hs om
 replace hb8 := hb8.tr1 hs om
 replace hBuX := hBuX.tr1 hs lo_hBuX_b14
 replace hb9 := hb9.tr1 hs om
 replace hb11 := hb11.tr1 hs om
 replace hBuZ := hBuZ.tr1 hs lo_hBuZ_b14
 replace hb15 := hb15.tr1 hs om
 clear hs
 replace hb14 := hq
 refine wl_stW hb15 rfl rfl sz30_UAll rfl oneA (fun w44 hq hs => ?_)
 replace hB := hB.tr1 hs lo15
 replace hb3 := hb3.tr1 hs om
 replace hb4 := hb4.tr1 hs om
 replace hb5 := hb5.tr1 hs om
 replace hb7 := hb7.tr1 hs om
 replace hb8 := hb8.tr1 hs om
 replace hBuX := hBuX.tr1 hs lo_hBuX_b15
 replace hb9 := hb9.tr1 hs om
 replace hb11 := hb11.tr1 hs om
 replace hBuZ := hBuZ.tr1 hs lo_hBuZ_b15
 replace hb14 := hb14.tr1 hs om
 clear hs
 replace hb15 := hq
 refine x_nil (e_S (c_seq (c_seq (c_region (wl (r_fa U30 sz3_UAll dE rfl rfl rfl) ?_)))))
 refine wl (r_ld1 (v := .int _ _) U3 rfl rfl (hb15.cell rfl)) (wl (r_neq rfl rfl) (x_nil (e_S ?_)))
 refine c_ifd rfl (fun c77 => ?_) (fun c77 => ?_)
 ·
  refine c_seq (c_region (waB rfl (x_nil (e_S (c_ret ?_)))))
  refine e_Sr (fin1 (.inl rfl) rfl rfl ?_)
  exact ⟨rfl, hB⟩
 have hfZ := Decidable.not_not.1 c77
 obtain ⟨efZ, hXZ0, hmZ, _⟩ := gen_says hga0 hgb0 hSZ hfZ
 refine c_skip (e_S (c_seq (c_region (wl (r_ldS U25 rfl rfl hb3.range0 sz25_GenZ) (wl (r_ldS U28 rfl rfl hb4.range0 sz28_GTgt) ?_)))))
 refine wl (r_ldS U28 rfl rfl hb14.range0 sz28_GTgt) ?_
 have z15 := hb15.lt
 refine wl_cl fn16_UOrd (unify_any A B G1 AZ c d c1 cZ l fs ga XZ _ (hTab.mono hB) (hT.mono hB) (hF.mono hB) (hG1.mono hB) (hNZ.mono hBuZ)) rfl (fun e' w45 hr => ?_)
 obtain ⟨⟨AU, XU, okU, fU, rfl, hNU, hUU⟩, hs⟩ := hr
 replace hs := Same.of_bel hs
 replace hB := hB.tr0 hs
 replace hb3 := hb3.tr0 hs
 replace hb4 := hb4.tr0 hs
 replace hb5 := hb5.tr0 hs
 replace hb7 := hb7.tr0 hs
 replace hb8 := hb8.tr0 hs
 replace hBuX := hBuX.tr0 hs
 replace hb9 := hb9.tr0 hs
 replace hb11 := hb11.tr0 hs
 replace hBuZ := hBuZ.tr0 hs
 replace hb14 := hb14.tr0 hs
 replace hb15 := hb15.tr0 hs
 clear hs
 obtain ⟨ZU, hZU⟩ : ∃ z, z = (w44).heap.size := ⟨_, rfl⟩
 rw [← hZU] at hNU z15
 obtain ⟨wU, hwU⟩ : ∃ z, z = w45 := ⟨_, rfl⟩
 have hFU : FrSame ZU wU w45 := by rw [hwU]; exact FrSame.refl _ _
 rw [← hwU] at hNU
 obtain ⟨eoU, efU, eXU⟩ := uni_abs hga0 hXZ0 hmZ.1 hUU hoa
 subst eoU
 subst efU
 have hdU := decide_eq_true (eXU.trans hcan.symm)
 refine ⟨_, rfl, ?_⟩
 refine wmT rfl (wl (r_ex (v := _) rfl rfl) (wl (r_ex (v := _) rfl rfl) (wl (r_ex (v := _) rfl rfl) ?_)))
 refine wl_al (cs := #[.slice none 0 0]) ze28 rfl (fun b16 w46 hb16 hs hr => ?_)
 have or_b3_b16 : b3 < b16 := nLL hb3.lt hr
 have or_b4_b16 : b4 < b16 := nLL hb4.lt hr
 have or_b5_b16 : b5 < b16 := nLL hb5.lt hr
 have or_b7_b16 : b7 < b16 := nLL hb7.lt hr
 have or_b8_b16 : b8 < b16 := nLL hb8.lt hr
 have or_b9_b16 : b9 < b16 := nLL hb9.lt hr
 have or_b11_b16 : b11 < b16 := nLL hb11.lt hr
 have or_b14_b16 : b14 < b16 := nLL hb14.lt hr
 have or_b15_b16 : b15 < b16 := nLL hb15.lt hr
 have or_hFU_b16 := (nLT hFU.size hr)
 have lo16 := nLT (Bel.size hB) hr
 have lo_hBuX_b16 := nLT (Bel.size hBuX) hr
 have lo_hBuZ_b16 := nLT (Bel.size hBuZ) hr
 replace hB := hB.tr0 hs
 replace hb3 := hb3.tr0 hs
 replace hb4 := hb4.tr0 hs
 replace hb5 := hb5.tr0 hs
 replace hb7 := hb7.tr0 hs
 replace hb8 := hb8.tr0 hs
 replace hBuX := hBuX.tr0 hs
 replace hb9 := hb9.tr0 hs
 replace hb11 := hb11.tr0 hs
 replace hBuZ := hBuZ.tr0 hs
 replace hb14 := hb14.tr0 hs
 replace hb15 := hb15.tr0 hs
 replace hFU := hFU.of hs (by simp)
 clear hs
 clear hr
 refine wl_stW hb16 rfl rfl sz28_GTgt rfl oneA (fun w47 hq hs => ?_)
 replace hB := hB.tr1 hs lo16
 replace hb3 := hb3.tr1 hs om
 replace hb4 := hb4.tr1 hs om
 replace hb5 := hb5.tr1 hs om
 replace hb7 := hb7.tr1 hs om
 replace hb8 := hb8.tr1 hs om
 replace hBuX := hBuX.tr1 hs lo_hBuX_b16
 replace hb9 := hb9.tr1 hs om
 replace hb11 := hb11.tr1 hs om
 replace hBuZ := hBuZ.tr1 hs lo_hBuZ_b16
 replace hb14 := hb14.tr1 hs om
 replace hb15 := hb15.tr1 hs om
 replace hFU := hFU.of hs (fun g hg => by rw [List.mem_singleton.1 hg]; omega)
 clear hs
 replace hb16 := hq
 refine waB rfl ?_
 refine wl_stW hb15 rfl rfl sz30_UAll rfl oneA (fun w48 hq hs => ?_)
 replace hB := hB.tr1 hs lo15
 replace hb3 := hb3.tr1 hs om
 replace hb4 := hb4.tr1 hs om
 replace hb5 := hb5.tr1 hs om
 replace hb7 := hb7.tr1 hs om
 replace hb8 := hb8.tr1 hs om
 replace hBuX := hBuX.tr1 hs lo_hBuX_b15
 replace hb9 := hb9.tr1 hs om
 replace hb11 := hb11.tr1 hs om
 replace hBuZ := hBuZ.tr1 hs lo_hBuZ_b15
 replace hb14 := hb14.tr1 hs om
 replace hFU := hFU.of hs (fun g hg => by rw [List.mem_singleton.1 hg]; omega)
 replace hb16 := hb16.tr1 hs om
 clear hs
 replace hb15 := hq
 refine x_nil (e_S (c_seq (c_region (wl (r_ldS U25 rfl rfl hb3.range0 sz25_GenZ) (wl (r_ldS U28 rfl rfl hb5.range0 sz28_GTgt) ?_)))))
 refine wl (r_ldS U28 rfl rfl hb4.range0 sz28_GTgt) ?_
 refine wl_cl fn20 (gen_any A B G2 G1 c d c2 c1 l fs gb ga _ (hTab.mono hB) (hT.mono hB) (hF.mono hB) (hG2.mono hB) (hG1.mono hB)) rfl (fun e' w49 hr => ?_)
 obtain ⟨⟨AV, XV, cV, fV, rfl, hNV, hSV⟩, hs⟩ := hr
 replace hs := Same.of_bel hs
 replace hB := hB.tr0 hs
 replace hb3 := hb3.tr0 hs
 replace hb4 := hb4.tr0 hs
 replace hb5 := hb5.tr0 hs
 replace hb7 := hb7.tr0 hs
 replace hb8 := hb8.tr0 hs
 replace hBuX := hBuX.tr0 hs
 replace hb9 := hb9.tr0 hs
 replace hb11 := hb11.tr0 hs
 replace hBuZ := hBuZ.tr0 hs
 replace hb14 := hb14.tr0 hs
 replace hb15 := hb15.tr0 hs
 replace hFU := hFU.of hs (by simp)
 replace hb16 := hb16.tr0 hs
 clear hs
 replace hNV := hNV w49 (FrSame.refl _ _)
 have hBuV : Bel w49 w49 := Below.refl _ _
 obtain ⟨efV, eXV⟩ := gen_swap hga0 hgb0 hSZ hfZ hSV
 subst efV
 subst eXV
 refine ⟨_, rfl, ?_⟩
 refine wmT rfl (wl (r_ex (v := _) rfl rfl) (wl (r_ex (v := _) rfl rfl) ?_))
 refine wl_al (cs := #[.slice none 0 0]) ze28 rfl (fun b18 w50 hb18 hs hr => ?_)
 have or_b3_b18 : b3 < b18 := nLL hb3.lt hr
 have or_b4_b18 : b4 < b18 := nLL hb4.lt hr
 have or_b5_b18 : b5 < b18 := nLL hb5.lt hr
 have or_b7_b18 : b7 < b18 := nLL hb7.lt hr
 have or_b8_b18 : b8 < b18 := nLL hb8.lt hr
 have or_b9_b18 : b9 < b18 := nLL hb9.lt hr
 have or_b11_b18 : b11 < b18 := nLL hb11.lt hr
 have or_b14_b18 : b14 < b18 := nLL hb14.lt hr
 have or_b15_b18 : b15 < b18 := nLL hb15.lt hr
 have or_hFU_b18 := (nLT hFU.size hr)
 have or_b16_b18 : b16 < b18 := nLL hb16.lt hr
 have lo18 := nLT (Bel.size hB) hr
 have lo_hBuX_b18 := nLT (Bel.size hBuX) hr
 have lo_hBuZ_b18 := nLT (Bel.size hBuZ) hr
 have lo_hBuV_b18 := nLT (Bel.size hBuV) hr
 replace hB := hB.tr0 hs
 replace hb3 := hb3.tr0 hs
 replace hb4 := hb4.tr0 hs
 replace hb5 := hb5.tr0 hs
 replace hb7 := hb7.tr0 hs
 replace hb8 := hb8.tr0 hs
 replace hBuX := hBuX.tr0 hs
 replace hb9 := hb9.tr0 hs
 replace hb11 := hb11.tr0 hs
 replace hBuZ := hBuZ.tr0 hs
 replace hb14 := hb14.tr0 hs
 replace hb15 := hb15.tr0 hs
 replace hFU := hFU.of hs (by simp)
 replace hb16 := hb16.tr0 hs
 replace hBuV := hBuV.tr0 hs
 clear hs
 clear hr
 refine wl_al (cs := #[.int .i64 0, .int .i64 0]) ze30_UAll rfl (fun b19 w51 hb19 hs hr => ?_)
 have or_b3_b19 : b3 < b19 := nLL hb3.lt hr
 have or_b4_b19 : b4 < b19 := nLL hb4.lt hr
 have or_b5_b19 : b5 < b19 := nLL hb5.lt hr
 have or_b7_b19 : b7 < b19 := nLL hb7.lt hr
 have or_b8_b19 : b8 < b19 := nLL hb8.lt hr
 have or_b9_b19 : b9 < b19 := nLL hb9.lt hr
 have or_b11_b19 : b11 < b19 := nLL hb11.lt hr
 have or_b14_b19 : b14 < b19 := nLL hb14.lt hr
 have or_b15_b19 : b15 < b19 := nLL hb15.lt hr
 have or_hFU_b19 := (nLT hFU.size hr)
 have or_b16_b19 : b16 < b19 := nLL hb16.lt hr
 have or_b18_b19 : b18 < b19 := nLL hb18.lt hr
 have lo19 := nLT (Bel.size hB) hr
 have lo_hBuX_b19 := nLT (Bel.size hBuX) hr
 have lo_hBuZ_b19 := nLT (Bel.size hBuZ) hr
 have lo_hBuV_b19 := nLT (Bel.size hBuV) hr
 replace hB := hB.tr0 hs
 replace hb3 := hb3.tr0 hs
 replace hb4 := hb4.tr0 hs
 replace hb5 := hb5.tr0 hs
 replace hb7 := hb7.tr0 hs
 replace hb8 := hb8.tr0 hs
 replace hBuX := hBuX.tr0 hs
 replace hb9 := hb9.tr0 hs
 replace hb11 := hb11.tr0 hs
 replace hBuZ := hBuZ.tr0 hs
 replace hb14 := hb14.tr0 hs
 replace hb15 := hb15.tr0 hs
 replace hFU := hFU.of hs (by simp)
 replace hb16 := hb16.tr0 hs
 replace hBuV := hBuV.tr0 hs
 replace hb18 := hb18.tr0 hs
 clear hs
 clear hr
 refine wl_stW hb18 rfl rfl sz28_GTgt rfl oneA (fun w52 hq hs => ?_)
 replace hB := hB.tr1 hs lo18
 replace hb3 := hb3.tr1 hs om
 replace hb4 := hb4.tr1 hs om
 replace hb5 := hb5.tr1 hs om
 replace hb7 := hb7.tr1 hs om
 replace hb8 := hb8.tr1 hs om
 replace hBuX := hBuX.tr1 hs lo_hBuX_b18
 replace hb9 := hb9.tr1 hs om
 replace hb11 := hb11.tr1 hs om
 replace hBuZ := hBuZ.tr1 hs lo_hBuZ_b18
 replace hb14 := hb14.tr1 hs om
 replace hb15 := hb15.tr1 hs om
 replace hFU := hFU.of hs (fun g hg => by rw [List.mem_singleton.1 hg]; omega)
 replace hb16 := hb16.tr1 hs om
 replace hBuV := hBuV.tr1 hs lo_hBuV_b18
 replace hb19 := hb19.tr1 hs om
 clear hs
 replace hb18 := hq
 refine wl_stW hb19 rfl rfl sz30_UAll rfl oneA (fun w53 hq hs => ?_)
 replace hB := hB.tr1 hs lo19
 replace hb3 := hb3.tr1 hs om
 replace hb4 := hb4.tr1 hs om
 replace hb5 := hb5.tr1 hs om
 replace hb7 := hb7.tr1 hs om
 replace hb8 := hb8.tr1 hs om
 replace hBuX := hBuX.tr1 hs lo_hBuX_b19
 replace hb9 := hb9.tr1 hs om
 replace hb11 := hb11.tr1 hs om
 replace hBuZ := hBuZ.tr1 hs lo_hBuZ_b19
 replace hb14 := hb14.tr1 hs om
 replace hb15 := hb15.tr1 hs om
 replace hFU := hFU.of hs (fun g hg => by rw [List.mem_singleton.1 hg]; omega)
 replace hb16 := hb16.tr1 hs om
 replace hBuV := hBuV.tr1 hs lo_hBuV_b19
 replace hb18 := hb18.tr1 hs om
 clear hs
 replace hb19 := hq
 refine x_nil (e_S (c_seq ?_))
 refine c_monoGO 23 [93, 94, 95, 96, 97, 98, 99, 100, 101, 102, 103, 104, 105, 106, 107, 108, 109, 110, 111, 112, 113, 114, 6] (fun _ => false) (fun ix v wv => match ix with | 0 => v = .pointer (some ⟨b15, 0, none⟩) | 1 => v = .int .i64 0 | 2 => v = .bool true | 3 => v = .bool true | 4 => v = .bool true | 5 => v = .bool true | 6 => v = .bool true | 7 => v = .agg #[.slice AU XU.length XU.length] | 8 => v = .agg #[.slice G1 ga.length c1] | 9 => ∃ AR c, v = .agg #[.slice AR (canF l fs ga).length c] ∧ NodesIn wv AR (canF l fs ga) | 10 => v = .bool true | 11 => v = .bool true | 12 => v = .bool true | 13 => v = .pointer (some ⟨b19, 0, none⟩) | 14 => v = .int .i64 0 | 15 => v = .bool true | 16 => v = .bool true | 17 => v = .bool true | 18 => v = .agg #[.slice AZ XV.length cZ] | 19 => v = .agg #[.slice AV XV.length cV] | 20 => v = .bool true | 21 => v = .bool true | 22 => v = .bool true | _ => True) kR kR ?_ ?_ ?_
 ·
  intro ix v wv wv2 h hs
  match ix, h with
  | 0, h => exact h
  | 1, h => exact h
  | 2, h => exact h
  | 3, h => exact h
  | 4, h => exact h
  | 5, h => exact h
  | 6, h => exact h
  | 7, h => exact h
  | 8, h => exact h
  | 9, h =>
   obtain ⟨AR102, cR102, e102, hNR102⟩ := (show ∃ AR c, v = .agg #[.slice AR (canF l fs ga).length c] ∧ NodesIn wv AR (canF l fs ga) from h)
   exact ⟨AR102, cR102, e102, hNR102.mono hs.bel⟩
  | 10, h => exact h
  | 11, h => exact h
  | 12, h => exact h
  | 13, h => exact h
  | 14, h => exact h
  | 15, h => exact h
  | 16, h => exact h
  | 17, h => exact h
  | 18, h => exact h
  | 19, h => exact h
  | 20, h => exact h
  | 21, h => exact h
  | 22, h => exact h
  | _ + 23, h => exact trivial
 ·
  intro ix o hix hoq gg wx hs hd hdis
  match ix, hix, hoq with
  | 0, _, hoq =>
   obtain rfl := sI hoq
   have hs0 := hs
   replace hb15 := hb15.tr0 hs
   clear hs
   refine ⟨fun _ => ?_, fun hw => Bool.noConfusion (show true = false from hw)⟩
   refine os_rv (r_fa U30 sz3_UAll dE rfl rfl rfl) ⟨Same.refl _ _, ?_, frsh_no⟩
   exact rfl
  | 1, _, hoq =>
   obtain rfl := sI hoq
   have hs0 := hs
   replace hb15 := hb15.tr0 hs
   clear hs
   have d0 : gg 93 = .pointer (some ⟨b15, 0, none⟩) := hd 0 (dep_of kR)
   have e93 := d0
   refine ⟨fun _ => ?_, fun hw => Bool.noConfusion (show true = false from hw)⟩
   refine os_know 93 (.pointer (some ⟨b15, 0, none⟩)) e93 nu ?_
   refine os_rv (r_ld1 (v := .int _ _) U3 rfl rfl (hb15.cell rfl)) ⟨Same.refl _ _, ?_, frsh_no⟩
   exact rfl
  | 2, _, hoq =>
   obtain rfl := sI hoq
   have hs0 := hs
   clear hs
   have d1 : gg 94 = .int .i64 0 := hd 1 (dep_of kR)
   have e94 := d1
   refine ⟨fun _ => ?_, fun hw => Bool.noConfusion (show true = false from hw)⟩
   refine os_know 94 (.int .i64 0) e94 nu ?_
   refine os_rv (r_eql rfl rfl) ⟨Same.refl _ _, ?_, frsh_no⟩
   exact (congrArg Value.bool (decide_eq_true rfl))
  | 3, _, hoq =>
   obtain rfl := sI hoq
   have hs0 := hs
   clear hs
   have d2 : gg 95 = .bool true := hd 2 (dep_of kR)
   have e95 := d2
   refine ⟨fun _ => ?_, fun hw => Bool.noConfusion (show true = false from hw)⟩
   refine os_know 95 (.bool true) e95 nu ?_
   refine os_rv (r_mv (v := .bool _) rfl) ⟨Same.refl _ _, ?_, frsh_no⟩
   exact rfl
  | 4, _, hoq =>
   obtain rfl := sI hoq
   have hs0 := hs
   clear hs
   have d3 : gg 96 = .bool true := hd 3 (dep_of kR)
   have e96 := d3
   refine guard_case 96 true rfl e96 (fun _ => ?_) (fun h => absurd h dE)
   refine os_know 96 (.bool true) e96 nu ?_
   refine os_rv (r_mv (v := .bool _) rfl) ⟨Same.refl _ _, ?_, frsh_no⟩
   exact rfl
  | 5, _, hoq =>
   obtain rfl := sI hoq
   have hs0 := hs
   clear hs
   have d3 : gg 96 = .bool true := hd 3 (dep_of kR)
   have e96 := d3
   have d4 : gg 97 = .bool true := hd 4 (dep_of kR)
   have e97 := d4
   refine ⟨fun _ => ?_, fun hw => Bool.noConfusion (show true = false from hw)⟩
   refine os_know 96 (.bool true) e96 nu (os_know 97 (.bool true) e97 nu ?_)
   refine os_rv (r_pt (v := .bool _) rfl rfl) ⟨Same.refl _ _, ?_, frsh_no⟩
   exact rfl
  | 6, _, hoq =>
   obtain rfl := sI hoq
   have hs0 := hs
   clear hs
   have d5 : gg 98 = .bool true := hd 5 (dep_of kR)
   have e98 := d5
   refine ⟨fun _ => ?_, fun hw => Bool.noConfusion (show true = false from hw)⟩
   refine os_know 98 (.bool true) e98 nu ?_
   refine os_rv (r_mv (v := .bool _) rfl) ⟨Same.refl _ _, ?_, frsh_no⟩
   exact rfl
  | 7, _, hoq =>
   obtain rfl := sI hoq
   have hs0 := hs
   replace hb16 := hb16.tr0 hs
   clear hs
   have d6 : gg 99 = .bool true := hd 6 (dep_of kR)
   have e99 := d6
   refine guard_case 99 true rfl e99 (fun _ => ?_) (fun h => absurd h dE)
   refine os_know 99 (.bool true) e99 nu ?_
   refine os_rv (r_ldS U28 rfl rfl hb16.range0 sz28_GTgt) ⟨Same.refl _ _, ?_, frsh_no⟩
   exact rfl
  | 8, _, hoq =>
   obtain rfl := sI hoq
   have hs0 := hs
   replace hb4 := hb4.tr0 hs
   clear hs
   have d6 : gg 99 = .bool true := hd 6 (dep_of kR)
   have e99 := d6
   refine guard_case 99 true rfl e99 (fun _ => ?_) (fun h => absurd h dE)
   refine os_know 99 (.bool true) e99 nu ?_
   refine os_rv (r_ldS U28 rfl rfl hb4.range0 sz28_GTgt) ⟨Same.refl _ _, ?_, frsh_no⟩
   exact rfl
  | 9, _, hoq =>
   obtain rfl := sI hoq
   have hs0 := hs
   replace hB := hB.tr0 hs
   clear hs
   have d6 : gg 99 = .bool true := hd 6 (dep_of kR)
   have e99 := d6
   have d8 : gg 101 = .agg #[.slice G1 ga.length c1] := hd 8 (dep_of kR)
   have e101 := d8
   refine guard_case 99 true rfl e99 (fun _ => ?_) (fun h => absurd h dE)
   refine os_know 99 (.bool true) e99 nu (os_know 101 (.agg #[.slice G1 ga.length c1]) e101 nu ?_)
   refine os_cl fn19_UGen (rcan_any G1 _ c1 l fs ga wx (hG1.mono hB) rfl hga0) rfl (fun e' w2 hr => ?_)
   obtain ⟨⟨AR, cR, rfl, hNR⟩, hs⟩ := hr
   exact ⟨_, rfl, Same.of_bel hs, ⟨_, _, rfl, hNR _ (FrSame.refl _ _)⟩, frsh_no⟩
  | 10, _, hoq =>
   obtain rfl := sI hoq
   have hs0 := hs
   replace hFU := hFU.of hs (by simp)
   clear hs
   have d6 : gg 99 = .bool true := hd 6 (dep_of kR)
   have e99 := d6
   have d7 : gg 100 = .agg #[.slice AU XU.length XU.length] := hd 7 (dep_of kR)
   have e100 := d7
   have d9 : ∃ AR c, gg 102 = .agg #[.slice AR (canF l fs ga).length c] ∧ NodesIn wx AR (canF l fs ga) := hd 9 (dep_of kR)
   obtain ⟨AR102, cR102, e102, hNR102⟩ := d9
   refine guard_case 99 true rfl e99 (fun _ => ?_) (fun h => absurd h dE)
   refine os_know 99 (.bool true) e99 nu (os_know 100 (.agg #[.slice AU XU.length XU.length]) e100 nu (os_know 102 (.agg #[.slice AR102 (canF l fs ga).length cR102]) e102 nu ?_))
   refine os_cl fn13_UOrd (nodesb_any AU AR102 _ _ _ cR102 _ _ true wx (hNU _ hFU) hNR102 rfl rfl hdU) rfl (fun e' w2 hr => ?_)
   obtain ⟨rfl, hs⟩ := hr
   exact ⟨_, rfl, Same.of_bel hs, rfl, frsh_no⟩
  | 11, _, hoq =>
   obtain rfl := sI hoq
   have hs0 := hs
   clear hs
   have d6 : gg 99 = .bool true := hd 6 (dep_of kR)
   have e99 := d6
   have d10 : gg 103 = .bool true := hd 10 (dep_of kR)
   have e103 := d10
   refine ⟨fun _ => ?_, fun hw => Bool.noConfusion (show true = false from hw)⟩
   refine os_know 99 (.bool true) e99 nu (os_know 103 (.bool true) e103 nu ?_)
   refine os_rv (r_pt (v := .bool _) rfl rfl) ⟨Same.refl _ _, ?_, frsh_no⟩
   exact rfl
  | 12, _, hoq =>
   obtain rfl := sI hoq
   have hs0 := hs
   clear hs
   have d11 : gg 104 = .bool true := hd 11 (dep_of kR)
   have e104 := d11
   refine ⟨fun _ => ?_, fun hw => Bool.noConfusion (show true = false from hw)⟩
   refine os_know 104 (.bool true) e104 nu ?_
   refine os_rv (r_mv (v := .bool _) rfl) ⟨Same.refl _ _, ?_, frsh_no⟩
   exact rfl
  | 13, _, hoq =>
   obtain rfl := sI hoq
   have hs0 := hs
   replace hb19 := hb19.tr0 hs
   clear hs
   have d12 : gg 105 = .bool true := hd 12 (dep_of kR)
   have e105 := d12
   refine guard_case 105 true rfl e105 (fun _ => ?_) (fun h => absurd h dE)
   refine os_know 105 (.bool true) e105 nu ?_
   refine os_rv (r_fa U30 sz3_UAll dE rfl rfl rfl) ⟨Same.refl _ _, ?_, frsh_no⟩
   exact rfl
  | 14, _, hoq =>
   obtain rfl := sI hoq
   have hs0 := hs
   replace hb19 := hb19.tr0 hs
   clear hs
   have d12 : gg 105 = .bool true := hd 12 (dep_of kR)
   have e105 := d12
   have d13 : gg 106 = .pointer (some ⟨b19, 0, none⟩) := hd 13 (dep_of kR)
   have e106 := d13
   refine guard_case 105 true rfl e105 (fun _ => ?_) (fun h => absurd h dE)
   refine os_know 105 (.bool true) e105 nu (os_know 106 (.pointer (some ⟨b19, 0, none⟩)) e106 nu ?_)
   refine os_rv (r_ld1 (v := .int _ _) U3 rfl rfl (hb19.cell rfl)) ⟨Same.refl _ _, ?_, frsh_no⟩
   exact rfl
  | 15, _, hoq =>
   obtain rfl := sI hoq
   have hs0 := hs
   clear hs
   have d12 : gg 105 = .bool true := hd 12 (dep_of kR)
   have e105 := d12
   have d14 : gg 107 = .int .i64 0 := hd 14 (dep_of kR)
   have e107 := d14
   refine guard_case 105 true rfl e105 (fun _ => ?_) (fun h => absurd h dE)
   refine os_know 105 (.bool true) e105 nu (os_know 107 (.int .i64 0) e107 nu ?_)
   refine os_rv (r_eql rfl rfl) ⟨Same.refl _ _, ?_, frsh_no⟩
   exact (congrArg Value.bool (decide_eq_true rfl))
  | 16, _, hoq =>
   obtain rfl := sI hoq
   have hs0 := hs
   clear hs
   have d12 : gg 105 = .bool true := hd 12 (dep_of kR)
   have e105 := d12
   have d15 : gg 108 = .bool true := hd 15 (dep_of kR)
   have e108 := d15
   refine ⟨fun _ => ?_, fun hw => Bool.noConfusion (show true = false from hw)⟩
   refine os_know 105 (.bool true) e105 nu (os_know 108 (.bool true) e108 nu ?_)
   refine os_rv (r_pt (v := .bool _) rfl rfl) ⟨Same.refl _ _, ?_, frsh_no⟩
   exact rfl
  | 17, _, hoq =>
   obtain rfl := sI hoq
   have hs0 := hs
   clear hs
   have d16 : gg 109 = .bool true := hd 16 (dep_of kR)
   have e109 := d16
   refine ⟨fun _ => ?_, fun hw => Bool.noConfusion (show true = false from hw)⟩
   refine os_know 109 (.bool true) e109 nu ?_
   refine os_rv (r_mv (v := .bool _) rfl) ⟨Same.refl _ _, ?_, frsh_no⟩
   exact rfl
  | 18, _, hoq =>
   obtain rfl := sI hoq
   have hs0 := hs
   replace hb14 := hb14.tr0 hs
   clear hs
   have d17 : gg 110 = .bool true := hd 17 (dep_of kR)
   have e110 := d17
   refine guard_case 110 true rfl e110 (fun _ => ?_) (fun h => absurd h dE)
   refine os_know 110 (.bool true) e110 nu ?_
   refine os_rv (r_ldS U28 rfl rfl hb14.range0 sz28_GTgt) ⟨Same.refl _ _, ?_, frsh_no⟩
   exact rfl
  | 19, _, hoq =>
   obtain rfl := sI hoq
   have hs0 := hs
   replace hb18 := hb18.tr0 hs
   clear hs
   have d17 : gg 110 = .bool true := hd 17 (dep_of kR)
   have e110 := d17
   refine guard_case 110 true rfl e110 (fun _ => ?_) (fun h => absurd h dE)
   refine os_know 110 (.bool true) e110 nu ?_
   refine os_rv (r_ldS U28 rfl rfl hb18.range0 sz28_GTgt) ⟨Same.refl _ _, ?_, frsh_no⟩
   exact rfl
  | 20, _, hoq =>
   obtain rfl := sI hoq
   have hs0 := hs
   replace hBuZ := hBuZ.tr0 hs
   replace hBuV := hBuV.tr0 hs
   clear hs
   have d17 : gg 110 = .bool true := hd 17 (dep_of kR)
   have e110 := d17
   have d18 : gg 111 = .agg #[.slice AZ XV.length cZ] := hd 18 (dep_of kR)
   have e111 := d18
   have d19 : gg 112 = .agg #[.slice AV XV.length cV] := hd 19 (dep_of kR)
   have e112 := d19
   refine guard_case 110 true rfl e110 (fun _ => ?_) (fun h => absurd h dE)
   refine os_know 110 (.bool true) e110 nu (os_know 111 (.agg #[.slice AZ XV.length cZ]) e111 nu (os_know 112 (.agg #[.slice AV XV.length cV]) e112 nu ?_))
   refine os_cl fn13_UOrd (nodesb_any AZ AV _ _ _ _ XV XV true wx (hNZ.mono hBuZ) (hNV.mono hBuV) rfl rfl (decide_eq_true rfl)) rfl (fun e' w2 hr => ?_)
   obtain ⟨rfl, hs⟩ := hr
   exact ⟨_, rfl, Same.of_bel hs, rfl, frsh_no⟩
  | 21, _, hoq =>
   obtain rfl := sI hoq
   have hs0 := hs
   clear hs
   have d17 : gg 110 = .bool true := hd 17 (dep_of kR)
   have e110 := d17
   have d20 : gg 113 = .bool true := hd 20 (dep_of kR)
   have e113 := d20
   refine ⟨fun _ => ?_, fun hw => Bool.noConfusion (show true = false from hw)⟩
   refine os_know 110 (.bool true) e110 nu (os_know 113 (.bool true) e113 nu ?_)
   refine os_rv (r_pt (v := .bool _) rfl rfl) ⟨Same.refl _ _, ?_, frsh_no⟩
   exact rfl
  | 22, _, hoq =>
   obtain rfl := sI hoq
   have hs0 := hs
   clear hs
   have d21 : gg 114 = .bool true := hd 21 (dep_of kR)
   have e114 := d21
   refine ⟨fun _ => ?_, fun hw => Bool.noConfusion (show true = false from hw)⟩
   refine os_know 114 (.bool true) e114 nu ?_
   refine os_rv (r_as (v := .bool _) rfl) ⟨Same.refl _ _, ?_, frsh_no⟩
   exact rfl
  | _ + 23, hix, _ => exact absurd hix om
 intro gg w54 hs hR hdis
 have hs0 := hs
 replace hB := hB.tr0 hs
 replace hb3 := hb3.tr0 hs
 replace hb4 := hb4.tr0 hs
 replace hb5 := hb5.tr0 hs
 replace hb7 := hb7.tr0 hs
 replace hb8 := hb8.tr0 hs
 replace hBuX := hBuX.tr0 hs
 replace hb9 := hb9.tr0 hs
 replace hb11 := hb11.tr0 hs
 replace hBuZ := hBuZ.tr0 hs
 replace hb14 := hb14.tr0 hs
 replace hb15 := hb15.tr0 hs
 replace hFU := hFU.of hs (by simp)
 replace hb16 := hb16.tr0 hs
 replace hBuV := hBuV.tr0 hs
 replace hb18 := hb18.tr0 hs
 replace hb19 := hb19.tr0 hs
 clear hs
 have d22 : gg 6 = .bool true := hR 22 dE
 have e6 := d22
 refine wl_know 6 (.bool true) e6 nu (x_nil (e_S (c_ret (fin1 (.inl rfl) rfl rfl ?_))))
 exact ⟨rfl, hB⟩
end Go.Proofs.YteoncmfiiknfbaaDoor
