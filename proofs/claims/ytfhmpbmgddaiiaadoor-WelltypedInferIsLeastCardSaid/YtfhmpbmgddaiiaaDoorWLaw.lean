/- What these functions of the program compute, at every world: glosswright/glosswrightlaw3.looseFault, glosswright/glosswrightlaw3.WelltypedInferIsLeast. -/
import Derived.Test.YtfhmpbmgddaiiaaDoorU
import Derived.Test.YtfhmpbmgddaiiaaDoorSBase
import Derived.Test.YtfhmpbmgddaiiaaDoorSMapped
import Derived.Test.YtfhmpbmgddaiiaaDoorInf
import Derived.Test.YtfhmpbmgddaiiaaDoorWInf
namespace Go.Proofs.YtfhmpbmgddaiiaaDoor
open Go.RowKit
theorem infsh_any {w : World} {A B G : Option Addr} (hTab : TabIn w) (hT : TypesIn w A pairT) (hF : FeatsIn w B pairF) (hG : NodesIn w G sharedG) : Calls Tryd.prog 5 #[.agg #[.slice A 4 4, .slice B 2 2], .agg #[.slice G 2 2]] w fun e w' => (∃ GA cA, e = .returned (.tuple #[.agg #[.slice GA 2 cA], .bool true, .agg #[.int .i64 0, .int .i64 0]]) ∧ NodesIn w' GA sharedG) ∧ Bel w w' := by
  refine (infer_any A B G 4 2 2 pairT pairF sharedG w hTab hT hF hG).mono fun e w' h => ?_
  obtain ⟨⟨GA, X, cX, ok, f, he, hN, hU⟩, hs⟩ := h
  obtain ⟨h1, h2, o, hd, h3⟩ := inf_val shared_ok hU
  have e := hd.det shared_dl
  subst e
  have hX : X = sharedG := h3.trans dE
  subst h1 h2 hX
  exact ⟨⟨GA, cX, he, hN _ (FrSame.refl _ _)⟩, hs⟩
theorem uni_val0 {l : List Ty} {fs : List Ft} {ga gb X : List Nd} {ok : Bool} {f : Fl} (ha : (graphF l fs ga).1 = 0) (hb : (graphF l fs gb).1 = 0) (h : UnifyS l fs ga gb ok f X) (hok : ok = true) : (graphF l fs X).1 = 0 := by
  subst hok
  rcases h with ⟨_, h, _⟩ | ⟨_, h, _⟩ | ⟨_, h, _⟩ | ⟨_, _, _, h1, h2⟩
  · cases h
  · cases h
  · cases h
  · rw [uni_valid (gv_of ha) (gv_of hb) h1 h2]
theorem inf_again' {l : List Ty} {fs : List Ft} {g X Y : List Nd} {ok ok2 : Bool} {f f2 : Fl} (hg : GL l fs g) (h : InfS l fs g ok f X) (hok : ok = true) (k : InfS l fs X ok2 f2 Y) : ok2 = true ∧ f2 = (0, 0) ∧ Y = X := by
  subst hok
  exact inf_again hg h k
theorem fn10 : callable Tryd.prog 10 = true := by kernel_rfl
theorem fn11 : callable Tryd.prog 11 = true := by kernel_rfl
theorem fn12 : callable Tryd.prog 12 = true := by kernel_rfl
theorem fn13 : callable Tryd.prog 13 = true := by kernel_rfl
theorem fn14 : callable Tryd.prog 14 = true := by kernel_rfl
theorem fn20 : callable Tryd.prog 20 = true := by kernel_rfl
theorem fn5 : callable Tryd.prog 5 = true := by kernel_rfl
theorem fn6 : callable Tryd.prog 6 = true := by kernel_rfl
theorem fn7 : callable Tryd.prog 7 = true := by kernel_rfl
theorem fn9 : callable Tryd.prog 9 = true := by kernel_rfl
theorem lfa_any (A B G : Option Addr) (c d cg : Nat) (l : List Ty) (fs : List Ft) (gr : List Nd) (w : World) (hcl : l.length ≤ c) (hdl : fs.length ≤ d) (hT : TypesIn w A l) (hF : FeatsIn w B fs) (hG : NodesIn w G gr) : Calls Tryd.prog 7 #[.agg #[.slice A l.length c, .slice B fs.length d], .agg #[.slice G gr.length cg]] w fun e w' => e = .returned (flV (looseT l fs gr)) ∧ Bel w w' := by
 refine enter Tryd.func7 Tryd.ntmps7 rfl (Nat.le_of_ble_eq_true rfl) ?_
 have hB : Bel w w := Below.refl _ _
 refine c_seq (c_region ?_)
 refine wl_bx (v := .agg #[_, _]) (cs := #[_, _]) rfl rfl (fun b2 w1 hb2 hs hr => ?_)
 have lo2 := nLT (Bel.size hB) hr
 replace hB := hB.tr0 hs
 clear hs
 clear hr
 refine wl_bx (v := .agg #[_]) (cs := #[_]) rfl rfl (fun b3 w2 hb3 hs hr => ?_)
 have or_b2_b3 : b2 < b3 := nLL hb2.lt hr
 have lo3 := nLT (Bel.size hB) hr
 replace hB := hB.tr0 hs
 replace hb2 := hb2.tr0 hs
 clear hs
 clear hr
 refine wl_al (cs := #[.int .i64 0, .int .i64 0]) ze35_SFind rfl (fun b4 w3 hb4 hs hr => ?_)
 have or_b2_b4 : b2 < b4 := nLL hb2.lt hr
 have or_b3_b4 : b3 < b4 := nLL hb3.lt hr
 have lo4 := nLT (Bel.size hB) hr
 replace hB := hB.tr0 hs
 replace hb2 := hb2.tr0 hs
 replace hb3 := hb3.tr0 hs
 clear hs
 clear hr
 refine x_nil (e_S (c_seq (c_seq (c_region (wl (r_ldS U25 rfl rfl hb2.range0 sz25) ?_)))))
 refine wl_cl fn20 (hierFault_any A B c d l fs _ hcl hdl (hT.mono hB) (hF.mono hB)) rfl (fun e' w4 hr => ?_)
 obtain ⟨rfl, hs⟩ := hr
 replace hs := Same.of_bel hs
 replace hB := hB.tr0 hs
 replace hb2 := hb2.tr0 hs
 replace hb3 := hb3.tr0 hs
 replace hb4 := hb4.tr0 hs
 clear hs
 refine ⟨_, rfl, ?_⟩
 refine wl_al (cs := #[.int .i64 0, .int .i64 0]) ze35_SFind rfl (fun b5 w5 hb5 hs hr => ?_)
 have or_b2_b5 : b2 < b5 := nLL hb2.lt hr
 have or_b3_b5 : b3 < b5 := nLL hb3.lt hr
 have or_b4_b5 : b4 < b5 := nLL hb4.lt hr
 have lo5 := nLT (Bel.size hB) hr
 replace hB := hB.tr0 hs
 replace hb2 := hb2.tr0 hs
 replace hb3 := hb3.tr0 hs
 replace hb4 := hb4.tr0 hs
 clear hs
 clear hr
 refine wl_stW hb5 rfl rfl sz35_SFind rfl oneA (fun w6 hq hs => ?_)
 replace hB := hB.tr1 hs lo5
 replace hb2 := hb2.tr1 hs om
 replace hb3 := hb3.tr1 hs om
 replace hb4 := hb4.tr1 hs om
 clear hs
 replace hb5 := hq
 refine x_nil (e_S (c_seq (c_region (wl (r_fa U35 sz3_GSearch dE rfl rfl rfl) (wl (r_ld1 (v := .int _ _) U3 rfl rfl (hb5.cell rfl)) ?_)))))
 refine wl (r_neq rfl rfl) (x_nil (e_S ?_))
 refine c_ifd rfl (fun c12 => ?_) (fun c12 => ?_)
 ·
  refine c_seq (c_region (wl (r_ldS U35 rfl rfl hb5.range0 sz35_SFind) ?_))
  refine wl_stW hb4 rfl rfl sz35_SFind rfl oneA (fun w7 hq hs => ?_)
  replace hB := hB.tr1 hs lo4
  replace hb2 := hb2.tr1 hs om
  replace hb3 := hb3.tr1 hs om
  replace hb5 := hb5.tr1 hs om
  clear hs
  replace hb4 := hq
  refine x_nil (e_S (c_ret (e_Sr (fin1 (.inl rfl) rfl (rr_cell U35 rfl rfl hb4.range0 sz35_SFind) ?_))))
  exact ⟨ret_fl (lt_hier c12), hB⟩
 have h0 := Decidable.not_not.1 c12
 refine c_skip (e_S (c_seq (c_seq (c_region (wl (r_ldS U25 rfl rfl hb2.range0 sz25) ?_)))))
 refine wl (r_ldS U28 rfl rfl hb3.range0 sz28) ?_
 refine wl_cl fn21 (rloose_any A B G c d cg l fs gr _ (hG.mono hB)) rfl (fun e' w8 hr => ?_)
 obtain ⟨rfl, hs⟩ := hr
 replace hs := Same.of_bel hs
 replace hB := hB.tr0 hs
 replace hb2 := hb2.tr0 hs
 replace hb3 := hb3.tr0 hs
 replace hb4 := hb4.tr0 hs
 replace hb5 := hb5.tr0 hs
 clear hs
 refine ⟨_, rfl, ?_⟩
 refine wl_al (cs := #[.int .i64 0, .int .i64 0]) ze35_SFind rfl (fun b6 w9 hb6 hs hr => ?_)
 have or_b2_b6 : b2 < b6 := nLL hb2.lt hr
 have or_b3_b6 : b3 < b6 := nLL hb3.lt hr
 have or_b4_b6 : b4 < b6 := nLL hb4.lt hr
 have or_b5_b6 : b5 < b6 := nLL hb5.lt hr
 have lo6 := nLT (Bel.size hB) hr
 replace hB := hB.tr0 hs
 replace hb2 := hb2.tr0 hs
 replace hb3 := hb3.tr0 hs
 replace hb4 := hb4.tr0 hs
 replace hb5 := hb5.tr0 hs
 clear hs
 clear hr
 refine wl_stW hb6 rfl rfl sz35_SFind rfl oneA (fun w10 hq hs => ?_)
 replace hB := hB.tr1 hs lo6
 replace hb2 := hb2.tr1 hs om
 replace hb3 := hb3.tr1 hs om
 replace hb4 := hb4.tr1 hs om
 replace hb5 := hb5.tr1 hs om
 clear hs
 replace hb6 := hq
 refine x_nil (e_S (c_seq (c_region (wl (r_fa U35 sz3_GSearch dE rfl rfl rfl) (wl (r_ld1 (v := .int _ _) U3 rfl rfl (hb6.cell rfl)) ?_)))))
 refine wl (r_neq rfl rfl) (x_nil (e_S ?_))
 refine c_ifd rfl (fun c19 => ?_) (fun c19 => ?_)
 ·
  refine c_seq (c_region (wl (r_ldS U35 rfl rfl hb6.range0 sz35_SFind) ?_))
  refine wl_stW hb4 rfl rfl sz35_SFind rfl oneA (fun w11 hq hs => ?_)
  replace hB := hB.tr1 hs lo4
  replace hb2 := hb2.tr1 hs om
  replace hb3 := hb3.tr1 hs om
  replace hb5 := hb5.tr1 hs om
  replace hb6 := hb6.tr1 hs om
  clear hs
  replace hb4 := hq
  refine x_nil (e_S (c_ret (e_Sr (fin1 (.inl rfl) rfl (rr_cell U35 rfl rfl hb4.range0 sz35_SFind) ?_))))
  exact ⟨ret_fl (lt_loose h0 c19), hB⟩
 have h1 := Decidable.not_not.1 c19
 have hk := gok_of h1
 refine c_skip (e_S (c_seq (c_seq (c_region (wl (r_ldS U28 rfl rfl hb3.range0 sz28) ?_)))))
 refine wl_cl fn22 (runr_any G cg l.length fs.length gr _ (hG.mono hB) hk) rfl (fun e' w12 hr => ?_)
 obtain ⟨rfl, hs⟩ := hr
 replace hs := Same.of_bel hs
 replace hB := hB.tr0 hs
 replace hb2 := hb2.tr0 hs
 replace hb3 := hb3.tr0 hs
 replace hb4 := hb4.tr0 hs
 replace hb5 := hb5.tr0 hs
 replace hb6 := hb6.tr0 hs
 clear hs
 refine ⟨_, rfl, ?_⟩
 refine waI rfl (x_nil (e_S (c_seq (c_region (wmI rfl ?_)))))
 refine wl (r_geq rfl rfl) (x_nil (e_S ?_))
 refine c_ifd rfl (fun c24 => ?_) (fun c24 => ?_)
 ·
  refine c_seq (c_region (wmI rfl (wl (r_bd2 (v0 := .int _ _) (v1 := .int _ _) (fun v0 v1 => #[v0, v1]) rfl rfl kR) ?_)))
  refine wl_stW hb4 rfl rfl sz35_SFind rfl oneA (fun w13 hq hs => ?_)
  replace hB := hB.tr1 hs lo4
  replace hb2 := hb2.tr1 hs om
  replace hb3 := hb3.tr1 hs om
  replace hb5 := hb5.tr1 hs om
  replace hb6 := hb6.tr1 hs om
  clear hs
  replace hb4 := hq
  refine x_nil (e_S (c_ret (e_Sr (fin1 (.inl rfl) rfl (rr_cell U35 rfl rfl hb4.range0 sz35_SFind) ?_))))
  exact ⟨ret_fl (lt_unr h0 h1 c24), hB⟩
 refine c_skip (e_S (c_seq (c_region (wl (r_bd (vs := #[]) (cs := #[.int .i64 0, .int .i64 0]) (by simp) kR) ?_))))
 refine wl_stW hb4 rfl rfl sz35_SFind rfl oneA (fun w14 hq hs => ?_)
 replace hB := hB.tr1 hs lo4
 replace hb2 := hb2.tr1 hs om
 replace hb3 := hb3.tr1 hs om
 replace hb5 := hb5.tr1 hs om
 replace hb6 := hb6.tr1 hs om
 clear hs
 replace hb4 := hq
 refine x_nil (e_S (c_ret (fin1 (.inl rfl) rfl (rr_cell U35 rfl rfl hb4.range0 sz35_SFind) ?_)))
 exact ⟨ret_fl (lt_zero h0 h1 c24), hB⟩
set_option maxRecDepth 100000 in
set_option maxHeartbeats 8000000 in
theorem law25_any (A B G1 G2 : Option Addr) (c d c1 c2 : Nat) (l : List Ty) (fs : List Ft) (ga gb : List Nd) (w : World) (hTab : TabIn w) (hcl : l.length ≤ c) (hdl : fs.length ≤ d) (hT : TypesIn w A l) (hF : FeatsIn w B fs) (hG1 : NodesIn w G1 ga) (hG2 : NodesIn w G2 gb) : Calls Tryd.prog 4 #[.agg #[.slice A l.length c, .slice B fs.length d], .agg #[.slice G1 ga.length c1], .agg #[.slice G2 gb.length c2]] w fun e w' => e = .returned (.bool true) ∧ Bel w w' := by
 refine enter Tryd.func4 Tryd.ntmps4 rfl (Nat.le_of_ble_eq_true rfl) ?_
 have hB : Bel w w := Below.refl _ _
 refine c_seq (c_region ?_)
 refine wl_bx (v := .agg #[_, _]) (cs := #[_, _]) rfl rfl (fun b3 w1 hb3 hs hr => ?_)
 have lo3 := nLT (Bel.size hB) hr
 replace hB := hB.tr0 hs
 clear hs
 clear hr
 refine wl_bx (v := .agg #[_]) (cs := #[_]) rfl rfl (fun b4 w2 hb4 hs hr => ?_)
 have or_b3_b4 : b3 < b4 := nLL hb3.lt hr
 have lo4 := nLT (Bel.size hB) hr
 replace hB := hB.tr0 hs
 replace hb3 := hb3.tr0 hs
 clear hs
 clear hr
 refine wl_bx (v := .agg #[_]) (cs := #[_]) rfl rfl (fun b5 w3 hb5 hs hr => ?_)
 have or_b3_b5 : b3 < b5 := nLL hb3.lt hr
 have or_b4_b5 : b4 < b5 := nLL hb4.lt hr
 have lo5 := nLT (Bel.size hB) hr
 replace hB := hB.tr0 hs
 replace hb3 := hb3.tr0 hs
 replace hb4 := hb4.tr0 hs
 clear hs
 clear hr
 refine waB rfl (x_nil (e_S (c_seq (c_seq (c_region ?_)))))
 refine wl_cl fn6 (pair_any _) rfl (fun e' w4 hr => ?_)
 obtain ⟨⟨Ap, Bp, rfl, hTp, hFp⟩, hs⟩ := hr
 replace hs := Same.of_bel hs
 replace hB := hB.tr0 hs
 replace hb3 := hb3.tr0 hs
 replace hb4 := hb4.tr0 hs
 replace hb5 := hb5.tr0 hs
 clear hs
 have hB0 : Bel w4 w4 := Below.refl _ _
 refine ⟨_, rfl, ?_⟩
 refine wl_cl fn10 (shared_any _) rfl (fun e' w5 hr => ?_)
 obtain ⟨⟨Gb, rfl, hGb⟩, hs⟩ := hr
 replace hs := Same.of_bel hs
 replace hB := hB.tr0 hs
 replace hb3 := hb3.tr0 hs
 replace hb4 := hb4.tr0 hs
 replace hb5 := hb5.tr0 hs
 replace hB0 := hB0.tr0 hs
 clear hs
 have hB1 : Bel w5 w5 := Below.refl _ _
 refine ⟨_, rfl, ?_⟩
 refine wl_cl fn5 (infsh_any (hTab.mono hB) (hTp.mono hB0) (hFp.mono hB0) (hGb.mono hB1)) rfl (fun e' w6 hr => ?_)
 obtain ⟨⟨GW, cW, rfl, hGW⟩, hs⟩ := hr
 replace hs := Same.of_bel hs
 replace hB := hB.tr0 hs
 replace hb3 := hb3.tr0 hs
 replace hb4 := hb4.tr0 hs
 replace hb5 := hb5.tr0 hs
 replace hB0 := hB0.tr0 hs
 replace hB1 := hB1.tr0 hs
 clear hs
 have hBW : Bel w6 w6 := Below.refl _ _
 refine ⟨_, rfl, ?_⟩
 refine wmT rfl (wl (r_ex (v := _) rfl rfl) (wl (r_ex (v := _) rfl rfl) (wl (r_ex (v := _) rfl rfl) ?_)))
 refine wl_al (cs := #[.slice none 0 0]) ze28_SFind rfl (fun b7 w7 hb7 hs hr => ?_)
 have or_b3_b7 : b3 < b7 := nLL hb3.lt hr
 have or_b4_b7 : b4 < b7 := nLL hb4.lt hr
 have or_b5_b7 : b5 < b7 := nLL hb5.lt hr
 have lo7 := nLT (Bel.size hB) hr
 have lo_hBW_b7 := nLT (Bel.size hBW) hr
 replace hB := hB.tr0 hs
 replace hb3 := hb3.tr0 hs
 replace hb4 := hb4.tr0 hs
 replace hb5 := hb5.tr0 hs
 replace hBW := hBW.tr0 hs
 clear hs
 clear hr
 refine wl_al (cs := #[.int .i64 0, .int .i64 0]) ze35_SFind rfl (fun b9 w8 hb9 hs hr => ?_)
 have or_b3_b9 : b3 < b9 := nLL hb3.lt hr
 have or_b4_b9 : b4 < b9 := nLL hb4.lt hr
 have or_b5_b9 : b5 < b9 := nLL hb5.lt hr
 have or_b7_b9 : b7 < b9 := nLL hb7.lt hr
 have lo9 := nLT (Bel.size hB) hr
 have lo_hBW_b9 := nLT (Bel.size hBW) hr
 replace hB := hB.tr0 hs
 replace hb3 := hb3.tr0 hs
 replace hb4 := hb4.tr0 hs
 replace hb5 := hb5.tr0 hs
 replace hBW := hBW.tr0 hs
 replace hb7 := hb7.tr0 hs
 clear hs
 clear hr
 refine wl_stW hb7 rfl rfl sz28 rfl oneA (fun w9 hq hs => ?_)
 replace hB := hB.tr1 hs lo7
 replace hb3 := hb3.tr1 hs om
 replace hb4 := hb4.tr1 hs om
 replace hb5 := hb5.tr1 hs om
 replace hBW := hBW.tr1 hs lo_hBW_b7
 replace hb9 := hb9.tr1 hs om
 clear hs
 replace hb7 := hq
 refine waB rfl ?_
 refine wl_stW hb9 rfl rfl sz35_SFind rfl oneA (fun w10 hq hs => ?_)
 replace hB := hB.tr1 hs lo9
 replace hb3 := hb3.tr1 hs om
 replace hb4 := hb4.tr1 hs om
 replace hb5 := hb5.tr1 hs om
 replace hBW := hBW.tr1 hs lo_hBW_b9
 replace hb7 := hb7.tr1 hs om
 clear hs
 replace hb9 := hq
 refine x_nil (e_S (c_seq ?_))
 refine c_monoGO 8 [29, 30, 31, 32, 33, 34, 35, 36] (fun _ => false) (fun ix v wv => match ix with | 0 => v = .bool true | 1 => v = .bool false | 2 => v = .bool false | 3 => v = .agg #[.slice GW 2 cW] | 4 => ∃ AS, v = .agg #[.slice AS 2 2] ∧ NodesIn wv AS sharedG | 5 => v = .bool true | 6 => v = .bool false | 7 => v = .bool false | _ => True) kR kR ?_ ?_ ?_
 ·
  intro ix v wv wv2 h hs
  match ix, h with
  | 0, h => exact h
  | 1, h => exact h
  | 2, h => exact h
  | 3, h => exact h
  | 4, h =>
   obtain ⟨AS, e33, hNS⟩ := (show ∃ AS, v = .agg #[.slice AS 2 2] ∧ NodesIn wv AS sharedG from h)
   exact ⟨AS, e33, hNS.mono hs.bel⟩
  | 5, h => exact h
  | 6, h => exact h
  | 7, h => exact h
  | _ + 8, h => exact trivial
 ·
  intro ix o hix hoq gg wx hs hd hdis
  match ix, hix, hoq with
  | 0, _, hoq =>
   obtain rfl := sI hoq
   have hs0 := hs
   clear hs
   refine ⟨fun _ => ?_, fun hw => Bool.noConfusion (show true = false from hw)⟩
   refine os_rv (r_mv (v := .bool _) rfl) ⟨Same.refl _ _, ?_, frsh_no⟩
   exact rfl
  | 1, _, hoq =>
   obtain rfl := sI hoq
   have hs0 := hs
   clear hs
   have d0 : gg 29 = .bool true := hd 0 (dep_of kR)
   have e29 := d0
   refine ⟨fun _ => ?_, fun hw => Bool.noConfusion (show true = false from hw)⟩
   refine os_know 29 (.bool true) e29 nu ?_
   refine os_rv (r_not rfl) ⟨Same.refl _ _, ?_, frsh_no⟩
   exact rfl
  | 2, _, hoq =>
   obtain rfl := sI hoq
   have hs0 := hs
   clear hs
   have d1 : gg 30 = .bool false := hd 1 (dep_of kR)
   have e30 := d1
   refine ⟨fun _ => ?_, fun hw => Bool.noConfusion (show true = false from hw)⟩
   refine os_know 30 (.bool false) e30 nu ?_
   refine os_rv (r_mv (v := .bool _) rfl) ⟨Same.refl _ _, ?_, frsh_no⟩
   exact rfl
  | 3, _, hoq =>
   obtain rfl := sI hoq
   have hs0 := hs
   replace hb7 := hb7.tr0 hs
   clear hs
   have d2 : gg 31 = .bool false := hd 2 (dep_of kR)
   have e31 := d2
   refine guard_case 31 false rfl e31 (fun _ => ?_) (fun h => absurd h dE)
   refine os_know 31 (.bool false) e31 nu ?_
   refine os_rv (r_ldS U28 rfl rfl hb7.range0 sz28) ⟨Same.refl _ _, ?_, frsh_no⟩
   exact rfl
  | 4, _, hoq =>
   obtain rfl := sI hoq
   have hs0 := hs
   clear hs
   have d2 : gg 31 = .bool false := hd 2 (dep_of kR)
   have e31 := d2
   refine guard_case 31 false rfl e31 (fun _ => ?_) (fun h => absurd h dE)
   refine os_know 31 (.bool false) e31 nu ?_
   refine os_cl fn10 (shared_any wx) rfl (fun e' w2 hr => ?_)
   obtain ⟨⟨AS, rfl, hNS⟩, hs⟩ := hr
   exact ⟨_, rfl, Same.of_bel hs, ⟨_, rfl, hNS⟩, frsh_no⟩
  | 5, _, hoq =>
   obtain rfl := sI hoq
   have hs0 := hs
   replace hBW := hBW.tr0 hs
   clear hs
   have d2 : gg 31 = .bool false := hd 2 (dep_of kR)
   have e31 := d2
   have d3 : gg 32 = .agg #[.slice GW 2 cW] := hd 3 (dep_of kR)
   have e32 := d3
   have d4 : ∃ AS, gg 33 = .agg #[.slice AS 2 2] ∧ NodesIn wx AS sharedG := hd 4 (dep_of kR)
   obtain ⟨AS, e33, hNS⟩ := d4
   refine guard_case 31 false rfl e31 (fun _ => ?_) (fun h => absurd h dE)
   refine os_know 31 (.bool false) e31 nu (os_know 32 (.agg #[.slice GW 2 cW]) e32 nu (os_know 33 (.agg #[.slice AS 2 2]) e33 nu ?_))
   refine os_cl fn9 (nodesb_any GW AS 2 2 cW 2 sharedG sharedG true wx (hGW.mono hBW) hNS rfl rfl (decide_eq_true rfl)) rfl (fun e' w2 hr => ?_)
   obtain ⟨rfl, hs⟩ := hr
   exact ⟨_, rfl, Same.of_bel hs, rfl, frsh_no⟩
  | 6, _, hoq =>
   obtain rfl := sI hoq
   have hs0 := hs
   clear hs
   have d2 : gg 31 = .bool false := hd 2 (dep_of kR)
   have e31 := d2
   have d5 : gg 34 = .bool true := hd 5 (dep_of kR)
   have e34 := d5
   refine guard_case 31 false rfl e31 (fun _ => ?_) (fun h => absurd h dE)
   refine os_know 31 (.bool false) e31 nu (os_know 34 (.bool true) e34 nu ?_)
   refine os_rv (r_not rfl) ⟨Same.refl _ _, ?_, frsh_no⟩
   exact rfl
  | 7, _, hoq =>
   obtain rfl := sI hoq
   have hs0 := hs
   clear hs
   have d2 : gg 31 = .bool false := hd 2 (dep_of kR)
   have e31 := d2
   have d6 : gg 35 = .bool false := hd 6 (dep_of kR)
   have e35 := d6
   refine ⟨fun _ => ?_, fun hw => Bool.noConfusion (show true = false from hw)⟩
   refine os_know 31 (.bool false) e31 nu (os_know 35 (.bool false) e35 nu ?_)
   refine os_rv (r_pf (v := .bool _) rfl rfl) ⟨Same.refl _ _, ?_, frsh_no⟩
   exact rfl
  | _ + 8, hix, _ => exact absurd hix om
 intro gg w11 hs hR hdis
 have hs0 := hs
 replace hB := hB.tr0 hs
 replace hb3 := hb3.tr0 hs
 replace hb4 := hb4.tr0 hs
 replace hb5 := hb5.tr0 hs
 replace hBW := hBW.tr0 hs
 replace hb7 := hb7.tr0 hs
 replace hb9 := hb9.tr0 hs
 clear hs
 have d7 : gg 36 = .bool false := hR 7 dE
 have e36 := d7
 refine wl_know 36 (.bool false) e36 nu (x_nil (e_S ?_))
 refine c_if rfl (fun c36 => ?_) (fun c36 => ?_)
 ·
  exact absurd c36 dE
 refine c_skip (e_S (c_seq (c_seq (c_region (wl (r_ldS U25 rfl rfl hb3.range0 sz25) ?_)))))
 refine wl (r_ldS U28 rfl rfl hb4.range0 sz28) ?_
 refine wl_cl fn7 (lfa_any A B G1 c d c1 l fs ga _ hcl hdl (hT.mono hB) (hF.mono hB) (hG1.mono hB)) rfl (fun e' w12 hr => ?_)
 obtain ⟨rfl, hs⟩ := hr
 replace hs := Same.of_bel hs
 replace hB := hB.tr0 hs
 replace hb3 := hb3.tr0 hs
 replace hb4 := hb4.tr0 hs
 replace hb5 := hb5.tr0 hs
 replace hb7 := hb7.tr0 hs
 replace hb9 := hb9.tr0 hs
 clear hs
 refine ⟨_, rfl, ?_⟩
 refine wl (r_fd1 (v := .int _ _) U35 rfl U3 rfl rfl rfl) (wl (r_neq rfl rfl) (wmB rfl ?_))
 refine wl_casesd 42 rfl (fun g42 => ?_) (fun g42 => ?_)
 ·
  refine wlgn 42 rfl rfl rfl (wlgn 42 rfl rfl rfl (wlgn 42 rfl rfl rfl (wlgn 42 rfl rfl rfl (wlgn 42 rfl rfl rfl (wl (r_pt (v := .bool _) rfl rfl) ?_)))))
  refine x_nil (e_S (c_yes rfl (c_seq (c_region (waB rfl ?_)))))
  refine x_nil (e_S (c_ret (e_Sr (fin1 (.inl rfl) rfl rfl ?_))))
  exact ⟨rfl, hB⟩
 have hgl := gl_of (Decidable.not_not.1 g42)
 refine wl_gd 42 rfl rfl (wl (r_ldS U25 rfl rfl hb3.range0 sz25) (wl_gd 42 rfl rfl (wl (r_ldS U28 rfl rfl hb5.range0 sz28) (wl_gd 42 rfl rfl ?_))))
 refine wl_cl fn11 (inh_any A B G2 c d c2 l fs gb _ (hT.mono hB) hgl.s.vt hgl.s.le (hF.mono hB) (hG2.mono hB) hgl.f) rfl (fun e' w13 hr => ?_)
 obtain ⟨rfl, hs⟩ := hr
 replace hs := Same.of_bel hs
 replace hB := hB.tr0 hs
 replace hb3 := hb3.tr0 hs
 replace hb4 := hb4.tr0 hs
 replace hb5 := hb5.tr0 hs
 replace hb7 := hb7.tr0 hs
 replace hb9 := hb9.tr0 hs
 clear hs
 refine ⟨_, rfl, ?_⟩
 refine wl_gd 42 rfl rfl (wl (r_fd1 (v := .int _ _) U35 rfl U3 rfl rfl rfl) (wl_gd 42 rfl rfl (wl (r_neq rfl rfl) (wl (r_pf (v := .bool _) rfl rfl) (x_nil ?_)))))
 refine e_S ?_
 refine c_ifd rfl (fun c48 => ?_) (fun c48 => ?_)
 ·
  refine c_seq (c_region (waB rfl (x_nil (e_S (c_ret ?_)))))
  refine e_Sr (fin1 (.inl rfl) rfl rfl ?_)
  exact ⟨rfl, hB⟩
 have hgb0 : (graphF l fs gb).1 = 0 := by rw [gf_in hgl.h]; exact Decidable.not_not.1 c48
 refine c_skip (e_S (c_seq (c_region (wl (r_ldS U25 rfl rfl hb3.range0 sz25) (wl (r_ldS U28 rfl rfl hb4.range0 sz28) ?_)))))
 have z5X := hb5.lt
 refine wl_cl fn5 (infer_any A B G1 c d c1 l fs ga _ (hTab.mono hB) (hT.mono hB) (hF.mono hB) (hG1.mono hB)) rfl (fun e' w14 hr => ?_)
 obtain ⟨⟨AX, XX, cX, okX, fX, rfl, hNX, hIX⟩, hs⟩ := hr
 replace hs := Same.of_bel hs
 replace hB := hB.tr0 hs
 replace hb3 := hb3.tr0 hs
 replace hb4 := hb4.tr0 hs
 replace hb5 := hb5.tr0 hs
 replace hb7 := hb7.tr0 hs
 replace hb9 := hb9.tr0 hs
 clear hs
 obtain ⟨ZX, hZX⟩ : ∃ z, z = (w13).heap.size := ⟨_, rfl⟩
 rw [← hZX] at hNX z5X
 obtain ⟨wX, hwX⟩ : ∃ z, z = w14 := ⟨_, rfl⟩
 have hFX : FrSame ZX wX w14 := by rw [hwX]; exact FrSame.refl _ _
 rw [← hwX] at hNX
 refine ⟨_, rfl, ?_⟩
 refine wmT rfl (wl (r_ex (v := _) rfl rfl) (wl (r_ex (v := _) rfl rfl) (wl (r_ex (v := _) rfl rfl) ?_)))
 refine wl_al (cs := #[.slice none 0 0]) ze28_SFind rfl (fun b10 w15 hb10 hs hr => ?_)
 have or_b3_b10 : b3 < b10 := nLL hb3.lt hr
 have or_b4_b10 : b4 < b10 := nLL hb4.lt hr
 have or_b5_b10 : b5 < b10 := nLL hb5.lt hr
 have or_b7_b10 : b7 < b10 := nLL hb7.lt hr
 have or_b9_b10 : b9 < b10 := nLL hb9.lt hr
 have or_hFX_b10 := (nLT hFX.size hr)
 have lo10 := nLT (Bel.size hB) hr
 replace hB := hB.tr0 hs
 replace hb3 := hb3.tr0 hs
 replace hb4 := hb4.tr0 hs
 replace hb5 := hb5.tr0 hs
 replace hb7 := hb7.tr0 hs
 replace hb9 := hb9.tr0 hs
 replace hFX := hFX.of hs (by simp)
 clear hs
 clear hr
 refine wl_al (cs := #[.int .i64 0, .int .i64 0]) ze35_SFind rfl (fun b12 w16 hb12 hs hr => ?_)
 have or_b3_b12 : b3 < b12 := nLL hb3.lt hr
 have or_b4_b12 : b4 < b12 := nLL hb4.lt hr
 have or_b5_b12 : b5 < b12 := nLL hb5.lt hr
 have or_b7_b12 : b7 < b12 := nLL hb7.lt hr
 have or_b9_b12 : b9 < b12 := nLL hb9.lt hr
 have or_hFX_b12 := (nLT hFX.size hr)
 have or_b10_b12 : b10 < b12 := nLL hb10.lt hr
 have lo12 := nLT (Bel.size hB) hr
 replace hB := hB.tr0 hs
 replace hb3 := hb3.tr0 hs
 replace hb4 := hb4.tr0 hs
 replace hb5 := hb5.tr0 hs
 replace hb7 := hb7.tr0 hs
 replace hb9 := hb9.tr0 hs
 replace hFX := hFX.of hs (by simp)
 replace hb10 := hb10.tr0 hs
 clear hs
 clear hr
 refine wl_stW hb10 rfl rfl sz28 rfl oneA (fun w17 hq hs => ?_)
 replace hB := hB.tr1 hs lo10
 replace hb3 := hb3.tr1 hs om
 replace hb4 := hb4.tr1 hs om
 replace hb5 := hb5.tr1 hs om
 replace hb7 := hb7.tr1 hs om
 replace hb9 := hb9.tr1 hs om
 replace hFX := hFX.of hs (fun g hg => by rw [List.mem_singleton.1 hg]; omega)
 replace hb12 := hb12.tr1 hs om
 clear hs
 replace hb10 := hq
 refine waB rfl ?_
 refine wl_stW hb12 rfl rfl sz35_SFind rfl oneA (fun w18 hq hs => ?_)
 replace hB := hB.tr1 hs lo12
 replace hb3 := hb3.tr1 hs om
 replace hb4 := hb4.tr1 hs om
 replace hb5 := hb5.tr1 hs om
 replace hb7 := hb7.tr1 hs om
 replace hb9 := hb9.tr1 hs om
 replace hFX := hFX.of hs (fun g hg => by rw [List.mem_singleton.1 hg]; omega)
 replace hb10 := hb10.tr1 hs om
 clear hs
 replace hb12 := hq
 refine x_nil (e_S (c_seq (c_seq ?_)))
 have hX := inf_says hgl hIX
 refine c_region (wl (r_fa U35 sz3_GSearch dE rfl rfl rfl) (wl (r_ld1 (v := .int _ _) U3 rfl rfl (hb12.cell rfl)) (wl (r_neq rfl rfl) (x_nil (e_S ?_)))))
 refine c_ifd rfl (fun c58 => ?_) (fun c58 => ?_)
 ·
  exact absurd (by rw [hX.1]) c58
 refine c_skip (e_S (c_seq (c_seq (c_region (wmB rfl ?_)))))
 refine x_nil (e_S ?_)
 refine c_if rfl (fun c59 => ?_) (fun c59 => ?_)
 ·
  have hXX0 := (hX.2.1 c59).1
  refine c_seq (c_region (wl (r_ldS U25 rfl rfl hb3.range0 sz25) (wl (r_ldS U28 rfl rfl hb10.range0 sz28) ?_)))
  have z5Y := hb5.lt
  have z12Y := hb12.lt
  refine wl_cl fn5 (infer_any A B AX c d cX l fs XX _ (hTab.mono hB) (hT.mono hB) (hF.mono hB) (hNX _ hFX)) rfl (fun e' w19 hr => ?_)
  obtain ⟨⟨AY, XY, cY, okY, fY, rfl, hNY, hIY⟩, hs⟩ := hr
  replace hs := Same.of_bel hs
  replace hB := hB.tr0 hs
  replace hb3 := hb3.tr0 hs
  replace hb4 := hb4.tr0 hs
  replace hb5 := hb5.tr0 hs
  replace hb7 := hb7.tr0 hs
  replace hb9 := hb9.tr0 hs
  replace hFX := hFX.of hs (by simp)
  replace hb10 := hb10.tr0 hs
  replace hb12 := hb12.tr0 hs
  clear hs
  obtain ⟨ZY, hZY⟩ : ∃ z, z = (w18).heap.size := ⟨_, rfl⟩
  rw [← hZY] at hNY z5Y z12Y
  obtain ⟨wY, hwY⟩ : ∃ z, z = w19 := ⟨_, rfl⟩
  have hFY : FrSame ZY wY w19 := by rw [hwY]; exact FrSame.refl _ _
  rw [← hwY] at hNY
  refine ⟨_, rfl, ?_⟩
  refine wmT rfl (wl (r_ex (v := _) rfl rfl) (wl (r_ex (v := _) rfl rfl) (wl (r_ex (v := _) rfl rfl) ?_)))
  refine wl_al (cs := #[.slice none 0 0]) ze28_SFind rfl (fun b13 w20 hb13 hs hr => ?_)
  have or_b3_b13 : b3 < b13 := nLL hb3.lt hr
  have or_b4_b13 : b4 < b13 := nLL hb4.lt hr
  have or_b5_b13 : b5 < b13 := nLL hb5.lt hr
  have or_b7_b13 : b7 < b13 := nLL hb7.lt hr
  have or_b9_b13 : b9 < b13 := nLL hb9.lt hr
  have or_hFX_b13 := (nLT hFX.size hr)
  have or_b10_b13 : b10 < b13 := nLL hb10.lt hr
  have or_b12_b13 : b12 < b13 := nLL hb12.lt hr
  have or_hFY_b13 := (nLT hFY.size hr)
  have lo13 := nLT (Bel.size hB) hr
  replace hB := hB.tr0 hs
  replace hb3 := hb3.tr0 hs
  replace hb4 := hb4.tr0 hs
  replace hb5 := hb5.tr0 hs
  replace hb7 := hb7.tr0 hs
  replace hb9 := hb9.tr0 hs
  replace hFX := hFX.of hs (by simp)
  replace hb10 := hb10.tr0 hs
  replace hb12 := hb12.tr0 hs
  replace hFY := hFY.of hs (by simp)
  clear hs
  clear hr
  refine wl_al (cs := #[.int .i64 0, .int .i64 0]) ze35_SFind rfl (fun b15 w21 hb15 hs hr => ?_)
  have or_b3_b15 : b3 < b15 := nLL hb3.lt hr
  have or_b4_b15 : b4 < b15 := nLL hb4.lt hr
  have or_b5_b15 : b5 < b15 := nLL hb5.lt hr
  have or_b7_b15 : b7 < b15 := nLL hb7.lt hr
  have or_b9_b15 : b9 < b15 := nLL hb9.lt hr
  have or_hFX_b15 := (nLT hFX.size hr)
  have or_b10_b15 : b10 < b15 := nLL hb10.lt hr
  have or_b12_b15 : b12 < b15 := nLL hb12.lt hr
  have or_hFY_b15 := (nLT hFY.size hr)
  have or_b13_b15 : b13 < b15 := nLL hb13.lt hr
  have lo15 := nLT (Bel.size hB) hr
  replace hB := hB.tr0 hs
  replace hb3 := hb3.tr0 hs
  replace hb4 := hb4.tr0 hs
  replace hb5 := hb5.tr0 hs
  replace hb7 := hb7.tr0 hs
  replace hb9 := hb9.tr0 hs
  replace hFX := hFX.of hs (by simp)
  replace hb10 := hb10.tr0 hs
  replace hb12 := hb12.tr0 hs
  replace hFY := hFY.of hs (by simp)
  replace hb13 := hb13.tr0 hs
  clear hs
  clear hr
  refine wl_stW hb13 rfl rfl sz28 rfl oneA (fun w22 hq hs => ?_)
  replace hB := hB.tr1 hs lo13
  replace hb3 := hb3.tr1 hs om
  replace hb4 := hb4.tr1 hs om
  replace hb5 := hb5.tr1 hs om
  replace hb7 := hb7.tr1 hs om
  replace hb9 := hb9.tr1 hs om
  replace hFX := hFX.of hs (fun g hg => by rw [List.mem_singleton.1 hg]; omega)
  replace hb10 := hb10.tr1 hs om
  replace hb12 := hb12.tr1 hs om
  replace hFY := hFY.of hs (fun g hg => by rw [List.mem_singleton.1 hg]; omega)
  replace hb15 := hb15.tr1 hs om
  clear hs
  replace hb13 := hq
  refine waB rfl ?_
  refine wl_stW hb15 rfl rfl sz35_SFind rfl oneA (fun w23 hq hs => ?_)
  replace hB := hB.tr1 hs lo15
  replace hb3 := hb3.tr1 hs om
  replace hb4 := hb4.tr1 hs om
  replace hb5 := hb5.tr1 hs om
  replace hb7 := hb7.tr1 hs om
  replace hb9 := hb9.tr1 hs om
  replace hFX := hFX.of hs (fun g hg => by rw [List.mem_singleton.1 hg]; omega)
  replace hb10 := hb10.tr1 hs om
  replace hb12 := hb12.tr1 hs om
  replace hFY := hFY.of hs (fun g hg => by rw [List.mem_singleton.1 hg]; omega)
  replace hb13 := hb13.tr1 hs om
  clear hs
  replace hb15 := hq
  refine x_nil (e_S (c_seq (c_seq ?_)))
  obtain ⟨hoY, hfY, hYX⟩ := inf_again' hgl hIX c59 hIY
  refine c_region (wl (r_mv (v := .bool true) (congrArg Value.bool hoY)) (wl (r_not rfl) (wl (r_mv (v := .bool false) rfl) (wl_gd 69 rfl rfl (wl (r_ldS U28 rfl rfl hb10.range0 sz28) ?_)))))
  refine wl_gd 69 rfl rfl (wl (r_ldS U28 rfl rfl hb13.range0 sz28) (wl_gd 69 rfl rfl ?_))
  refine wl_cl fn9 (nodesb_any AX AY _ _ cX cY XX XY true _ (hNX _ hFX) (hNY _ hFY) rfl rfl (decide_eq_true hYX.symm)) rfl (fun e' w24 hr => ?_)
  obtain ⟨rfl, hs⟩ := hr
  replace hs := Same.of_bel hs
  replace hB := hB.tr0 hs
  replace hb3 := hb3.tr0 hs
  replace hb4 := hb4.tr0 hs
  replace hb5 := hb5.tr0 hs
  replace hb7 := hb7.tr0 hs
  replace hb9 := hb9.tr0 hs
  replace hFX := hFX.of hs (by simp)
  replace hb10 := hb10.tr0 hs
  replace hb12 := hb12.tr0 hs
  replace hFY := hFY.of hs (by simp)
  replace hb13 := hb13.tr0 hs
  replace hb15 := hb15.tr0 hs
  clear hs
  refine ⟨_, rfl, ?_⟩
  refine wl_gd 69 rfl rfl (wl (r_not rfl) (wl (r_pf (v := .bool _) rfl rfl) (wl (r_mv (v := .bool false) rfl) (wl_gd 75 rfl rfl (wl (r_ldS U25 rfl rfl hb3.range0 sz25) ?_)))))
  refine wl_gd 75 rfl rfl (wl (r_ldS U28 rfl rfl hb10.range0 sz28) (wl_gd 75 rfl rfl ?_))
  refine wl_cl fn11 (inh_any A B AX c d cX l fs XX _ (hT.mono hB) hgl.s.vt hgl.s.le (hF.mono hB) (hNX _ hFX) hgl.f) rfl (fun e' w25 hr => ?_)
  obtain ⟨rfl, hs⟩ := hr
  replace hs := Same.of_bel hs
  replace hB := hB.tr0 hs
  replace hb3 := hb3.tr0 hs
  replace hb4 := hb4.tr0 hs
  replace hb5 := hb5.tr0 hs
  replace hb7 := hb7.tr0 hs
  replace hb9 := hb9.tr0 hs
  replace hFX := hFX.of hs (by simp)
  replace hb10 := hb10.tr0 hs
  replace hb12 := hb12.tr0 hs
  replace hFY := hFY.of hs (by simp)
  replace hb13 := hb13.tr0 hs
  replace hb15 := hb15.tr0 hs
  clear hs
  refine ⟨_, rfl, ?_⟩
  refine wl_gd 75 rfl rfl (wl (r_fd1 (v := .int _ _) U35 rfl U3 rfl rfl rfl) (wl_gd 75 rfl rfl (wl (r_neq rfl rfl) (wl (r_pf (v := .bool _) rfl rfl) (x_nil ?_)))))
  refine e_S ?_
  refine c_ifd rfl (fun c81 => ?_) (fun c81 => ?_)
  ·
   exact absurd (by have := hXX0; rw [gf_in hgl.h] at this; exact this) c81
  refine c_skip (e_S (c_seq (c_region (wl (r_ldS U25 rfl rfl hb3.range0 sz25) (wl (r_ldS U28 rfl rfl hb10.range0 sz28) ?_)))))
  refine wl (r_ldS U28 rfl rfl hb5.range0 sz28) ?_
  have z5U := hb5.lt
  have z12U := hb12.lt
  refine wl_cl fn12 (unify_any A B AX G2 c d cX c2 l fs XX gb _ (hTab.mono hB) (hT.mono hB) (hF.mono hB) (hNX _ hFX) (hG2.mono hB)) rfl (fun e' w26 hr => ?_)
  obtain ⟨⟨AU, XU, okU, fU, rfl, hNU, hIU⟩, hs⟩ := hr
  replace hs := Same.of_bel hs
  replace hB := hB.tr0 hs
  replace hb3 := hb3.tr0 hs
  replace hb4 := hb4.tr0 hs
  replace hb5 := hb5.tr0 hs
  replace hb7 := hb7.tr0 hs
  replace hb9 := hb9.tr0 hs
  replace hFX := hFX.of hs (by simp)
  replace hb10 := hb10.tr0 hs
  replace hb12 := hb12.tr0 hs
  replace hb13 := hb13.tr0 hs
  replace hb15 := hb15.tr0 hs
  clear hs
  obtain ⟨ZU, hZU⟩ : ∃ z, z = (w25).heap.size := ⟨_, rfl⟩
  rw [← hZU] at hNU z5U z12U
  obtain ⟨wU, hwU⟩ : ∃ z, z = w26 := ⟨_, rfl⟩
  have hFU : FrSame ZU wU w26 := by rw [hwU]; exact FrSame.refl _ _
  rw [← hwU] at hNU
  refine ⟨_, rfl, ?_⟩
  refine wmT rfl (wl (r_ex (v := _) rfl rfl) (wl (r_ex (v := _) rfl rfl) (wl (r_ex (v := _) rfl rfl) ?_)))
  refine wl_al (cs := #[.slice none 0 0]) ze28_SFind rfl (fun b16 w27 hb16 hs hr => ?_)
  have or_b3_b16 : b3 < b16 := nLL hb3.lt hr
  have or_b4_b16 : b4 < b16 := nLL hb4.lt hr
  have or_b5_b16 : b5 < b16 := nLL hb5.lt hr
  have or_b7_b16 : b7 < b16 := nLL hb7.lt hr
  have or_b9_b16 : b9 < b16 := nLL hb9.lt hr
  have or_hFX_b16 := (nLT hFX.size hr)
  have or_b10_b16 : b10 < b16 := nLL hb10.lt hr
  have or_b12_b16 : b12 < b16 := nLL hb12.lt hr
  have or_b13_b16 : b13 < b16 := nLL hb13.lt hr
  have or_b15_b16 : b15 < b16 := nLL hb15.lt hr
  have or_hFU_b16 := (nLT hFU.size hr)
  have lo16 := nLT (Bel.size hB) hr
  replace hB := hB.tr0 hs
  replace hb3 := hb3.tr0 hs
  replace hb4 := hb4.tr0 hs
  replace hb5 := hb5.tr0 hs
  replace hb7 := hb7.tr0 hs
  replace hb9 := hb9.tr0 hs
  replace hFX := hFX.of hs (by simp)
  replace hb10 := hb10.tr0 hs
  replace hb12 := hb12.tr0 hs
  replace hb13 := hb13.tr0 hs
  replace hb15 := hb15.tr0 hs
  replace hFU := hFU.of hs (by simp)
  clear hs
  clear hr
  refine wl_al (cs := #[.int .i64 0, .int .i64 0]) ze35_SFind rfl (fun b18 w28 hb18 hs hr => ?_)
  have or_b3_b18 : b3 < b18 := nLL hb3.lt hr
  have or_b4_b18 : b4 < b18 := nLL hb4.lt hr
  have or_b5_b18 : b5 < b18 := nLL hb5.lt hr
  have or_b7_b18 : b7 < b18 := nLL hb7.lt hr
  have or_b9_b18 : b9 < b18 := nLL hb9.lt hr
  have or_hFX_b18 := (nLT hFX.size hr)
  have or_b10_b18 : b10 < b18 := nLL hb10.lt hr
  have or_b12_b18 : b12 < b18 := nLL hb12.lt hr
  have or_b13_b18 : b13 < b18 := nLL hb13.lt hr
  have or_b15_b18 : b15 < b18 := nLL hb15.lt hr
  have or_hFU_b18 := (nLT hFU.size hr)
  have or_b16_b18 : b16 < b18 := nLL hb16.lt hr
  have lo18 := nLT (Bel.size hB) hr
  replace hB := hB.tr0 hs
  replace hb3 := hb3.tr0 hs
  replace hb4 := hb4.tr0 hs
  replace hb5 := hb5.tr0 hs
  replace hb7 := hb7.tr0 hs
  replace hb9 := hb9.tr0 hs
  replace hFX := hFX.of hs (by simp)
  replace hb10 := hb10.tr0 hs
  replace hb12 := hb12.tr0 hs
  replace hb13 := hb13.tr0 hs
  replace hb15 := hb15.tr0 hs
  replace hFU := hFU.of hs (by simp)
  replace hb16 := hb16.tr0 hs
  clear hs
  clear hr
  refine wl_stW hb16 rfl rfl sz28 rfl oneA (fun w29 hq hs => ?_)
  replace hB := hB.tr1 hs lo16
  replace hb3 := hb3.tr1 hs om
  replace hb4 := hb4.tr1 hs om
  replace hb5 := hb5.tr1 hs om
  replace hb7 := hb7.tr1 hs om
  replace hb9 := hb9.tr1 hs om
  replace hFX := hFX.of hs (fun g hg => by rw [List.mem_singleton.1 hg]; omega)
  replace hb10 := hb10.tr1 hs om
  replace hb12 := hb12.tr1 hs om
  replace hb13 := hb13.tr1 hs om
  replace hb15 := hb15.tr1 hs om
  replace hFU := hFU.of hs (fun g hg => by rw [List.mem_singleton.1 hg]; omega)
  replace hb18 := hb18.tr1 hs om
  clear hs
  replace hb16 := hq
  refine waB rfl ?_
  refine wl_stW hb18 rfl rfl sz35_SFind rfl oneA (fun w30 hq hs => ?_)
  replace hB := hB.tr1 hs lo18
  replace hb3 := hb3.tr1 hs om
  replace hb4 := hb4.tr1 hs om
  replace hb5 := hb5.tr1 hs om
  replace hb7 := hb7.tr1 hs om
  replace hb9 := hb9.tr1 hs om
  replace hFX := hFX.of hs (fun g hg => by rw [List.mem_singleton.1 hg]; omega)
  replace hb10 := hb10.tr1 hs om
  replace hb12 := hb12.tr1 hs om
  replace hb13 := hb13.tr1 hs om
  replace hb15 := hb15.tr1 hs om
  replace hFU := hFU.of hs (fun g hg => by rw [List.mem_singleton.1 hg]; omega)
  replace hb16 := hb16.tr1 hs om
  clear hs
  replace hb18 := hq
  refine x_nil (e_S (c_seq (c_region (wl (r_fa U35 sz3_GSearch dE rfl rfl rfl) (wl (r_ld1 (v := .int _ _) U3 rfl rfl (hb18.cell rfl)) ?_)))))
  refine wl (r_eql rfl rfl) (wmB rfl ?_)
  refine wl_casesd 93 rfl (fun g93 => ?_) (fun g93 => ?_)
  ·
   refine wl_gd 93 rfl rfl (wmB rfl (wl (r_pt (v := .bool _) rfl rfl) (x_nil (e_S ?_))))
   refine c_if rfl (fun c95 => ?_) (fun c95 => ?_)
   ·
    refine c_region (wl (r_ldS U28 rfl rfl hb16.range0 sz28) ?_)
    refine wl_stW hb5 rfl rfl sz28 rfl oneA (fun w31 hq hs => ?_)
    replace hB := hB.tr1 hs lo5
    replace hb3 := hb3.tr1 hs om
    replace hb4 := hb4.tr1 hs om
    replace hb7 := hb7.tr1 hs om
    replace hb9 := hb9.tr1 hs om
    replace hFX := hFX.of hs (fun g hg => by rw [List.mem_singleton.1 hg]; omega)
    replace hb10 := hb10.tr1 hs om
    replace hb12 := hb12.tr1 hs om
    replace hb13 := hb13.tr1 hs om
    replace hb15 := hb15.tr1 hs om
    replace hFU := hFU.of hs (fun g hg => by rw [List.mem_singleton.1 hg]; omega)
    replace hb16 := hb16.tr1 hs om
    replace hb18 := hb18.tr1 hs om
    clear hs
    replace hb5 := hq
    refine x_nil (e_S (c_seq ?_))
    obtain ⟨gv, Av, cv, hb5v, hNv, hgv0⟩ : ∃ (gv : List Nd) (Av : Option Addr) (cv : Nat), Blk w31 b5 28 #[.slice Av gv.length cv] ∧ NodesIn w31 Av gv ∧ (graphF l fs gv).1 = 0 := by
      first
      | exact ⟨gb, _, _, hb5, hG2.mono hB, hgb0⟩
      | exact ⟨XU, _, _, hb5, hNU _ hFU, uni_val0 hXX0 hgb0 hIU c95⟩
    have hvv := gv_of hgv0
    clear hb5
    have hb5 := hb5v
    have hBV : Bel w31 w31 := Below.refl _ _
    refine c_region (wl (r_ldS U25 rfl rfl hb3.range0 sz25) (wl (r_ldS U28 rfl rfl hb4.range0 sz28) (wl (r_ldS U28 rfl rfl hb5.range0 sz28) ?_)))
    refine wl_cl fn13 (mappedL_any A B G1 Av c d c1 cv l fs ga gv _ (hT.mono hB) (hG1.mono hB) (hNv.mono hBV) hgl.s hgl.few hgl.gok hgl.gx.rch hvv.gok) rfl (fun e' w32 hr => ?_)
    obtain ⟨⟨MB, mb, rfl, _⟩, hs⟩ := hr
    replace hs := Same.of_bel hs
    replace hB := hB.tr0 hs
    replace hb3 := hb3.tr0 hs
    replace hb4 := hb4.tr0 hs
    replace hb5 := hb5.tr0 hs
    replace hb7 := hb7.tr0 hs
    replace hb9 := hb9.tr0 hs
    replace hFX := hFX.of hs (by simp)
    replace hb10 := hb10.tr0 hs
    replace hb12 := hb12.tr0 hs
    replace hb13 := hb13.tr0 hs
    replace hb15 := hb15.tr0 hs
    replace hb16 := hb16.tr0 hs
    replace hb18 := hb18.tr0 hs
    replace hBV := hBV.tr0 hs
    clear hs
    refine ⟨_, rfl, ?_⟩
    refine wmT rfl (wl (r_ex (v := _) rfl rfl) (wl (r_ex (v := _) rfl rfl) (waS rfl (waB rfl (x_nil ?_)))))
    refine e_S (c_seq (c_seq (c_region (wmB rfl (wl (r_not rfl) ?_)))))
    refine x_nil (e_S ?_)
    refine c_if rfl (fun c105 => ?_) (fun c105 => ?_)
    ·
     refine c_seq (c_region (waB rfl (x_nil (e_S (c_ret ?_)))))
     refine e_Sr (fin1 (.inl rfl) rfl rfl ?_)
     exact ⟨rfl, hB⟩
    have hmp : Maps l ga gv := by simpa using c105
    have hok1 : okX = true := by
      rcases Bool.eq_false_or_eq_true okX with h | h
      · exact h
      · exact absurd hmp (hX.2.2 h gv hvv)
    have hXv0 := (hX.2.1 hok1).1
    have hsb := (subB_iff hXv0 hgv0).2 ((hX.2.1 hok1).2 gv hvv hmp)
    have h2z := two_mk hXv0 hgv0
    refine c_skip (e_S (c_seq (c_region (wl (r_ldS U25 rfl rfl hb3.range0 sz25) (wl (r_ldS U28 rfl rfl hb10.range0 sz28) ?_)))))
    refine wl (r_ldS U28 rfl rfl hb5.range0 sz28) ?_
    refine wl_cl fn14 (subs_any A B AX Av c d cX cv l fs XX gv _ (hTab.mono hB) (hT.mono hB) (hF.mono hB) (hNX _ hFX) (hNv.mono hBV)) rfl (fun e' w33 hr => ?_)
    obtain ⟨rfl, hs⟩ := hr
    replace hs := Same.of_bel hs
    replace hB := hB.tr0 hs
    replace hb3 := hb3.tr0 hs
    replace hb4 := hb4.tr0 hs
    replace hb5 := hb5.tr0 hs
    replace hb7 := hb7.tr0 hs
    replace hb9 := hb9.tr0 hs
    replace hFX := hFX.of hs (by simp)
    replace hb10 := hb10.tr0 hs
    replace hb12 := hb12.tr0 hs
    replace hb13 := hb13.tr0 hs
    replace hb15 := hb15.tr0 hs
    replace hb16 := hb16.tr0 hs
    replace hb18 := hb18.tr0 hs
    replace hBV := hBV.tr0 hs
    clear hs
    refine ⟨_, rfl, ?_⟩
    refine wmT rfl (wl (r_ex (v := _) rfl rfl) (wl (r_ex (v := _) rfl rfl) (waB rfl ?_)))
    refine wl_stW hb12 rfl rfl sz35_SFind rfl oneA (fun w34 hq hs => ?_)
    replace hB := hB.tr1 hs lo12
    replace hb3 := hb3.tr1 hs om
    replace hb4 := hb4.tr1 hs om
    replace hb5 := hb5.tr1 hs om
    replace hb7 := hb7.tr1 hs om
    replace hb9 := hb9.tr1 hs om
    replace hb10 := hb10.tr1 hs om
    replace hb13 := hb13.tr1 hs om
    replace hb15 := hb15.tr1 hs om
    replace hb16 := hb16.tr1 hs om
    replace hb18 := hb18.tr1 hs om
    clear hs
    replace hb12 := hq
    refine x_nil (e_S (c_seq (c_region (wl (r_mv (v := .bool true) (congrArg Value.bool hok1)) (wmB rfl ?_)))))
    refine wl_gd 114 rfl rfl (wl (r_fa U35 sz3_GSearch dE rfl rfl rfl) (wl_gd 114 rfl rfl (wl (r_ld1 (v := .int _ _) U3 rfl rfl (hb12.cell rfl)) (wl_gd 114 rfl rfl (wl (r_eql rfl rfl) ?_)))))
    refine wl (r_pt (v := .bool _) rfl rfl) (wl (r_mv (v := .bool true) (congrArg Value.bool (decide_eq_true h2z))) (wl_gd 119 rfl rfl (wl (r_mv (v := .bool true) (congrArg Value.bool hsb)) (wl (r_pt (v := .bool _) rfl rfl) (waB rfl ?_)))))
    refine x_nil (e_S (c_ret (fin1 (.inl rfl) rfl rfl ?_)))
    exact ⟨rfl, hB⟩
   refine c_skip (e_S (c_seq ?_))
   obtain ⟨gv, Av, cv, hb5v, hNv, hgv0⟩ : ∃ (gv : List Nd) (Av : Option Addr) (cv : Nat), Blk w30 b5 28 #[.slice Av gv.length cv] ∧ NodesIn w30 Av gv ∧ (graphF l fs gv).1 = 0 := by
     first
     | exact ⟨gb, _, _, hb5, hG2.mono hB, hgb0⟩
     | exact ⟨XU, _, _, hb5, hNU _ hFU, uni_val0 hXX0 hgb0 hIU c95⟩
   have hvv := gv_of hgv0
   clear hb5
   have hb5 := hb5v
   have hBV : Bel w30 w30 := Below.refl _ _
   refine c_region (wl (r_ldS U25 rfl rfl hb3.range0 sz25) (wl (r_ldS U28 rfl rfl hb4.range0 sz28) (wl (r_ldS U28 rfl rfl hb5.range0 sz28) ?_)))
   refine wl_cl fn13 (mappedL_any A B G1 Av c d c1 cv l fs ga gv _ (hT.mono hB) (hG1.mono hB) (hNv.mono hBV) hgl.s hgl.few hgl.gok hgl.gx.rch hvv.gok) rfl (fun e' w35 hr => ?_)
   obtain ⟨⟨MB, mb, rfl, _⟩, hs⟩ := hr
   replace hs := Same.of_bel hs
   replace hB := hB.tr0 hs
   replace hb3 := hb3.tr0 hs
   replace hb4 := hb4.tr0 hs
   replace hb5 := hb5.tr0 hs
   replace hb7 := hb7.tr0 hs
   replace hb9 := hb9.tr0 hs
   replace hFX := hFX.of hs (by simp)
   replace hb10 := hb10.tr0 hs
   replace hb12 := hb12.tr0 hs
   replace hb13 := hb13.tr0 hs
   replace hb15 := hb15.tr0 hs
   replace hb16 := hb16.tr0 hs
   replace hb18 := hb18.tr0 hs
   replace hBV := hBV.tr0 hs
   clear hs
   refine ⟨_, rfl, ?_⟩
   refine wmT rfl (wl (r_ex (v := _) rfl rfl) (wl (r_ex (v := _) rfl rfl) (waS rfl (waB rfl (x_nil ?_)))))
   refine e_S (c_seq (c_seq (c_region (wmB rfl (wl (r_not rfl) ?_)))))
   refine x_nil (e_S ?_)
   refine c_if rfl (fun c105 => ?_) (fun c105 => ?_)
   ·
    refine c_seq (c_region (waB rfl (x_nil (e_S (c_ret ?_)))))
    refine e_Sr (fin1 (.inl rfl) rfl rfl ?_)
    exact ⟨rfl, hB⟩
   have hmp : Maps l ga gv := by simpa using c105
   have hok1 : okX = true := by
     rcases Bool.eq_false_or_eq_true okX with h | h
     · exact h
     · exact absurd hmp (hX.2.2 h gv hvv)
   have hXv0 := (hX.2.1 hok1).1
   have hsb := (subB_iff hXv0 hgv0).2 ((hX.2.1 hok1).2 gv hvv hmp)
   have h2z := two_mk hXv0 hgv0
   refine c_skip (e_S (c_seq (c_region (wl (r_ldS U25 rfl rfl hb3.range0 sz25) (wl (r_ldS U28 rfl rfl hb10.range0 sz28) ?_)))))
   refine wl (r_ldS U28 rfl rfl hb5.range0 sz28) ?_
   refine wl_cl fn14 (subs_any A B AX Av c d cX cv l fs XX gv _ (hTab.mono hB) (hT.mono hB) (hF.mono hB) (hNX _ hFX) (hNv.mono hBV)) rfl (fun e' w36 hr => ?_)
   obtain ⟨rfl, hs⟩ := hr
   replace hs := Same.of_bel hs
   replace hB := hB.tr0 hs
   replace hb3 := hb3.tr0 hs
   replace hb4 := hb4.tr0 hs
   replace hb5 := hb5.tr0 hs
   replace hb7 := hb7.tr0 hs
   replace hb9 := hb9.tr0 hs
   replace hFX := hFX.of hs (by simp)
   replace hb10 := hb10.tr0 hs
   replace hb12 := hb12.tr0 hs
   replace hb13 := hb13.tr0 hs
   replace hb15 := hb15.tr0 hs
   replace hb16 := hb16.tr0 hs
   replace hb18 := hb18.tr0 hs
   replace hBV := hBV.tr0 hs
   clear hs
   refine ⟨_, rfl, ?_⟩
   refine wmT rfl (wl (r_ex (v := _) rfl rfl) (wl (r_ex (v := _) rfl rfl) (waB rfl ?_)))
   refine wl_stW hb12 rfl rfl sz35_SFind rfl oneA (fun w37 hq hs => ?_)
   replace hB := hB.tr1 hs lo12
   replace hb3 := hb3.tr1 hs om
   replace hb4 := hb4.tr1 hs om
   replace hb5 := hb5.tr1 hs om
   replace hb7 := hb7.tr1 hs om
   replace hb9 := hb9.tr1 hs om
   replace hb10 := hb10.tr1 hs om
   replace hb13 := hb13.tr1 hs om
   replace hb15 := hb15.tr1 hs om
   replace hb16 := hb16.tr1 hs om
   replace hb18 := hb18.tr1 hs om
   clear hs
   replace hb12 := hq
   refine x_nil (e_S (c_seq (c_region (wl (r_mv (v := .bool true) (congrArg Value.bool hok1)) (wmB rfl ?_)))))
   refine wl_gd 114 rfl rfl (wl (r_fa U35 sz3_GSearch dE rfl rfl rfl) (wl_gd 114 rfl rfl (wl (r_ld1 (v := .int _ _) U3 rfl rfl (hb12.cell rfl)) (wl_gd 114 rfl rfl (wl (r_eql rfl rfl) ?_)))))
   refine wl (r_pt (v := .bool _) rfl rfl) (wl (r_mv (v := .bool true) (congrArg Value.bool (decide_eq_true h2z))) (wl_gd 119 rfl rfl (wl (r_mv (v := .bool true) (congrArg Value.bool hsb)) (wl (r_pt (v := .bool _) rfl rfl) (waB rfl ?_)))))
   refine x_nil (e_S (c_ret (fin1 (.inl rfl) rfl rfl ?_)))
   exact ⟨rfl, hB⟩
  refine wlgn 93 rfl rfl rfl (wl (r_pf (v := .bool _) rfl rfl) (x_nil (e_S (c_no rfl (c_skip ?_)))))
  refine e_S (c_seq ?_)
  obtain ⟨gv, Av, cv, hb5v, hNv, hgv0⟩ : ∃ (gv : List Nd) (Av : Option Addr) (cv : Nat), Blk w30 b5 28 #[.slice Av gv.length cv] ∧ NodesIn w30 Av gv ∧ (graphF l fs gv).1 = 0 := by
    first
    | exact ⟨gb, _, _, hb5, hG2.mono hB, hgb0⟩
    | exact ⟨XU, _, _, hb5, hNU _ hFU, uni_val0 hXX0 hgb0 hIU c95⟩
  have hvv := gv_of hgv0
  clear hb5
  have hb5 := hb5v
  have hBV : Bel w30 w30 := Below.refl _ _
  refine c_region (wl (r_ldS U25 rfl rfl hb3.range0 sz25) (wl (r_ldS U28 rfl rfl hb4.range0 sz28) (wl (r_ldS U28 rfl rfl hb5.range0 sz28) ?_)))
  refine wl_cl fn13 (mappedL_any A B G1 Av c d c1 cv l fs ga gv _ (hT.mono hB) (hG1.mono hB) (hNv.mono hBV) hgl.s hgl.few hgl.gok hgl.gx.rch hvv.gok) rfl (fun e' w38 hr => ?_)
  obtain ⟨⟨MB, mb, rfl, _⟩, hs⟩ := hr
  replace hs := Same.of_bel hs
  replace hB := hB.tr0 hs
  replace hb3 := hb3.tr0 hs
  replace hb4 := hb4.tr0 hs
  replace hb5 := hb5.tr0 hs
  replace hb7 := hb7.tr0 hs
  replace hb9 := hb9.tr0 hs
  replace hFX := hFX.of hs (by simp)
  replace hb10 := hb10.tr0 hs
  replace hb12 := hb12.tr0 hs
  replace hb13 := hb13.tr0 hs
  replace hb15 := hb15.tr0 hs
  replace hb16 := hb16.tr0 hs
  replace hb18 := hb18.tr0 hs
  replace hBV := hBV.tr0 hs
  clear hs
  refine ⟨_, rfl, ?_⟩
  refine wmT rfl (wl (r_ex (v := _) rfl rfl) (wl (r_ex (v := _) rfl rfl) (waS rfl (waB rfl (x_nil ?_)))))
  refine e_S (c_seq (c_seq (c_region (wmB rfl (wl (r_not rfl) ?_)))))
  refine x_nil (e_S ?_)
  refine c_if rfl (fun c105 => ?_) (fun c105 => ?_)
  ·
   refine c_seq (c_region (waB rfl (x_nil (e_S (c_ret ?_)))))
   refine e_Sr (fin1 (.inl rfl) rfl rfl ?_)
   exact ⟨rfl, hB⟩
  have hmp : Maps l ga gv := by simpa using c105
  have hok1 : okX = true := by
    rcases Bool.eq_false_or_eq_true okX with h | h
    · exact h
    · exact absurd hmp (hX.2.2 h gv hvv)
  have hXv0 := (hX.2.1 hok1).1
  have hsb := (subB_iff hXv0 hgv0).2 ((hX.2.1 hok1).2 gv hvv hmp)
  have h2z := two_mk hXv0 hgv0
  refine c_skip (e_S (c_seq (c_region (wl (r_ldS U25 rfl rfl hb3.range0 sz25) (wl (r_ldS U28 rfl rfl hb10.range0 sz28) ?_)))))
  refine wl (r_ldS U28 rfl rfl hb5.range0 sz28) ?_
  refine wl_cl fn14 (subs_any A B AX Av c d cX cv l fs XX gv _ (hTab.mono hB) (hT.mono hB) (hF.mono hB) (hNX _ hFX) (hNv.mono hBV)) rfl (fun e' w39 hr => ?_)
  obtain ⟨rfl, hs⟩ := hr
  replace hs := Same.of_bel hs
  replace hB := hB.tr0 hs
  replace hb3 := hb3.tr0 hs
  replace hb4 := hb4.tr0 hs
  replace hb5 := hb5.tr0 hs
  replace hb7 := hb7.tr0 hs
  replace hb9 := hb9.tr0 hs
  replace hFX := hFX.of hs (by simp)
  replace hb10 := hb10.tr0 hs
  replace hb12 := hb12.tr0 hs
  replace hb13 := hb13.tr0 hs
  replace hb15 := hb15.tr0 hs
  replace hb16 := hb16.tr0 hs
  replace hb18 := hb18.tr0 hs
  replace hBV := hBV.tr0 hs
  clear hs
  refine ⟨_, rfl, ?_⟩
  refine wmT rfl (wl (r_ex (v := _) rfl rfl) (wl (r_ex (v := _) rfl rfl) (waB rfl ?_)))
  refine wl_stW hb12 rfl rfl sz35_SFind rfl oneA (fun w40 hq hs => ?_)
  replace hB := hB.tr1 hs lo12
  replace hb3 := hb3.tr1 hs om
  replace hb4 := hb4.tr1 hs om
  replace hb5 := hb5.tr1 hs om
  replace hb7 := hb7.tr1 hs om
  replace hb9 := hb9.tr1 hs om
  replace hb10 := hb10.tr1 hs om
  replace hb13 := hb13.tr1 hs om
  replace hb15 := hb15.tr1 hs om
  replace hb16 := hb16.tr1 hs om
  replace hb18 := hb18.tr1 hs om
  clear hs
  replace hb12 := hq
  refine x_nil (e_S (c_seq (c_region (wl (r_mv (v := .bool true) (congrArg Value.bool hok1)) (wmB rfl ?_)))))
  refine wl_gd 114 rfl rfl (wl (r_fa U35 sz3_GSearch dE rfl rfl rfl) (wl_gd 114 rfl rfl (wl (r_ld1 (v := .int _ _) U3 rfl rfl (hb12.cell rfl)) (wl_gd 114 rfl rfl (wl (r_eql rfl rfl) ?_)))))
  refine wl (r_pt (v := .bool _) rfl rfl) (wl (r_mv (v := .bool true) (congrArg Value.bool (decide_eq_true h2z))) (wl_gd 119 rfl rfl (wl (r_mv (v := .bool true) (congrArg Value.bool hsb)) (wl (r_pt (v := .bool _) rfl rfl) (waB rfl ?_)))))
  refine x_nil (e_S (c_ret (fin1 (.inl rfl) rfl rfl ?_)))
  exact ⟨rfl, hB⟩
 refine c_skip (e_S (c_seq ?_))
 obtain ⟨gv, Av, cv, hb5v, hNv, hgv0⟩ : ∃ (gv : List Nd) (Av : Option Addr) (cv : Nat), Blk w18 b5 28 #[.slice Av gv.length cv] ∧ NodesIn w18 Av gv ∧ (graphF l fs gv).1 = 0 := by
   first
   | exact ⟨gb, _, _, hb5, hG2.mono hB, hgb0⟩
   | exact ⟨XU, _, _, hb5, hNU _ hFU, uni_val0 hXX0 hgb0 hIU c95⟩
 have hvv := gv_of hgv0
 clear hb5
 have hb5 := hb5v
 have hBV : Bel w18 w18 := Below.refl _ _
 refine c_region (wl (r_ldS U25 rfl rfl hb3.range0 sz25) (wl (r_ldS U28 rfl rfl hb4.range0 sz28) (wl (r_ldS U28 rfl rfl hb5.range0 sz28) ?_)))
 refine wl_cl fn13 (mappedL_any A B G1 Av c d c1 cv l fs ga gv _ (hT.mono hB) (hG1.mono hB) (hNv.mono hBV) hgl.s hgl.few hgl.gok hgl.gx.rch hvv.gok) rfl (fun e' w41 hr => ?_)
 obtain ⟨⟨MB, mb, rfl, _⟩, hs⟩ := hr
 replace hs := Same.of_bel hs
 replace hB := hB.tr0 hs
 replace hb3 := hb3.tr0 hs
 replace hb4 := hb4.tr0 hs
 replace hb5 := hb5.tr0 hs
 replace hb7 := hb7.tr0 hs
 replace hb9 := hb9.tr0 hs
 replace hFX := hFX.of hs (by simp)
 replace hb10 := hb10.tr0 hs
 replace hb12 := hb12.tr0 hs
 replace hBV := hBV.tr0 hs
 clear hs
 refine ⟨_, rfl, ?_⟩
 refine wmT rfl (wl (r_ex (v := _) rfl rfl) (wl (r_ex (v := _) rfl rfl) (waS rfl (waB rfl (x_nil ?_)))))
 refine e_S (c_seq (c_seq (c_region (wmB rfl (wl (r_not rfl) ?_)))))
 refine x_nil (e_S ?_)
 refine c_if rfl (fun c105 => ?_) (fun c105 => ?_)
 ·
  refine c_seq (c_region (waB rfl (x_nil (e_S (c_ret ?_)))))
  refine e_Sr (fin1 (.inl rfl) rfl rfl ?_)
  exact ⟨rfl, hB⟩
 have hmp : Maps l ga gv := by simpa using c105
 have hok1 : okX = true := by
   rcases Bool.eq_false_or_eq_true okX with h | h
   · exact h
   · exact absurd hmp (hX.2.2 h gv hvv)
 have hXv0 := (hX.2.1 hok1).1
 have hsb := (subB_iff hXv0 hgv0).2 ((hX.2.1 hok1).2 gv hvv hmp)
 have h2z := two_mk hXv0 hgv0
 refine c_skip (e_S (c_seq (c_region (wl (r_ldS U25 rfl rfl hb3.range0 sz25) (wl (r_ldS U28 rfl rfl hb10.range0 sz28) ?_)))))
 refine wl (r_ldS U28 rfl rfl hb5.range0 sz28) ?_
 refine wl_cl fn14 (subs_any A B AX Av c d cX cv l fs XX gv _ (hTab.mono hB) (hT.mono hB) (hF.mono hB) (hNX _ hFX) (hNv.mono hBV)) rfl (fun e' w42 hr => ?_)
 obtain ⟨rfl, hs⟩ := hr
 replace hs := Same.of_bel hs
 replace hB := hB.tr0 hs
 replace hb3 := hb3.tr0 hs
 replace hb4 := hb4.tr0 hs
 replace hb5 := hb5.tr0 hs
 replace hb7 := hb7.tr0 hs
 replace hb9 := hb9.tr0 hs
 replace hFX := hFX.of hs (by simp)
 replace hb10 := hb10.tr0 hs
 replace hb12 := hb12.tr0 hs
 replace hBV := hBV.tr0 hs
 clear hs
 refine ⟨_, rfl, ?_⟩
 refine wmT rfl (wl (r_ex (v := _) rfl rfl) (wl (r_ex (v := _) rfl rfl) (waB rfl ?_)))
 refine wl_stW hb12 rfl rfl sz35_SFind rfl oneA (fun w43 hq hs => ?_)
 replace hB := hB.tr1 hs lo12
 replace hb3 := hb3.tr1 hs om
 replace hb4 := hb4.tr1 hs om
 replace hb5 := hb5.tr1 hs om
 replace hb7 := hb7.tr1 hs om
 replace hb9 := hb9.tr1 hs om
 replace hb10 := hb10.tr1 hs om
 clear hs
 replace hb12 := hq
 refine x_nil (e_S (c_seq (c_region (wl (r_mv (v := .bool true) (congrArg Value.bool hok1)) (wmB rfl ?_)))))
 refine wl_gd 114 rfl rfl (wl (r_fa U35 sz3_GSearch dE rfl rfl rfl) (wl_gd 114 rfl rfl (wl (r_ld1 (v := .int _ _) U3 rfl rfl (hb12.cell rfl)) (wl_gd 114 rfl rfl (wl (r_eql rfl rfl) ?_)))))
 refine wl (r_pt (v := .bool _) rfl rfl) (wl (r_mv (v := .bool true) (congrArg Value.bool (decide_eq_true h2z))) (wl_gd 119 rfl rfl (wl (r_mv (v := .bool true) (congrArg Value.bool hsb)) (wl (r_pt (v := .bool _) rfl rfl) (waB rfl ?_)))))
 refine x_nil (e_S (c_ret (fin1 (.inl rfl) rfl rfl ?_)))
 exact ⟨rfl, hB⟩
end Go.Proofs.YtfhmpbmgddaiiaaDoor
