/- What these functions of the program compute, at every world: glosswright/glosswrightlaw3.WelltypedFillMatchesSpec. Arguments opened: graphs. -/
import Derived.Test.YtegngekpmpdngaaDoorU
import Derived.Test.YtegngekpmpdngaaDoorSBase
import Derived.Test.YtegngekpmpdngaaDoorWFld
import Derived.Test.YtegngekpmpdngaaDoorTypes
import Derived.Test.YtegngekpmpdngaaDoorDfs
namespace Go.Proofs.YtegngekpmpdngaaDoor
open Go.RowKit
def threeG : List Nd := [⟨3, []⟩]
theorem three_ok : (graphF pairT pairF threeG).1 = 0 := by
  have h0 : Rch threeG 0 := .zero
  have hu : (-1 : Int) = unrI threeG := unr_is (.inl ⟨rfl, fun i hi => by
    have hi3 : i < 1 := hi
    match i, hi3 with
    | 0, _ => exact h0⟩)
  rw [gf_in (by rw [pair_fault]), wi_zero (by decide +kernel) (by decide +kernel) om]
def threeA : List Nd := [⟨3, [(0, 1), (1, 2)]⟩, ⟨0, []⟩, ⟨0, []⟩]
theorem three_fil : ∃ nm, Fil pairT pairF threeG threeA nm := by
  have hC := gv_of three_ok
  have h0 := Fil.start hC
  have h1 := h0.add hC (x := 0) (i := 0) (k := 0) (p := []) rfl ⟨by decide, by decide +kernel, fun _ => by decide⟩ dE
  have h2 := h1.add hC (x := 0) (i := 0) (k := 1) (p := []) rfl ⟨by decide, by decide +kernel, fun _ => by decide⟩ (by decide +kernel)
  have e : addN (addN threeG 0 0 (ftAt pairF ((0 : Nat) : Int)).val) 0 1 (ftAt pairF ((1 : Nat) : Int)).val = threeA := by decide +kernel
  rw [e] at h2
  exact ⟨_, h2⟩
theorem three_tot : Tot pairT pairF threeA := fun x hx k hk => by
  have hx2 : x < 3 := hx
  have hk2 : k < 2 := hk
  match x, hx2, k, hk2 with
  | 0, _, 0, _ => intro _; decide +kernel
  | 0, _, 1, _ => intro _; decide +kernel
  | 1, _, 0, _ => intro h; exact absurd h (by decide +kernel)
  | 1, _, 1, _ => intro h; exact absurd h (by decide +kernel)
  | 2, _, 0, _ => intro h; exact absurd h (by decide +kernel)
  | 2, _, 1, _ => intro h; exact absurd h (by decide +kernel)
theorem threeA_dl : DL threeA [0] [] [0, 1, 2] :=
  .new (is := []) (i := 0) (o1 := [0, 1, 2]) dE (.new (is := [2]) (i := 1) (o1 := [0, 1]) dE .nil (.new (is := []) (i := 2) (o1 := [0, 1, 2]) dE .nil .nil)) .nil
theorem three_fill {f : Fl} {X : List Nd} (h : FillS pairT pairF threeG f X) : f = (0, 0) ∧ X.length = 3 := by
  have hg := gv_of three_ok
  rcases h with ⟨h, _⟩ | ⟨_, o, hd, h⟩
  · exact absurd three_ok h
  have e := hd.det (show DL threeG [0] [] [0] from .new (is := []) (i := 0) (o1 := [0]) dE .nil .nil)
  subst e
  have ec : canG threeG [0] = threeG := by decide +kernel
  rw [ec] at h
  obtain ⟨nm, hF⟩ := three_fil
  have hfull : Full pairT pairF threeG (canG threeA [0, 1, 2]) := ⟨threeA, nm, [0, 1, 2], hF, three_tot, by decide, threeA_dl, rfl⟩
  rcases h with ⟨h1, h2⟩ | ⟨h1, _⟩
  · refine ⟨h2, ?_⟩
    rw [full_uniq hg h1 hfull]
    rfl
  · exact absurd h1 (full_many hg hfull)
theorem fill3_any {w : World} {A B G : Option Addr} (hTab : TabIn w) (hT : TypesIn w A pairT) (hF : FeatsIn w B pairF) (hG : NodesIn w G threeG) : Calls Tryd.prog 19 #[.agg #[.slice A 4 4, .slice B 2 2], .agg #[.slice G 1 1]] w fun e w' => (∃ A' cX, e = .returned (.tuple #[.agg #[.slice A' 3 cX], .agg #[.int .i64 0, .int .i64 0]])) ∧ Bel w w' := by
  refine (fill_any A B G 4 2 1 pairT pairF threeG w hTab hT hF hG).mono fun e w' h => ?_
  obtain ⟨⟨A', X, cX, f, he, _, hS⟩, hs⟩ := h
  obtain ⟨h1, h2⟩ := three_fill hS
  rw [h1, h2] at he
  exact ⟨⟨A', cX, he⟩, hs⟩
theorem fd35 : (Tryd.prog.fieldsOf 35).toList.map (fun f => (f.name == "_", f.type, f.offset)) = [(false, 3, 0), (false, 3, 1)] := by kernel_rfl
theorem fn10_WLaw20 : callable Tryd.prog 10 = true := by kernel_rfl
theorem fn19_WLaw20 : callable Tryd.prog 19 = true := by kernel_rfl
theorem fn20 : callable Tryd.prog 20 = true := by kernel_rfl
theorem fn21_WLaw20 : callable Tryd.prog 21 = true := by kernel_rfl
theorem fn22 : callable Tryd.prog 22 = true := by kernel_rfl
theorem fn24_WLaw20 : callable Tryd.prog 24 = true := by kernel_rfl
theorem ft35 : Tryd.prog.underlying 35 = some (.struct (Tryd.prog.fieldsOf 35)) := by kernel_rfl
set_option maxRecDepth 100000 in
set_option maxHeartbeats 8000000 in
theorem law20_any (A B G : Option Addr) (c d cg : Nat) (l : List Ty) (fs : List Ft) (gr : List Nd) (w : World) (hTab : TabIn w) (hcl : l.length ≤ c) (hdl : fs.length ≤ d) (hT : TypesIn w A l) (hF : FeatsIn w B fs) (hG1 : NodesIn w G gr) : Calls Tryd.prog 5 #[.agg #[.slice A l.length c, .slice B fs.length d], .agg #[.slice G gr.length cg]] w fun e w' => e = .returned (.bool true) ∧ Bel w w' := by
 refine enter Tryd.func5 Tryd.ntmps5 rfl (Nat.le_of_ble_eq_true rfl) ?_
 have hB : Bel w w := Below.refl _ _
 refine c_seq (c_region ?_)
 refine wl_bx (v := .agg #[_, _]) (cs := #[_, _]) rfl rfl (fun b2 w1 hb2 hs hr => ?_)
 have lo2 := nLT (Bel.size hB) hr
 replace hB := hB.tr0 hs
 clear hs
 clear hr
 refine wl_bx (v := .agg #[_]) (cs := #[_]) rfl rfl (fun b3 w2 hb3 hs hr => ?_)
 have or_b2_b3 : b2 < b3 := nLL hb2.lt hr
 have lo3 := nLT (Bel.size hB) hr
 replace hB := hB.tr0 hs
 replace hb2 := hb2.tr0 hs
 clear hs
 clear hr
 refine waB rfl (x_nil (e_S (c_seq (c_seq (c_region ?_)))))
 refine wl_cl fn10_WLaw20 (pair_any _) rfl (fun e' w3 hr => ?_)
 obtain ⟨⟨Ap, Bp, rfl, hTp, hFp⟩, hs⟩ := hr
 replace hs := Same.of_bel hs
 replace hB := hB.tr0 hs
 replace hb2 := hb2.tr0 hs
 replace hb3 := hb3.tr0 hs
 clear hs
 have hB0 : Bel w3 w3 := Below.refl _ _
 refine ⟨_, rfl, ?_⟩
 refine wl_cl fn20 (single_any 3 _) rfl (fun e' w4 hr => ?_)
 obtain ⟨⟨Gz, rfl, hGz⟩, hs⟩ := hr
 replace hs := Same.of_bel hs
 replace hB := hB.tr0 hs
 replace hb2 := hb2.tr0 hs
 replace hb3 := hb3.tr0 hs
 replace hB0 := hB0.tr0 hs
 clear hs
 have hB1 : Bel w4 w4 := Below.refl _ _
 refine ⟨_, rfl, ?_⟩
 refine wl_cl fn19_WLaw20 (fill3_any (hTab.mono hB) (hTp.mono hB0) (hFp.mono hB0) (hGz.mono hB1)) rfl (fun e' w5 hr => ?_)
 obtain ⟨⟨A3, c3, rfl⟩, hs⟩ := hr
 replace hs := Same.of_bel hs
 replace hB := hB.tr0 hs
 replace hb2 := hb2.tr0 hs
 replace hb3 := hb3.tr0 hs
 replace hB0 := hB0.tr0 hs
 replace hB1 := hB1.tr0 hs
 clear hs
 refine ⟨_, rfl, ?_⟩
 refine wmT rfl (wl (r_ex (v := _) rfl rfl) (wl (r_ex (v := _) rfl rfl) ?_))
 refine wl_al (cs := #[.slice none 0 0]) ze28_GTgt rfl (fun b5 w6 hb5 hs hr => ?_)
 have or_b2_b5 : b2 < b5 := nLL hb2.lt hr
 have or_b3_b5 : b3 < b5 := nLL hb3.lt hr
 have lo5 := nLT (Bel.size hB) hr
 replace hB := hB.tr0 hs
 replace hb2 := hb2.tr0 hs
 replace hb3 := hb3.tr0 hs
 clear hs
 clear hr
 refine wl_al (cs := #[.int .i64 0, .int .i64 0]) ze35_SFind rfl (fun b6 w7 hb6 hs hr => ?_)
 have or_b2_b6 : b2 < b6 := nLL hb2.lt hr
 have or_b3_b6 : b3 < b6 := nLL hb3.lt hr
 have or_b5_b6 : b5 < b6 := nLL hb5.lt hr
 have lo6 := nLT (Bel.size hB) hr
 replace hB := hB.tr0 hs
 replace hb2 := hb2.tr0 hs
 replace hb3 := hb3.tr0 hs
 replace hb5 := hb5.tr0 hs
 clear hs
 clear hr
 refine wl_stW hb5 rfl rfl sz28_GTgt rfl oneA (fun w8 hq hs => ?_)
 replace hB := hB.tr1 hs lo5
 replace hb2 := hb2.tr1 hs om
 replace hb3 := hb3.tr1 hs om
 replace hb6 := hb6.tr1 hs om
 clear hs
 replace hb5 := hq
 refine wl_stW hb6 rfl rfl sz35_SFind rfl oneA (fun w9 hq hs => ?_)
 replace hB := hB.tr1 hs lo6
 replace hb2 := hb2.tr1 hs om
 replace hb3 := hb3.tr1 hs om
 replace hb5 := hb5.tr1 hs om
 clear hs
 replace hb6 := hq
 refine x_nil (e_S (c_seq (c_region (wl (r_fa U35 sz3_GSearch dE rfl rfl rfl) (wl (r_ld1 (v := .int _ _) U3 rfl rfl (hb6.cell rfl)) ?_)))))
 refine wl (r_neq rfl rfl) (wl (r_mv (v := .bool false) (congrArg Value.bool (decide_eq_false (fun h => h rfl)))) (wl_gd 23 rfl rfl (wl (r_fa U28 sz26_GTgt dE rfl rfl rfl) (wl_gd 23 rfl rfl (wl (r_ld1 (v := .slice _ _ _) U26 rfl rfl (hb5.cell rfl)) ?_)))))
 refine wl_gd 23 rfl rfl (wl (r_len U26 rfl) (wl_gd 23 rfl rfl (wl (r_neq rfl rfl) (wl (r_pf (v := .bool _) rfl rfl) (x_nil ?_)))))
 refine e_S ?_
 refine c_ifd rfl (fun c28 => ?_) (fun c28 => ?_)
 ·
  exact absurd rfl c28
 refine c_skip (e_S (c_seq (c_region (wl (r_ldS U25 rfl rfl hb2.range0 sz25_SFind) (wl (r_ldS U28 rfl rfl hb3.range0 sz28_GTgt) ?_)))))
 refine wl_cl fn21_WLaw20 (total_any A B G c d cg l fs gr _ (hTab.mono hB) (hT.mono hB) (hF.mono hB) (hG1.mono hB)) rfl (fun e' w10 hr => ?_)
 obtain ⟨rfl, hs⟩ := hr
 replace hs := Same.of_bel hs
 replace hB := hB.tr0 hs
 replace hb2 := hb2.tr0 hs
 replace hb3 := hb3.tr0 hs
 replace hb5 := hb5.tr0 hs
 replace hb6 := hb6.tr0 hs
 clear hs
 refine ⟨_, rfl, ?_⟩
 refine wmT rfl (wl (r_ex (v := _) rfl rfl) (wl (r_ex (v := _) rfl rfl) ?_))
 refine wl_al (cs := #[.int .i64 0, .int .i64 0]) ze35_SFind rfl (fun b8 w11 hb8 hs hr => ?_)
 have or_b2_b8 : b2 < b8 := nLL hb2.lt hr
 have or_b3_b8 : b3 < b8 := nLL hb3.lt hr
 have or_b5_b8 : b5 < b8 := nLL hb5.lt hr
 have or_b6_b8 : b6 < b8 := nLL hb6.lt hr
 have lo8 := nLT (Bel.size hB) hr
 replace hB := hB.tr0 hs
 replace hb2 := hb2.tr0 hs
 replace hb3 := hb3.tr0 hs
 replace hb5 := hb5.tr0 hs
 replace hb6 := hb6.tr0 hs
 clear hs
 clear hr
 refine waB rfl ?_
 refine wl_stW hb8 rfl rfl sz35_SFind rfl oneA (fun w12 hq hs => ?_)
 replace hB := hB.tr1 hs lo8
 replace hb2 := hb2.tr1 hs om
 replace hb3 := hb3.tr1 hs om
 replace hb5 := hb5.tr1 hs om
 replace hb6 := hb6.tr1 hs om
 clear hs
 replace hb8 := hq
 refine x_nil (e_S (c_seq (c_region (wl (r_ldS U25 rfl rfl hb2.range0 sz25_SFind) (wl (r_ldS U28 rfl rfl hb3.range0 sz28_GTgt) ?_)))))
 refine wl_cl fn19_WLaw20 (fill_any A B G c d cg l fs gr _ (hTab.mono hB) (hT.mono hB) (hF.mono hB) (hG1.mono hB)) rfl (fun e' w13 hr => ?_)
 obtain ⟨⟨AX, XX, cX, fX, rfl, hNX, hSX⟩, hs⟩ := hr
 replace hs := Same.of_bel hs
 replace hB := hB.tr0 hs
 replace hb2 := hb2.tr0 hs
 replace hb3 := hb3.tr0 hs
 replace hb5 := hb5.tr0 hs
 replace hb6 := hb6.tr0 hs
 replace hb8 := hb8.tr0 hs
 clear hs
 replace hNX := hNX w13 (FrSame.refl _ _)
 have hBuX : Bel w13 w13 := Below.refl _ _
 refine ⟨_, rfl, ?_⟩
 refine wmT rfl (wl (r_ex (v := _) rfl rfl) (wl (r_ex (v := _) rfl rfl) ?_))
 refine wl_al (cs := #[.slice none 0 0]) ze28_GTgt rfl (fun b9 w14 hb9 hs hr => ?_)
 have or_b2_b9 : b2 < b9 := nLL hb2.lt hr
 have or_b3_b9 : b3 < b9 := nLL hb3.lt hr
 have or_b5_b9 : b5 < b9 := nLL hb5.lt hr
 have or_b6_b9 : b6 < b9 := nLL hb6.lt hr
 have or_b8_b9 : b8 < b9 := nLL hb8.lt hr
 have lo9 := nLT (Bel.size hB) hr
 have lo_hBuX_b9 := nLT (Bel.size hBuX) hr
 replace hB := hB.tr0 hs
 replace hb2 := hb2.tr0 hs
 replace hb3 := hb3.tr0 hs
 replace hb5 := hb5.tr0 hs
 replace hb6 := hb6.tr0 hs
 replace hb8 := hb8.tr0 hs
 replace hBuX := hBuX.tr0 hs
 clear hs
 clear hr
 refine wl_al (cs := #[.int .i64 0, .int .i64 0]) ze35_SFind rfl (fun b10 w15 hb10 hs hr => ?_)
 have or_b2_b10 : b2 < b10 := nLL hb2.lt hr
 have or_b3_b10 : b3 < b10 := nLL hb3.lt hr
 have or_b5_b10 : b5 < b10 := nLL hb5.lt hr
 have or_b6_b10 : b6 < b10 := nLL hb6.lt hr
 have or_b8_b10 : b8 < b10 := nLL hb8.lt hr
 have or_b9_b10 : b9 < b10 := nLL hb9.lt hr
 have lo10 := nLT (Bel.size hB) hr
 have lo_hBuX_b10 := nLT (Bel.size hBuX) hr
 replace hB := hB.tr0 hs
 replace hb2 := hb2.tr0 hs
 replace hb3 := hb3.tr0 hs
 replace hb5 := hb5.tr0 hs
 replace hb6 := hb6.tr0 hs
 replace hb8 := hb8.tr0 hs
 replace hBuX := hBuX.tr0 hs
 replace hb9 := hb9.tr0 hs
 clear hs
 clear hr
 refine wl_stW hb9 rfl rfl sz28_GTgt rfl oneA (fun w16 hq hs => ?_)
 replace hB := hB.tr1 hs lo9
 replace hb2 := hb2.tr1 hs om
 replace hb3 := hb3.tr1 hs om
 replace hb5 := hb5.tr1 hs om
 replace hb6 := hb6.tr1 hs om
 replace hb8 := hb8.tr1 hs om
 replace hBuX := hBuX.tr1 hs lo_hBuX_b9
 replace hb10 := hb10.tr1 hs om
 clear hs
 replace hb9 := hq
 refine wl_stW hb10 rfl rfl sz35_SFind rfl oneA (fun w17 hq hs => ?_)
 replace hB := hB.tr1 hs lo10
 replace hb2 := hb2.tr1 hs om
 replace hb3 := hb3.tr1 hs om
 replace hb5 := hb5.tr1 hs om
 replace hb6 := hb6.tr1 hs om
 replace hb8 := hb8.tr1 hs om
 replace hBuX := hBuX.tr1 hs lo_hBuX_b10
 replace hb9 := hb9.tr1 hs om
 clear hs
 replace hb10 := hq
 refine x_nil (e_S (c_seq (c_seq (c_region (wl (r_ldS U25 rfl rfl hb2.range0 sz25_SFind) ?_)))))
 refine wl (r_ldS U28 rfl rfl hb3.range0 sz28_GTgt) ?_
 refine wl_cl fn13 (gfau_any A B G c d cg l fs gr _ hcl hdl (hT.mono hB) (hF.mono hB) (hG1.mono hB)) rfl (fun e' w18 hr => ?_)
 obtain ⟨rfl, hs⟩ := hr
 replace hs := Same.of_bel hs
 replace hB := hB.tr0 hs
 replace hb2 := hb2.tr0 hs
 replace hb3 := hb3.tr0 hs
 replace hb5 := hb5.tr0 hs
 replace hb6 := hb6.tr0 hs
 replace hb8 := hb8.tr0 hs
 replace hBuX := hBuX.tr0 hs
 replace hb9 := hb9.tr0 hs
 replace hb10 := hb10.tr0 hs
 clear hs
 refine ⟨_, rfl, ?_⟩
 refine wl_al (cs := #[.int .i64 0, .int .i64 0]) ze35_SFind rfl (fun b11 w19 hb11 hs hr => ?_)
 have or_b2_b11 : b2 < b11 := nLL hb2.lt hr
 have or_b3_b11 : b3 < b11 := nLL hb3.lt hr
 have or_b5_b11 : b5 < b11 := nLL hb5.lt hr
 have or_b6_b11 : b6 < b11 := nLL hb6.lt hr
 have or_b8_b11 : b8 < b11 := nLL hb8.lt hr
 have or_b9_b11 : b9 < b11 := nLL hb9.lt hr
 have or_b10_b11 : b10 < b11 := nLL hb10.lt hr
 have lo11 := nLT (Bel.size hB) hr
 have lo_hBuX_b11 := nLT (Bel.size hBuX) hr
 replace hB := hB.tr0 hs
 replace hb2 := hb2.tr0 hs
 replace hb3 := hb3.tr0 hs
 replace hb5 := hb5.tr0 hs
 replace hb6 := hb6.tr0 hs
 replace hb8 := hb8.tr0 hs
 replace hBuX := hBuX.tr0 hs
 replace hb9 := hb9.tr0 hs
 replace hb10 := hb10.tr0 hs
 clear hs
 clear hr
 refine wl_stW hb11 rfl rfl sz35_SFind rfl oneA (fun w20 hq hs => ?_)
 replace hB := hB.tr1 hs lo11
 replace hb2 := hb2.tr1 hs om
 replace hb3 := hb3.tr1 hs om
 replace hb5 := hb5.tr1 hs om
 replace hb6 := hb6.tr1 hs om
 replace hb8 := hb8.tr1 hs om
 replace hBuX := hBuX.tr1 hs lo_hBuX_b11
 replace hb9 := hb9.tr1 hs om
 replace hb10 := hb10.tr1 hs om
 clear hs
 replace hb11 := hq
 refine x_nil (e_S (c_seq (c_region (wl (r_fa U35 sz3_GSearch dE rfl rfl rfl) (wl (r_ld1 (v := .int _ _) U3 rfl rfl (hb11.cell rfl)) ?_)))))
 refine wl (r_neq rfl rfl) (x_nil (e_S ?_))
 refine c_ifd rfl (fun c46 => ?_) (fun c46 => ?_)
 ·
  obtain ⟨rfl, rfl⟩ : fX = graphF l fs gr ∧ XX = [] := by
    rcases hSX with ⟨_, h1, h2⟩ | ⟨h1, _⟩
    · exact ⟨h1, h2⟩
    · exact absurd h1 c46
  refine c_seq (c_region (wl (r_ldS U35 rfl rfl hb8.range0 sz35_SFind) (wl (r_ldS U35 rfl rfl hb11.range0 sz35_SFind) (wl (r_eqF Tryd.eqGuardType35 ft35 Tryd.stoodInHeld35 fd35 U3 rfl rfl) (wl (r_mv (v := .bool true) (congrArg Value.bool (decide_eq_true ⟨rfl, rfl⟩))) ?_)))))
  refine wl_gd 50 rfl rfl (wl (r_ldS U35 rfl rfl hb10.range0 sz35_SFind) (wl_gd 50 rfl rfl (wl (r_ldS U35 rfl rfl hb11.range0 sz35_SFind) (wl_gd 50 rfl rfl (wl (r_eqF Tryd.eqGuardType35 ft35 Tryd.stoodInHeld35 fd35 U3 rfl rfl) ?_)))))
  refine wl (r_pt (v := .bool _) rfl rfl) (wl (r_mv (v := .bool true) (congrArg Value.bool (decide_eq_true ⟨rfl, rfl⟩))) (wl_gd 55 rfl rfl (wmB rfl (wl_gd 55 rfl rfl (wl (r_not rfl) ?_)))))
  refine wl (r_pt (v := .bool _) rfl rfl) (wl (r_mv (v := .bool true) (congrArg Value.bool (by rw [totG_no c46]; rfl))) (wl_gd 59 rfl rfl (wl (r_fa U28 sz26_GTgt dE rfl rfl rfl) (wl_gd 59 rfl rfl (wl (r_ld1 (v := .slice _ _ _) U26 rfl rfl (hb9.cell rfl)) ?_)))))
  refine wl_gd 59 rfl rfl (wl (r_len U26 rfl) (wl_gd 59 rfl rfl (wl (r_eql rfl rfl) (wl (r_pt (v := .bool _) rfl rfl) (wl (r_as (v := .bool true) (congrArg Value.bool (decide_eq_true rfl))) ?_)))))
  refine x_nil (e_S (c_ret (e_Sr (fin1 (.inl rfl) rfl rfl ?_))))
  exact ⟨rfl, hB⟩
 have h0 := Decidable.not_not.1 c46
 have hva := gv_of h0
 refine c_skip (e_S (c_seq (c_region (wl (r_ldS U25 rfl rfl hb2.range0 sz25_SFind) (wl (r_ldS U28 rfl rfl hb3.range0 sz28_GTgt) ?_)))))
 refine wl_cl fn22 (filled_any A B G c d cg l fs gr _ (hT.mono hB) (hF.mono hB) (hG1.mono hB) h0) rfl (fun e' w21 hr => ?_)
 obtain ⟨⟨AY, XY, cY, okY, rfl, hNY, hSY⟩, hs⟩ := hr
 replace hs := Same.of_bel hs
 replace hB := hB.tr0 hs
 replace hb2 := hb2.tr0 hs
 replace hb3 := hb3.tr0 hs
 replace hb5 := hb5.tr0 hs
 replace hb6 := hb6.tr0 hs
 replace hb8 := hb8.tr0 hs
 replace hBuX := hBuX.tr0 hs
 replace hb9 := hb9.tr0 hs
 replace hb10 := hb10.tr0 hs
 replace hb11 := hb11.tr0 hs
 clear hs
 replace hNY := hNY w21 (FrSame.refl _ _)
 have hBuY : Bel w21 w21 := Below.refl _ _
 obtain ⟨hft, hff⟩ := fill_two h0 hSX hSY
 refine ⟨_, rfl, ?_⟩
 refine wmT rfl (wl (r_ex (v := _) rfl rfl) (wl (r_ex (v := _) rfl rfl) ?_))
 refine wl_al (cs := #[.slice none 0 0]) ze28_GTgt rfl (fun b12 w22 hb12 hs hr => ?_)
 have or_b2_b12 : b2 < b12 := nLL hb2.lt hr
 have or_b3_b12 : b3 < b12 := nLL hb3.lt hr
 have or_b5_b12 : b5 < b12 := nLL hb5.lt hr
 have or_b6_b12 : b6 < b12 := nLL hb6.lt hr
 have or_b8_b12 : b8 < b12 := nLL hb8.lt hr
 have or_b9_b12 : b9 < b12 := nLL hb9.lt hr
 have or_b10_b12 : b10 < b12 := nLL hb10.lt hr
 have or_b11_b12 : b11 < b12 := nLL hb11.lt hr
 have lo12 := nLT (Bel.size hB) hr
 have lo_hBuX_b12 := nLT (Bel.size hBuX) hr
 have lo_hBuY_b12 := nLT (Bel.size hBuY) hr
 replace hB := hB.tr0 hs
 replace hb2 := hb2.tr0 hs
 replace hb3 := hb3.tr0 hs
 replace hb5 := hb5.tr0 hs
 replace hb6 := hb6.tr0 hs
 replace hb8 := hb8.tr0 hs
 replace hBuX := hBuX.tr0 hs
 replace hb9 := hb9.tr0 hs
 replace hb10 := hb10.tr0 hs
 replace hb11 := hb11.tr0 hs
 replace hBuY := hBuY.tr0 hs
 clear hs
 clear hr
 refine wl_stW hb12 rfl rfl sz28_GTgt rfl oneA (fun w23 hq hs => ?_)
 replace hB := hB.tr1 hs lo12
 replace hb2 := hb2.tr1 hs om
 replace hb3 := hb3.tr1 hs om
 replace hb5 := hb5.tr1 hs om
 replace hb6 := hb6.tr1 hs om
 replace hb8 := hb8.tr1 hs om
 replace hBuX := hBuX.tr1 hs lo_hBuX_b12
 replace hb9 := hb9.tr1 hs om
 replace hb10 := hb10.tr1 hs om
 replace hb11 := hb11.tr1 hs om
 replace hBuY := hBuY.tr1 hs lo_hBuY_b12
 clear hs
 replace hb12 := hq
 refine waB rfl (x_nil (e_S (c_seq (c_seq (c_region ?_)))))
 refine wmB rfl (wl (r_not rfl) (x_nil (e_S ?_)))
 refine c_if rfl (fun c72 => ?_) (fun c72 => ?_)
 ·
  obtain ⟨rfl, rfl, hnt⟩ := hff (by simpa using c72)
  refine c_seq (c_region (wl (r_fa U35 sz3_GSearch dE rfl rfl rfl) (wl (r_ld1 (v := .int _ _) U3 rfl rfl (hb8.cell rfl)) (wl (r_eql rfl rfl) (wl (r_mv (v := .bool true) (congrArg Value.bool (decide_eq_true h0))) ?_)))))
  refine wl_gd 76 rfl rfl (wmB rfl (wl_gd 76 rfl rfl (wl (r_not rfl) (wl (r_pt (v := .bool _) rfl rfl) (wl (r_mv (v := .bool true) (congrArg Value.bool (by rw [totG_yes h0, totB_no hnt]; rfl))) ?_)))))
  refine wl_gd 80 rfl rfl (wl (r_ldS U35 rfl rfl hb10.range0 sz35_SFind) (wl_gd 80 rfl rfl (wl (r_bd2 (v0 := .int _ _) (v1 := .int _ _) (fun v0 v1 => #[v0, v1]) rfl rfl kR) (wl_gd 80 rfl rfl (wl (r_eqF Tryd.eqGuardType35 ft35 Tryd.stoodInHeld35 fd35 U3 rfl rfl) ?_)))))
  refine wl (r_pt (v := .bool _) rfl rfl) (wl (r_mv (v := .bool true) (congrArg Value.bool (decide_eq_true ⟨rfl, rfl⟩))) (wl_gd 85 rfl rfl (wl (r_fa U28 sz26_GTgt dE rfl rfl rfl) (wl_gd 85 rfl rfl (wl (r_ld1 (v := .slice _ _ _) U26 rfl rfl (hb9.cell rfl)) ?_)))))
  refine wl_gd 85 rfl rfl (wl (r_len U26 rfl) (wl_gd 85 rfl rfl (wl (r_eql rfl rfl) (wl (r_pt (v := .bool _) rfl rfl) (wl (r_as (v := .bool true) (congrArg Value.bool (decide_eq_true rfl))) ?_)))))
  refine x_nil (e_S (c_ret (e_Sr (fin1 (.inl rfl) rfl rfl ?_))))
  exact ⟨rfl, hB⟩
 obtain ⟨hf0, hXY⟩ := hft (by simpa using c72)
 have hbb : (totG l fs gr == totB l fs gr) = true := by rw [totG_yes h0]; exact beq_self_eq_true _
 refine c_skip (e_S (c_seq (c_region (wl (r_fa U35 sz3_GSearch dE rfl rfl rfl) (wl (r_ld1 (v := .int _ _) U3 rfl rfl (hb8.cell rfl)) ?_)))))
 refine wl (r_eql rfl rfl) (wl (r_mv (v := .bool true) (congrArg Value.bool (decide_eq_true h0))) (wl_gd 94 rfl rfl (wmB rfl (wl_gd 94 rfl rfl (wl (r_ldS U25 rfl rfl hb2.range0 sz25_SFind) ?_)))))
 refine wl_gd 94 rfl rfl (wl (r_ldS U28 rfl rfl hb3.range0 sz28_GTgt) (wl_gd 94 rfl rfl ?_))
 refine wl_cl fn23 (itot_any A B G c d cg l fs gr _ (hT.mono hB) (hF.mono hB) (hG1.mono hB) hva) rfl (fun e' w24 hr => ?_)
 obtain ⟨rfl, hs⟩ := hr
 replace hs := Same.of_bel hs
 replace hB := hB.tr0 hs
 replace hb2 := hb2.tr0 hs
 replace hb3 := hb3.tr0 hs
 replace hb5 := hb5.tr0 hs
 replace hb6 := hb6.tr0 hs
 replace hb8 := hb8.tr0 hs
 replace hBuX := hBuX.tr0 hs
 replace hb9 := hb9.tr0 hs
 replace hb10 := hb10.tr0 hs
 replace hb11 := hb11.tr0 hs
 replace hBuY := hBuY.tr0 hs
 replace hb12 := hb12.tr0 hs
 clear hs
 refine ⟨_, rfl, ?_⟩
 refine wl_gd 94 rfl rfl (wl (r_eqlB U4 rfl rfl) (wl (r_pt (v := .bool _) rfl rfl) (wl (r_mv (v := .bool true) (congrArg Value.bool hbb)) (wl_gd 101 rfl rfl (wl (r_fa U35 sz3_GSearch dE rfl rfl rfl) ?_)))))
 refine wl_gd 101 rfl rfl (wl (r_ld1 (v := .int _ _) U3 rfl rfl (hb10.cell rfl)) (wl_gd 101 rfl rfl (wl (r_eql rfl rfl) (wl (r_pt (v := .bool _) rfl rfl) (wl (r_mv (v := .bool true) (congrArg Value.bool (decide_eq_true (by rw [hf0])))) ?_)))))
 refine wl_gd 106 rfl rfl (wl (r_ldS U28 rfl rfl hb9.range0 sz28_GTgt) (wl_gd 106 rfl rfl (wl (r_ldS U28 rfl rfl hb12.range0 sz28_GTgt) (wl_gd 106 rfl rfl ?_))))
 refine wl_cl fn24_WLaw20 (nodesb_any AX AY _ _ cX cY XX XY true _ (hNX.mono hBuX) (hNY.mono hBuY) rfl rfl (decide_eq_true hXY)) rfl (fun e' w25 hr => ?_)
 obtain ⟨rfl, hs⟩ := hr
 replace hs := Same.of_bel hs
 replace hB := hB.tr0 hs
 replace hb2 := hb2.tr0 hs
 replace hb3 := hb3.tr0 hs
 replace hb5 := hb5.tr0 hs
 replace hb6 := hb6.tr0 hs
 replace hb8 := hb8.tr0 hs
 replace hBuX := hBuX.tr0 hs
 replace hb9 := hb9.tr0 hs
 replace hb10 := hb10.tr0 hs
 replace hb11 := hb11.tr0 hs
 replace hBuY := hBuY.tr0 hs
 replace hb12 := hb12.tr0 hs
 clear hs
 refine ⟨_, rfl, ?_⟩
 refine wl (r_pt (v := .bool _) rfl rfl) (waB rfl (x_nil (e_S (c_ret (fin1 (.inl rfl) rfl rfl ?_)))))
 exact ⟨rfl, hB⟩
end Go.Proofs.YtegngekpmpdngaaDoor
namespace Go.Proofs.YtegngekpmpdngaaDoor
open Go.RowKit Go.ChangeShapes Go.WideShapes Go.Deep Go.Joins
section
variable {H : Type} {enc : TypeId × Value → H} {P : Program} {w : World} {base : Nat} {spare : Nat → Bool} {held : Bool}
theorem links_open {t e ti : TypeId} {f0 f1 : Field} {fuel : Nat} {v : Value} {x : DataW H × List MemPlace} (ht : P.underlying t = some (.slice e)) (he : P.underlying e = some (.struct #[f0, f1])) (hsz : P.cellsOf e = 2) (o0 : f0.offset = 0) (o1 : f1.offset = 1) (e0 : f0.type = ti) (e1 : f1.type = ti)
    (hi : P.underlying ti = some (.int .i64)) (hc1 : P.cellsOf ti = 1) (h : DataW.trod enc P w base spare held fuel t [v] = some x) :
    ∃ A xs c, v = .slice A (List.length xs) c ∧ xs.length ≤ c ∧ LinksIn w A xs := by
  obtain ⟨A, len, c, rfl, hl, hm, hx⟩ := sl_open ht hsz dE h
  by_cases h0 : len = 0
  · subst h0
    exact ⟨A, [], c, rfl, Nat.zero_le _, Nat.zero_le _, fun h => absurd rfl h⟩
  · obtain ⟨b, o, rfl, hlt, hc⟩ := hx h0
    obtain ⟨xs, hxl, hxs⟩ := choose_list (p := fun i (z : Int × Int) => w.rangeAt b (o + i * 2) [.int .i64 z.1, .int .i64 z.2]) (n := len) (fun i hi' => by
      obtain ⟨cs, k, y, h1, h2, h3⟩ := hc i hi'
      obtain ⟨v0, v1, n, y0, y1, rfl, g0, g1⟩ := two_cells he h1 o0 o1 (by rw [e0]; exact hc1) (by rw [e1]; exact hc1) h3
      rw [e0] at g0
      rw [e1] at g1
      obtain ⟨z1, h5, _, _⟩ := DataW.trod_int hi g0
      obtain ⟨z2, h6, _, _⟩ := DataW.trod_int hi g1
      rw [one_val h5, one_val h6] at h2
      exact ⟨(z1, z2), h2⟩)
    subst hxl
    exact ⟨_, xs, c, rfl, hl, nLT hl hm, fun _ => ⟨b, o, rfl, hlt, hxs⟩⟩
theorem nodes_open {t e ti tl te : TypeId} {f0 f1 g0 g1 : Field} {fuel : Nat} {v : Value} {x : DataW H × List MemPlace} (ht : P.underlying t = some (.slice e)) (he : P.underlying e = some (.struct #[f0, f1])) (hsz : P.cellsOf e = 2) (o0 : f0.offset = 0) (o1 : f1.offset = 1) (e0 : f0.type = ti) (e1 : f1.type = tl)
    (htl : P.underlying tl = some (.slice te)) (hte : P.underlying te = some (.struct #[g0, g1])) (hst : P.cellsOf te = 2) (p0 : g0.offset = 0) (p1 : g1.offset = 1) (d0 : g0.type = ti) (d1 : g1.type = ti) (hcl : P.cellsOf tl = 1)
    (hi : P.underlying ti = some (.int .i64)) (hc1 : P.cellsOf ti = 1) (h : DataW.trod enc P w base spare held fuel t [v] = some x) :
    ∃ A gr c, v = .slice A (List.length gr) c ∧ gr.length ≤ c ∧ NodesIn w A gr := by
  obtain ⟨A, len, c, rfl, hl, hm, hx⟩ := sl_open ht hsz dE h
  by_cases h0 : len = 0
  · subst h0
    exact ⟨A, [], c, rfl, Nat.zero_le _, Nat.zero_le _, fun h => absurd rfl h⟩
  · obtain ⟨b, o, rfl, hlt, hc⟩ := hx h0
    obtain ⟨gr, hxl, hxs⟩ := choose_list (p := fun i (z : Nd) => NdIn w b (o + i * 2) z) (n := len) (fun i hi' => by
      obtain ⟨cs, k, y, h1, h2, h3⟩ := hc i hi'
      obtain ⟨v0, v1, n, y0, y1, rfl, q0, q1⟩ := two_cells he h1 o0 o1 (by rw [e0]; exact hc1) (by rw [e1]; exact hcl) h3
      rw [e0] at q0
      rw [e1] at q1
      obtain ⟨z1, h5, _, _⟩ := DataW.trod_int hi q0
      obtain ⟨A', xs, c', rfl, _, hin⟩ := links_open htl hte hst p0 p1 d0 d1 hi hc1 q1
      rw [one_val h5] at h2
      exact ⟨⟨z1, xs⟩, A', c', h2, hin⟩)
    subst hxl
    exact ⟨_, gr, c, rfl, hl, nLT hl hm, fun _ => ⟨b, o, rfl, hlt, hxs⟩⟩
end
end Go.Proofs.YtegngekpmpdngaaDoor
