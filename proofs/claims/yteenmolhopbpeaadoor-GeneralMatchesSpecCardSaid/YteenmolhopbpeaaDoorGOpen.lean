/- What these functions of the program compute, at every world: glosswright/glosswrightlaw3.GeneralMatchesSpec. Arguments opened: graphs. -/
import Derived.Test.YteenmolhopbpeaaDoorU
import Derived.Test.YteenmolhopbpeaaDoorGenD
import Derived.Test.YteenmolhopbpeaaDoorRGen
import Derived.Test.YteenmolhopbpeaaDoorTypes
import Derived.Test.YteenmolhopbpeaaDoorGraph
namespace Go.Proofs.YteenmolhopbpeaaDoor
open Go.RowKit
theorem gensl_any {w : World} {A B G1 G2 : Option Addr} (hTab : TabIn w) (hT : TypesIn w A pairT) (hF : FeatsIn w B pairF) (hG1 : NodesIn w G1 sharedG) (hG2 : NodesIn w G2 linkG) : Calls Tryd.prog 5 #[.agg #[.slice A 4 4, .slice B 2 2], .agg #[.slice G1 2 2], .agg #[.slice G2 2 2]] w fun e w' => (∃ (GA : Option Addr) (cA : Nat), e = .returned (.tuple #[.agg #[.slice GA 2 cA], .agg #[.int .i64 0, .int .i64 0]]) ∧ NodesIn w' GA [⟨1, [(0, 1)]⟩, ⟨0, []⟩]) ∧ Bel w w' := by
  refine (gen_any A B G1 G2 4 2 2 2 pairT pairF sharedG linkG w hTab hT hF hG1 hG2).mono fun e w' h => ?_
  obtain ⟨⟨GA, X, cX, f, he, hN, hS⟩, hs⟩ := h
  obtain ⟨rfl, rfl⟩ := sl_gen hS
  exact ⟨⟨GA, cX, he, hN _ (FrSame.refl _ _)⟩, hs⟩
theorem gens_det {l : List Ty} {fs : List Ft} {ga gb X Y : List Nd} {f f2 : Fl} (h : GenS l fs ga gb f X) (k : GenS l fs ga gb f2 Y) : f2 = f ∧ Y = X := by
  rcases h with ⟨h0, rfl, rfl⟩ | ⟨h0, o, hD, hg, h⟩
  · rcases k with ⟨_, rfl, rfl⟩ | ⟨k0, _⟩
    · exact ⟨rfl, rfl⟩
    · exact absurd k0 h0
  · rcases k with ⟨k0, _⟩ | ⟨_, o2, kD, kg, k⟩
    · exact absurd h0 k0
    · have e := kD.det hD
      subst e
      have e2 : f2 = f := kg.trans hg.symm
      subst e2
      rcases h with ⟨h1, rfl⟩ | ⟨h1, rfl⟩
      · rcases k with ⟨_, rfl⟩ | ⟨k1, _⟩
        · exact ⟨rfl, rfl⟩
        · exact absurd k1 h1
      · rcases k with ⟨k1, _⟩ | ⟨_, rfl⟩
        · exact absurd h1 k1
        · exact ⟨rfl, rfl⟩
theorem fd30 : (Tryd.prog.fieldsOf 30).toList.map (fun f => (f.name == "_", f.type, f.offset)) = [(false, 3, 0), (false, 3, 1)] := by kernel_rfl
theorem fn10 : callable Tryd.prog 10 = true := by kernel_rfl
theorem fn5_ULawM : callable Tryd.prog 5 = true := by kernel_rfl
theorem fn6_ULawM : callable Tryd.prog 6 = true := by kernel_rfl
theorem fn7_ULawM : callable Tryd.prog 7 = true := by kernel_rfl
theorem fn8_ULawM : callable Tryd.prog 8 = true := by kernel_rfl
theorem fn9 : callable Tryd.prog 9 = true := by kernel_rfl
theorem ft30 : Tryd.prog.underlying 30 = some (.struct (Tryd.prog.fieldsOf 30)) := by kernel_rfl
set_option maxRecDepth 100000 in
set_option maxHeartbeats 8000000 in
theorem law13_any (A B G1 G2 : Option Addr) (c d c1 c2 : Nat) (l : List Ty) (fs : List Ft) (ga gb : List Nd) (w : World) (hTab : TabIn w) (hcl : l.length ≤ c) (hdl : fs.length ≤ d) (hT : TypesIn w A l) (hF : FeatsIn w B fs) (hG1 : NodesIn w G1 ga) (hG2 : NodesIn w G2 gb) : Calls Tryd.prog 3 #[.agg #[.slice A l.length c, .slice B fs.length d], .agg #[.slice G1 ga.length c1], .agg #[.slice G2 gb.length c2]] w fun e w' => e = .returned (.bool true) ∧ Bel w w' := by
 refine enter Tryd.func3 Tryd.ntmps3 rfl (Nat.le_of_ble_eq_true rfl) ?_
 have hB : Bel w w := Below.refl _ _
 refine c_seq (c_region ?_)
 refine wl_bx (v := .agg #[_, _]) (cs := #[_, _]) rfl rfl (fun b3 w1 hb3 hs hr => ?_)
 have lo3 := nLT (Bel.size hB) hr
 replace hB := hB.tr0 hs
 clear hs
 clear hr
 refine wl_bx (v := .agg #[_]) (cs := #[_]) rfl rfl (fun b4 w2 hb4 hs hr => ?_)
 have or_b3_b4 : b3 < b4 := nLL hb3.lt hr
 have lo4 := nLT (Bel.size hB) hr
 replace hB := hB.tr0 hs
 replace hb3 := hb3.tr0 hs
 clear hs
 clear hr
 refine wl_bx (v := .agg #[_]) (cs := #[_]) rfl rfl (fun b5 w3 hb5 hs hr => ?_)
 have or_b3_b5 : b3 < b5 := nLL hb3.lt hr
 have or_b4_b5 : b4 < b5 := nLL hb4.lt hr
 have lo5 := nLT (Bel.size hB) hr
 replace hB := hB.tr0 hs
 replace hb3 := hb3.tr0 hs
 replace hb4 := hb4.tr0 hs
 clear hs
 clear hr
 refine waB rfl (x_nil (e_S (c_seq (c_seq (c_region ?_)))))
 refine wl_cl fn6_ULawM (pair_any _) rfl (fun e' w4 hr => ?_)
 obtain ⟨⟨Ap, Bp, rfl, hTp, hFp⟩, hs⟩ := hr
 replace hs := Same.of_bel hs
 replace hB := hB.tr0 hs
 replace hb3 := hb3.tr0 hs
 replace hb4 := hb4.tr0 hs
 replace hb5 := hb5.tr0 hs
 clear hs
 have hB0 : Bel w4 w4 := Below.refl _ _
 refine ⟨_, rfl, ?_⟩
 refine wl_cl fn7_ULawM (shared_any _) rfl (fun e' w5 hr => ?_)
 obtain ⟨⟨Gb, rfl, hGb⟩, hs⟩ := hr
 replace hs := Same.of_bel hs
 replace hB := hB.tr0 hs
 replace hb3 := hb3.tr0 hs
 replace hb4 := hb4.tr0 hs
 replace hb5 := hb5.tr0 hs
 replace hB0 := hB0.tr0 hs
 clear hs
 have hB1 : Bel w5 w5 := Below.refl _ _
 refine ⟨_, rfl, ?_⟩
 refine wl (r_bd2 (v0 := .int _ _) (v1 := .int _ _) (fun v0 v1 => #[v0, v1]) rfl rfl kR) ?_
 refine wl_bs (cs := #[_, _]) [(0, .agg _)] rfl U37 sz36_GSearch ze36_GenV dE dE kR rfl (fun b18 w6 hb18 hs hr => ?_)
 have or_b3_b18 : b3 < b18 := nLL hb3.lt hr
 have or_b4_b18 : b4 < b18 := nLL hb4.lt hr
 have or_b5_b18 : b5 < b18 := nLL hb5.lt hr
 have lo18 := nLT (Bel.size hB) hr
 have lo_hB0_b18 := nLT (Bel.size hB0) hr
 have lo_hB1_b18 := nLT (Bel.size hB1) hr
 replace hB := hB.tr0 hs
 replace hb3 := hb3.tr0 hs
 replace hb4 := hb4.tr0 hs
 replace hb5 := hb5.tr0 hs
 replace hB0 := hB0.tr0 hs
 replace hB1 := hB1.tr0 hs
 clear hs
 clear hr
 refine wl (r_bd2 (v0 := .int _ _) (v1 := .slice _ _ _) (fun v0 v1 => #[v0, v1]) rfl rfl kR) (wl (r_bd1 (v0 := .int _ _) (fun v0 => #[v0, .slice none 0 0]) rfl kR) ?_)
 refine wl_bs (cs := #[_, _, _, _]) [(0, .agg _), (1, .agg _)] rfl U26 sz39_GTgt ze39_GenV dE dE kR rfl (fun b21 w7 hb21 hs hr => ?_)
 have or_b3_b21 : b3 < b21 := nLL hb3.lt hr
 have or_b4_b21 : b4 < b21 := nLL hb4.lt hr
 have or_b5_b21 : b5 < b21 := nLL hb5.lt hr
 have or_b18_b21 : b18 < b21 := nLL hb18.lt hr
 have lo21 := nLT (Bel.size hB) hr
 have lo_hB0_b21 := nLT (Bel.size hB0) hr
 have lo_hB1_b21 := nLT (Bel.size hB1) hr
 replace hB := hB.tr0 hs
 replace hb3 := hb3.tr0 hs
 replace hb4 := hb4.tr0 hs
 replace hb5 := hb5.tr0 hs
 replace hB0 := hB0.tr0 hs
 replace hB1 := hB1.tr0 hs
 replace hb18 := hb18.tr0 hs
 clear hs
 clear hr
 refine wl (r_bd1 (v0 := .slice _ _ _) (fun v0 => #[v0]) rfl kR) ?_
 refine wl_cl fn5_ULawM (gensl_any (hTab.mono hB) (hTp.mono hB0) (hFp.mono hB0) (hGb.mono hB1) (nodes_of_blk (l := linkG) hb21 (.cons (links_of_blk [(0, 1)] hb18 rfl dE) (.cons (links_nil _ _) .nil)) dE)) rfl (fun e' w8 hr => ?_)
 obtain ⟨⟨GW, cW, rfl, hGW⟩, hs⟩ := hr
 replace hs := Same.of_bel hs
 replace hB := hB.tr0 hs
 replace hb3 := hb3.tr0 hs
 replace hb4 := hb4.tr0 hs
 replace hb5 := hb5.tr0 hs
 replace hB0 := hB0.tr0 hs
 replace hB1 := hB1.tr0 hs
 replace hb18 := hb18.tr0 hs
 replace hb21 := hb21.tr0 hs
 clear hs
 have hBW : Bel w8 w8 := Below.refl _ _
 refine ⟨_, rfl, ?_⟩
 refine wmT rfl (wl (r_ex (v := _) rfl rfl) (wl (r_ex (v := _) rfl rfl) ?_))
 refine wl_al (cs := #[.slice none 0 0]) ze28_GenZ rfl (fun b7 w9 hb7 hs hr => ?_)
 have or_b3_b7 : b3 < b7 := nLL hb3.lt hr
 have or_b4_b7 : b4 < b7 := nLL hb4.lt hr
 have or_b5_b7 : b5 < b7 := nLL hb5.lt hr
 have lo7 := nLT (Bel.size hB) hr
 have lo_hBW_b7 := nLT (Bel.size hBW) hr
 replace hB := hB.tr0 hs
 replace hb3 := hb3.tr0 hs
 replace hb4 := hb4.tr0 hs
 replace hb5 := hb5.tr0 hs
 replace hBW := hBW.tr0 hs
 clear hs
 clear hr
 refine wl_al (cs := #[.int .i64 0, .int .i64 0]) ze30_GenV rfl (fun b8 w10 hb8 hs hr => ?_)
 have or_b3_b8 : b3 < b8 := nLL hb3.lt hr
 have or_b4_b8 : b4 < b8 := nLL hb4.lt hr
 have or_b5_b8 : b5 < b8 := nLL hb5.lt hr
 have or_b7_b8 : b7 < b8 := nLL hb7.lt hr
 have lo8 := nLT (Bel.size hB) hr
 have lo_hBW_b8 := nLT (Bel.size hBW) hr
 replace hB := hB.tr0 hs
 replace hb3 := hb3.tr0 hs
 replace hb4 := hb4.tr0 hs
 replace hb5 := hb5.tr0 hs
 replace hBW := hBW.tr0 hs
 replace hb7 := hb7.tr0 hs
 clear hs
 clear hr
 refine wl_stW hb7 rfl rfl sz28_GenV rfl oneA (fun w11 hq hs => ?_)
 replace hB := hB.tr1 hs lo7
 replace hb3 := hb3.tr1 hs om
 replace hb4 := hb4.tr1 hs om
 replace hb5 := hb5.tr1 hs om
 replace hBW := hBW.tr1 hs lo_hBW_b7
 replace hb8 := hb8.tr1 hs om
 clear hs
 replace hb7 := hq
 refine wl_stW hb8 rfl rfl sz30_GenV rfl oneA (fun w12 hq hs => ?_)
 replace hB := hB.tr1 hs lo8
 replace hb3 := hb3.tr1 hs om
 replace hb4 := hb4.tr1 hs om
 replace hb5 := hb5.tr1 hs om
 replace hBW := hBW.tr1 hs lo_hBW_b8
 replace hb7 := hb7.tr1 hs om
 clear hs
 replace hb8 := hq
 refine x_nil (e_S (c_seq ?_))
 obtain ⟨nb, no, LA, lc, rfl, hnb, hn0, _⟩ := hGW.at_ (Below.refl _ _) (k := 0) dE
 obtain ⟨nb1, no1, LA1, lc1, e1, _, hn1, _⟩ := hGW.at_ (Below.refl _ _) (k := 1) dE
 cases e1
 refine c_region (wl (r_fa U30 sz3_Least dE rfl rfl rfl) (wl (r_ld1 (v := .int _ _) U3 rfl rfl (hb8.cell rfl)) (wl (r_neq rfl rfl) (wl (r_mv (v := .bool false) (congrArg Value.bool (decide_eq_false (fun h => h rfl)))) (wl_gd 29 rfl rfl ?_)))))
 refine wl (r_fa U28 sz26_GTgt dE rfl rfl rfl) (wl_gd 29 rfl rfl (wl (r_ld1 (v := .slice _ _ _) U26 rfl rfl (hb7.cell rfl)) (wl_gd 29 rfl rfl (wl (r_len U26 rfl) (wl_gd 29 rfl rfl ?_)))))
 refine wl (r_neq rfl rfl) (wl (r_pf (v := .bool _) rfl rfl) (wl (r_mv (v := .bool false) (congrArg Value.bool (decide_eq_false (fun h => h rfl)))) (wl_gd 35 rfl rfl (wl (r_fa U28 sz26_GTgt dE rfl rfl rfl) (wl_gd 35 rfl rfl ?_)))))
 refine wl (r_ld1 (v := .slice _ _ _) U26 rfl rfl (hb7.cell rfl)) (wl_gd 35 rfl rfl (wl (r_ia (i := 0) U26 sz39_GTgt rfl rfl om rfl) (wl_gd 35 rfl rfl (wl (r_fa U39 sz3_Least dE rfl rfl rfl) (wl_gd 35 rfl rfl ?_)))))
 refine wl (r_ld1 (v := .int _ _) U3 rfl rfl (hBW.cell hnb (hn0 0 _ rfl))) (wl_gd 35 rfl rfl (wl (r_neq rfl rfl) (wl (r_pf (v := .bool _) rfl rfl) (wl (r_mv (v := .bool false) (congrArg Value.bool (decide_eq_false (fun h => h rfl)))) (wl_gd 43 rfl rfl ?_)))))
 refine wl (r_fa U28 sz26_GTgt dE rfl rfl rfl) (wl_gd 43 rfl rfl (wl (r_ld1 (v := .slice _ _ _) U26 rfl rfl (hb7.cell rfl)) (wl_gd 43 rfl rfl (wl (r_ia (i := 1) U26 sz39_GTgt rfl rfl om rfl) (wl_gd 43 rfl rfl ?_)))))
 refine wl (r_fa U39 sz3_Least dE rfl rfl rfl) (wl_gd 43 rfl rfl (wl (r_ld1 (v := .int _ _) U3 rfl rfl (hBW.cell hnb (hn1 0 _ rfl))) (wl_gd 43 rfl rfl (wl (r_neq rfl rfl) (wl (r_pf (v := .bool _) rfl rfl) ?_)))))
 refine x_nil (e_S ?_)
 refine c_ifd rfl (fun c50 => ?_) (fun c50 => ?_)
 ·
  exact absurd rfl c50
 refine c_skip (e_S (c_seq (c_region (wl (r_ldS U25 rfl rfl hb3.range0 sz25_GenZ) (wl (r_ldS U28 rfl rfl hb4.range0 sz28_GenV) ?_)))))
 refine wl (r_ldS U28 rfl rfl hb5.range0 sz28_GenV) ?_
 refine wl_cl fn5_ULawM (gen_any A B G1 G2 c d c1 c2 l fs ga gb _ (hTab.mono hB) (hT.mono hB) (hF.mono hB) (hG1.mono hB) (hG2.mono hB)) rfl (fun e' w13 hr => ?_)
 obtain ⟨⟨AX, XX, cX, fX, rfl, hNX, hSX⟩, hs⟩ := hr
 replace hs := Same.of_bel hs
 replace hB := hB.tr0 hs
 replace hb3 := hb3.tr0 hs
 replace hb4 := hb4.tr0 hs
 replace hb5 := hb5.tr0 hs
 replace hBW := hBW.tr0 hs
 replace hb7 := hb7.tr0 hs
 replace hb8 := hb8.tr0 hs
 clear hs
 replace hNX := hNX w13 (FrSame.refl _ _)
 have hBuX : Bel w13 w13 := Below.refl _ _
 refine ⟨_, rfl, ?_⟩
 refine wmT rfl (wl (r_ex (v := _) rfl rfl) (wl (r_ex (v := _) rfl rfl) ?_))
 refine wl_al (cs := #[.slice none 0 0]) ze28_GenZ rfl (fun b9 w14 hb9 hs hr => ?_)
 have or_b3_b9 : b3 < b9 := nLL hb3.lt hr
 have or_b4_b9 : b4 < b9 := nLL hb4.lt hr
 have or_b5_b9 : b5 < b9 := nLL hb5.lt hr
 have or_b7_b9 : b7 < b9 := nLL hb7.lt hr
 have or_b8_b9 : b8 < b9 := nLL hb8.lt hr
 have lo9 := nLT (Bel.size hB) hr
 have lo_hBW_b9 := nLT (Bel.size hBW) hr
 have lo_hBuX_b9 := nLT (Bel.size hBuX) hr
 replace hB := hB.tr0 hs
 replace hb3 := hb3.tr0 hs
 replace hb4 := hb4.tr0 hs
 replace hb5 := hb5.tr0 hs
 replace hBW := hBW.tr0 hs
 replace hb7 := hb7.tr0 hs
 replace hb8 := hb8.tr0 hs
 replace hBuX := hBuX.tr0 hs
 clear hs
 clear hr
 refine wl_al (cs := #[.int .i64 0, .int .i64 0]) ze30_GenV rfl (fun b10 w15 hb10 hs hr => ?_)
 have or_b3_b10 : b3 < b10 := nLL hb3.lt hr
 have or_b4_b10 : b4 < b10 := nLL hb4.lt hr
 have or_b5_b10 : b5 < b10 := nLL hb5.lt hr
 have or_b7_b10 : b7 < b10 := nLL hb7.lt hr
 have or_b8_b10 : b8 < b10 := nLL hb8.lt hr
 have or_b9_b10 : b9 < b10 := nLL hb9.lt hr
 have lo10 := nLT (Bel.size hB) hr
 have lo_hBW_b10 := nLT (Bel.size hBW) hr
 have lo_hBuX_b10 := nLT (Bel.size hBuX) hr
 replace hB := hB.tr0 hs
 replace hb3 := hb3.tr0 hs
 replace hb4 := hb4.tr0 hs
 replace hb5 := hb5.tr0 hs
 replace hBW := hBW.tr0 hs
 replace hb7 := hb7.tr0 hs
 replace hb8 := hb8.tr0 hs
 replace hBuX := hBuX.tr0 hs
 replace hb9 := hb9.tr0 hs
 clear hs
 clear hr
 refine wl_stW hb9 rfl rfl sz28_GenV rfl oneA (fun w16 hq hs => ?_)
 replace hB := hB.tr1 hs lo9
 replace hb3 := hb3.tr1 hs om
 replace hb4 := hb4.tr1 hs om
 replace hb5 := hb5.tr1 hs om
 replace hBW := hBW.tr1 hs lo_hBW_b9
 replace hb7 := hb7.tr1 hs om
 replace hb8 := hb8.tr1 hs om
 replace hBuX := hBuX.tr1 hs lo_hBuX_b9
 replace hb10 := hb10.tr1 hs om
 clear hs
 replace hb9 := hq
 refine wl_stW hb10 rfl rfl sz30_GenV rfl oneA (fun w17 hq hs => ?_)
 replace hB := hB.tr1 hs lo10
 replace hb3 := hb3.tr1 hs om
 replace hb4 := hb4.tr1 hs om
 replace hb5 := hb5.tr1 hs om
 replace hBW := hBW.tr1 hs lo_hBW_b10
 replace hb7 := hb7.tr1 hs om
 replace hb8 := hb8.tr1 hs om
 replace hBuX := hBuX.tr1 hs lo_hBuX_b10
 replace hb9 := hb9.tr1 hs om
 clear hs
 replace hb10 := hq
 refine x_nil (e_S (c_seq (c_seq (c_region (wl (r_ldS U25 rfl rfl hb3.range0 sz25_GenZ) ?_)))))
 refine wl (r_ldS U28 rfl rfl hb4.range0 sz28_GenV) (wl (r_ldS U28 rfl rfl hb5.range0 sz28_GenV) ?_)
 refine wl_cl fn8_ULawM (twof_any A B G1 G2 c d c1 c2 l fs ga gb _ hcl hdl (hT.mono hB) (hF.mono hB) (hG1.mono hB) (hG2.mono hB)) rfl (fun e' w18 hr => ?_)
 obtain ⟨rfl, hs⟩ := hr
 replace hs := Same.of_bel hs
 replace hB := hB.tr0 hs
 replace hb3 := hb3.tr0 hs
 replace hb4 := hb4.tr0 hs
 replace hb5 := hb5.tr0 hs
 replace hBW := hBW.tr0 hs
 replace hb7 := hb7.tr0 hs
 replace hb8 := hb8.tr0 hs
 replace hBuX := hBuX.tr0 hs
 replace hb9 := hb9.tr0 hs
 replace hb10 := hb10.tr0 hs
 clear hs
 refine ⟨_, rfl, ?_⟩
 refine wl_al (cs := #[.int .i64 0, .int .i64 0]) ze30_GenV rfl (fun b11 w19 hb11 hs hr => ?_)
 have or_b3_b11 : b3 < b11 := nLL hb3.lt hr
 have or_b4_b11 : b4 < b11 := nLL hb4.lt hr
 have or_b5_b11 : b5 < b11 := nLL hb5.lt hr
 have or_b7_b11 : b7 < b11 := nLL hb7.lt hr
 have or_b8_b11 : b8 < b11 := nLL hb8.lt hr
 have or_b9_b11 : b9 < b11 := nLL hb9.lt hr
 have or_b10_b11 : b10 < b11 := nLL hb10.lt hr
 have lo11 := nLT (Bel.size hB) hr
 have lo_hBW_b11 := nLT (Bel.size hBW) hr
 have lo_hBuX_b11 := nLT (Bel.size hBuX) hr
 replace hB := hB.tr0 hs
 replace hb3 := hb3.tr0 hs
 replace hb4 := hb4.tr0 hs
 replace hb5 := hb5.tr0 hs
 replace hBW := hBW.tr0 hs
 replace hb7 := hb7.tr0 hs
 replace hb8 := hb8.tr0 hs
 replace hBuX := hBuX.tr0 hs
 replace hb9 := hb9.tr0 hs
 replace hb10 := hb10.tr0 hs
 clear hs
 clear hr
 refine wl_stW hb11 rfl rfl sz30_GenV rfl oneA (fun w20 hq hs => ?_)
 replace hB := hB.tr1 hs lo11
 replace hb3 := hb3.tr1 hs om
 replace hb4 := hb4.tr1 hs om
 replace hb5 := hb5.tr1 hs om
 replace hBW := hBW.tr1 hs lo_hBW_b11
 replace hb7 := hb7.tr1 hs om
 replace hb8 := hb8.tr1 hs om
 replace hBuX := hBuX.tr1 hs lo_hBuX_b11
 replace hb9 := hb9.tr1 hs om
 replace hb10 := hb10.tr1 hs om
 clear hs
 replace hb11 := hq
 refine x_nil (e_S (c_seq (c_region (wl (r_fa U30 sz3_Least dE rfl rfl rfl) (wl (r_ld1 (v := .int _ _) U3 rfl rfl (hb11.cell rfl)) ?_)))))
 refine wl (r_neq rfl rfl) (x_nil (e_S ?_))
 refine c_ifd rfl (fun c64 => ?_) (fun c64 => ?_)
 ·
  obtain ⟨rfl, rfl⟩ : fX = twoG l fs ga gb ∧ XX = [] := by
    rcases hSX with ⟨_, h1, h2⟩ | ⟨h1, _⟩
    · exact ⟨h1, h2⟩
    · exact absurd h1 c64
  refine c_seq (c_region (wl (r_ldS U30 rfl rfl hb10.range0 sz30_GenV) (wl (r_ldS U30 rfl rfl hb11.range0 sz30_GenV) (wl (r_eqF Tryd.eqGuardType30 ft30 Tryd.stoodInHeld30 fd30 U3 rfl rfl) (wl (r_mv (v := .bool true) (congrArg Value.bool (decide_eq_true ⟨rfl, rfl⟩))) ?_)))))
  refine wl_gd 68 rfl rfl (wl (r_fa U28 sz26_GTgt dE rfl rfl rfl) (wl_gd 68 rfl rfl (wl (r_ld1 (v := .slice _ _ _) U26 rfl rfl (hb9.cell rfl)) (wl_gd 68 rfl rfl (wl (r_len U26 rfl) ?_)))))
  refine wl_gd 68 rfl rfl (wl (r_eql rfl rfl) (wl (r_pt (v := .bool _) rfl rfl) (wl (r_as (v := .bool true) (congrArg Value.bool (decide_eq_true rfl))) (x_nil (e_S ?_)))))
  refine c_ret (e_Sr (fin1 (.inl rfl) rfl rfl ?_))
  exact ⟨rfl, hB⟩
 have h0 := Decidable.not_not.1 c64
 refine c_skip (e_S (c_seq (c_region (wl (r_ldS U25 rfl rfl hb3.range0 sz25_GenZ) (wl (r_ldS U28 rfl rfl hb4.range0 sz28_GenV) ?_)))))
 refine wl (r_ldS U28 rfl rfl hb5.range0 sz28_GenV) ?_
 refine wl_cl fn9 (sgen_any A B G1 G2 c d c1 c2 l fs ga gb _ (hTab.mono hB) (hT.mono hB) (hF.mono hB) (hG1.mono hB) (hG2.mono hB) h0) rfl (fun e' w21 hr => ?_)
 obtain ⟨⟨AY, XY, cY, fY, rfl, hNY, hSY⟩, hs⟩ := hr
 replace hs := Same.of_bel hs
 replace hB := hB.tr0 hs
 replace hb3 := hb3.tr0 hs
 replace hb4 := hb4.tr0 hs
 replace hb5 := hb5.tr0 hs
 replace hBW := hBW.tr0 hs
 replace hb7 := hb7.tr0 hs
 replace hb8 := hb8.tr0 hs
 replace hBuX := hBuX.tr0 hs
 replace hb9 := hb9.tr0 hs
 replace hb10 := hb10.tr0 hs
 replace hb11 := hb11.tr0 hs
 clear hs
 replace hNY := hNY w21 (FrSame.refl _ _)
 have hBuY : Bel w21 w21 := Below.refl _ _
 obtain ⟨e1, e2⟩ := gens_det hSX hSY
 subst e1
 subst e2
 refine ⟨_, rfl, ?_⟩
 refine wmT rfl (wl (r_ex (v := _) rfl rfl) (wl (r_ex (v := _) rfl rfl) ?_))
 refine wl_al (cs := #[.slice none 0 0]) ze28_GenZ rfl (fun b12 w22 hb12 hs hr => ?_)
 have or_b3_b12 : b3 < b12 := nLL hb3.lt hr
 have or_b4_b12 : b4 < b12 := nLL hb4.lt hr
 have or_b5_b12 : b5 < b12 := nLL hb5.lt hr
 have or_b7_b12 : b7 < b12 := nLL hb7.lt hr
 have or_b8_b12 : b8 < b12 := nLL hb8.lt hr
 have or_b9_b12 : b9 < b12 := nLL hb9.lt hr
 have or_b10_b12 : b10 < b12 := nLL hb10.lt hr
 have or_b11_b12 : b11 < b12 := nLL hb11.lt hr
 have lo12 := nLT (Bel.size hB) hr
 have lo_hBW_b12 := nLT (Bel.size hBW) hr
 have lo_hBuX_b12 := nLT (Bel.size hBuX) hr
 have lo_hBuY_b12 := nLT (Bel.size hBuY) hr
 replace hB := hB.tr0 hs
 replace hb3 := hb3.tr0 hs
 replace hb4 := hb4.tr0 hs
 replace hb5 := hb5.tr0 hs
 replace hBW := hBW.tr0 hs
 replace hb7 := hb7.tr0 hs
 replace hb8 := hb8.tr0 hs
 replace hBuX := hBuX.tr0 hs
 replace hb9 := hb9.tr0 hs
 replace hb10 := hb10.tr0 hs
 replace hb11 := hb11.tr0 hs
 replace hBuY := hBuY.tr0 hs
 clear hs
 clear hr
 refine wl_al (cs := #[.int .i64 0, .int .i64 0]) ze30_GenV rfl (fun b13 w23 hb13 hs hr => ?_)
 have or_b3_b13 : b3 < b13 := nLL hb3.lt hr
 have or_b4_b13 : b4 < b13 := nLL hb4.lt hr
 have or_b5_b13 : b5 < b13 := nLL hb5.lt hr
 have or_b7_b13 : b7 < b13 := nLL hb7.lt hr
 have or_b8_b13 : b8 < b13 := nLL hb8.lt hr
 have or_b9_b13 : b9 < b13 := nLL hb9.lt hr
 have or_b10_b13 : b10 < b13 := nLL hb10.lt hr
 have or_b11_b13 : b11 < b13 := nLL hb11.lt hr
 have or_b12_b13 : b12 < b13 := nLL hb12.lt hr
 have lo13 := nLT (Bel.size hB) hr
 have lo_hBW_b13 := nLT (Bel.size hBW) hr
 have lo_hBuX_b13 := nLT (Bel.size hBuX) hr
 have lo_hBuY_b13 := nLT (Bel.size hBuY) hr
 replace hB := hB.tr0 hs
 replace hb3 := hb3.tr0 hs
 replace hb4 := hb4.tr0 hs
 replace hb5 := hb5.tr0 hs
 replace hBW := hBW.tr0 hs
 replace hb7 := hb7.tr0 hs
 replace hb8 := hb8.tr0 hs
 replace hBuX := hBuX.tr0 hs
 replace hb9 := hb9.tr0 hs
 replace hb10 := hb10.tr0 hs
 replace hb11 := hb11.tr0 hs
 replace hBuY := hBuY.tr0 hs
 replace hb12 := hb12.tr0 hs
 clear hs
 clear hr
 refine wl_stW hb12 rfl rfl sz28_GenV rfl oneA (fun w24 hq hs => ?_)
 replace hB := hB.tr1 hs lo12
 replace hb3 := hb3.tr1 hs om
 replace hb4 := hb4.tr1 hs om
 replace hb5 := hb5.tr1 hs om
 replace hBW := hBW.tr1 hs lo_hBW_b12
 replace hb7 := hb7.tr1 hs om
 replace hb8 := hb8.tr1 hs om
 replace hBuX := hBuX.tr1 hs lo_hBuX_b12
 replace hb9 := hb9.tr1 hs om
 replace hb10 := hb10.tr1 hs om
 replace hb11 := hb11.tr1 hs om
 replace hBuY := hBuY.tr1 hs lo_hBuY_b12
 replace hb13 := hb13.tr1 hs om
 clear hs
 replace hb12 := hq
 refine wl_stW hb13 rfl rfl sz30_GenV rfl oneA (fun w25 hq hs => ?_)
 replace hB := hB.tr1 hs lo13
 replace hb3 := hb3.tr1 hs om
 replace hb4 := hb4.tr1 hs om
 replace hb5 := hb5.tr1 hs om
 replace hBW := hBW.tr1 hs lo_hBW_b13
 replace hb7 := hb7.tr1 hs om
 replace hb8 := hb8.tr1 hs om
 replace hBuX := hBuX.tr1 hs lo_hBuX_b13
 replace hb9 := hb9.tr1 hs om
 replace hb10 := hb10.tr1 hs om
 replace hb11 := hb11.tr1 hs om
 replace hBuY := hBuY.tr1 hs lo_hBuY_b13
 replace hb12 := hb12.tr1 hs om
 clear hs
 replace hb13 := hq
 refine x_nil (e_S (c_seq (c_region (wl (r_ldS U30 rfl rfl hb10.range0 sz30_GenV) (wl (r_ldS U30 rfl rfl hb13.range0 sz30_GenV) ?_)))))
 refine wl (r_eqF Tryd.eqGuardType30 ft30 Tryd.stoodInHeld30 fd30 U3 rfl rfl) (wl (r_mv (v := .bool true) (congrArg Value.bool (decide_eq_true ⟨rfl, rfl⟩))) (wl_gd 84 rfl rfl (wl (r_ldS U28 rfl rfl hb9.range0 sz28_GenV) (wl_gd 84 rfl rfl (wl (r_ldS U28 rfl rfl hb12.range0 sz28_GenV) ?_)))))
 refine wl_gd 84 rfl rfl ?_
 refine wl_cl fn10 (nodesb_any AX AY _ _ _ _ XY XY true _ (hNX.mono hBuX) (hNY.mono hBuY) rfl rfl (decide_eq_true rfl)) rfl (fun e' w26 hr => ?_)
 obtain ⟨rfl, hs⟩ := hr
 replace hs := Same.of_bel hs
 replace hB := hB.tr0 hs
 replace hb3 := hb3.tr0 hs
 replace hb4 := hb4.tr0 hs
 replace hb5 := hb5.tr0 hs
 replace hBW := hBW.tr0 hs
 replace hb7 := hb7.tr0 hs
 replace hb8 := hb8.tr0 hs
 replace hBuX := hBuX.tr0 hs
 replace hb9 := hb9.tr0 hs
 replace hb10 := hb10.tr0 hs
 replace hb11 := hb11.tr0 hs
 replace hBuY := hBuY.tr0 hs
 replace hb12 := hb12.tr0 hs
 replace hb13 := hb13.tr0 hs
 clear hs
 refine ⟨_, rfl, ?_⟩
 refine wl (r_pt (v := .bool _) rfl rfl) (waB rfl (x_nil (e_S (c_ret (fin1 (.inl rfl) rfl rfl ?_)))))
 exact ⟨rfl, hB⟩
end Go.Proofs.YteenmolhopbpeaaDoor
namespace Go.Proofs.YteenmolhopbpeaaDoor
open Go.RowKit Go.ChangeShapes Go.WideShapes Go.Deep Go.Joins
section
variable {H : Type} {enc : TypeId × Value → H} {P : Program} {w : World} {base : Nat} {spare : Nat → Bool} {held : Bool}
theorem links_open {t e ti : TypeId} {f0 f1 : Field} {fuel : Nat} {v : Value} {x : DataW H × List MemPlace} (ht : P.underlying t = some (.slice e)) (he : P.underlying e = some (.struct #[f0, f1])) (hsz : P.cellsOf e = 2) (o0 : f0.offset = 0) (o1 : f1.offset = 1) (e0 : f0.type = ti) (e1 : f1.type = ti)
    (hi : P.underlying ti = some (.int .i64)) (hc1 : P.cellsOf ti = 1) (h : DataW.trod enc P w base spare held fuel t [v] = some x) :
    ∃ A xs c, v = .slice A (List.length xs) c ∧ xs.length ≤ c ∧ LinksIn w A xs := by
  obtain ⟨A, len, c, rfl, hl, hm, hx⟩ := sl_open ht hsz dE h
  by_cases h0 : len = 0
  · subst h0
    exact ⟨A, [], c, rfl, Nat.zero_le _, Nat.zero_le _, fun h => absurd rfl h⟩
  · obtain ⟨b, o, rfl, hlt, hc⟩ := hx h0
    obtain ⟨xs, hxl, hxs⟩ := choose_list (p := fun i (z : Int × Int) => w.rangeAt b (o + i * 2) [.int .i64 z.1, .int .i64 z.2]) (n := len) (fun i hi' => by
      obtain ⟨cs, k, y, h1, h2, h3⟩ := hc i hi'
      obtain ⟨v0, v1, n, y0, y1, rfl, g0, g1⟩ := two_cells he h1 o0 o1 (by rw [e0]; exact hc1) (by rw [e1]; exact hc1) h3
      rw [e0] at g0
      rw [e1] at g1
      obtain ⟨z1, h5, _, _⟩ := DataW.trod_int hi g0
      obtain ⟨z2, h6, _, _⟩ := DataW.trod_int hi g1
      rw [one_val h5, one_val h6] at h2
      exact ⟨(z1, z2), h2⟩)
    subst hxl
    exact ⟨_, xs, c, rfl, hl, nLT hl hm, fun _ => ⟨b, o, rfl, hlt, hxs⟩⟩
theorem nodes_open {t e ti tl te : TypeId} {f0 f1 g0 g1 : Field} {fuel : Nat} {v : Value} {x : DataW H × List MemPlace} (ht : P.underlying t = some (.slice e)) (he : P.underlying e = some (.struct #[f0, f1])) (hsz : P.cellsOf e = 2) (o0 : f0.offset = 0) (o1 : f1.offset = 1) (e0 : f0.type = ti) (e1 : f1.type = tl)
    (htl : P.underlying tl = some (.slice te)) (hte : P.underlying te = some (.struct #[g0, g1])) (hst : P.cellsOf te = 2) (p0 : g0.offset = 0) (p1 : g1.offset = 1) (d0 : g0.type = ti) (d1 : g1.type = ti) (hcl : P.cellsOf tl = 1)
    (hi : P.underlying ti = some (.int .i64)) (hc1 : P.cellsOf ti = 1) (h : DataW.trod enc P w base spare held fuel t [v] = some x) :
    ∃ A gr c, v = .slice A (List.length gr) c ∧ gr.length ≤ c ∧ NodesIn w A gr := by
  obtain ⟨A, len, c, rfl, hl, hm, hx⟩ := sl_open ht hsz dE h
  by_cases h0 : len = 0
  · subst h0
    exact ⟨A, [], c, rfl, Nat.zero_le _, Nat.zero_le _, fun h => absurd rfl h⟩
  · obtain ⟨b, o, rfl, hlt, hc⟩ := hx h0
    obtain ⟨gr, hxl, hxs⟩ := choose_list (p := fun i (z : Nd) => NdIn w b (o + i * 2) z) (n := len) (fun i hi' => by
      obtain ⟨cs, k, y, h1, h2, h3⟩ := hc i hi'
      obtain ⟨v0, v1, n, y0, y1, rfl, q0, q1⟩ := two_cells he h1 o0 o1 (by rw [e0]; exact hc1) (by rw [e1]; exact hcl) h3
      rw [e0] at q0
      rw [e1] at q1
      obtain ⟨z1, h5, _, _⟩ := DataW.trod_int hi q0
      obtain ⟨A', xs, c', rfl, _, hin⟩ := links_open htl hte hst p0 p1 d0 d1 hi hc1 q1
      rw [one_val h5] at h2
      exact ⟨⟨z1, xs⟩, A', c', h2, hin⟩)
    subst hxl
    exact ⟨_, gr, c, rfl, hl, nLT hl hm, fun _ => ⟨b, o, rfl, hlt, hxs⟩⟩
end
end Go.Proofs.YteenmolhopbpeaaDoor
