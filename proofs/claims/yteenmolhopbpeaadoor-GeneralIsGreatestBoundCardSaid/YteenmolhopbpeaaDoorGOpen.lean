/- What these functions of the program compute, at every world: glosswright/glosswrightlaw3.GeneralIsGreatestBound. Arguments opened: graphs. -/
import Derived.Test.YteenmolhopbpeaaDoorU
import Derived.Test.YteenmolhopbpeaaDoorGenB
import Derived.Test.YteenmolhopbpeaaDoorTypes
import Derived.Test.YteenmolhopbpeaaDoorGraph
namespace Go.Proofs.YteenmolhopbpeaaDoor
open Go.RowKit
theorem gensa_any {w : World} {A B G1 G2 : Option Addr} (hTab : TabIn w) (hT : TypesIn w A pairT) (hF : FeatsIn w B pairF) (hG1 : NodesIn w G1 sharedG) (hG2 : NodesIn w G2 apartG) : Calls Tryd.prog 5 #[.agg #[.slice A 4 4, .slice B 2 2], .agg #[.slice G1 2 2], .agg #[.slice G2 3 3]] w fun e w' => (∃ (GA : Option Addr) (cA : Nat) (f : Fl), e = .returned (.tuple #[.agg #[.slice GA 3 cA], .agg #[.int .i64 f.1, .int .i64 f.2]])) ∧ Bel w w' := by
  refine (gen_any A B G1 G2 4 2 2 3 pairT pairF sharedG apartG w hTab hT hF hG1 hG2).mono fun e w' h => ?_
  obtain ⟨⟨GA, X, cX, f, he, _, hS⟩, hs⟩ := h
  rw [sa_gen hS] at he
  exact ⟨⟨GA, cX, f, he⟩, hs⟩
theorem fn11 : callable Tryd.prog 11 = true := by kernel_rfl
theorem fn12_ULawG : callable Tryd.prog 12 = true := by kernel_rfl
theorem fn13 : callable Tryd.prog 13 = true := by kernel_rfl
theorem fn5 : callable Tryd.prog 5 = true := by kernel_rfl
theorem fn6 : callable Tryd.prog 6 = true := by kernel_rfl
theorem fn7 : callable Tryd.prog 7 = true := by kernel_rfl
theorem fn8 : callable Tryd.prog 8 = true := by kernel_rfl
set_option maxRecDepth 100000 in
set_option maxHeartbeats 8000000 in
theorem law15_any (A B G1 G2 G3 : Option Addr) (c d c1 c2 c3 : Nat) (l : List Ty) (fs : List Ft) (ga gb gc : List Nd) (w : World) (hTab : TabIn w) (hcl : l.length ≤ c) (hdl : fs.length ≤ d) (hT : TypesIn w A l) (hF : FeatsIn w B fs) (hG1 : NodesIn w G1 ga) (hG2 : NodesIn w G2 gb) (hG3 : NodesIn w G3 gc) : Calls Tryd.prog 4 #[.agg #[.slice A l.length c, .slice B fs.length d], .agg #[.slice G1 ga.length c1], .agg #[.slice G2 gb.length c2], .agg #[.slice G3 gc.length c3]] w fun e w' => e = .returned (.bool true) ∧ Bel w w' := by
 refine enter Tryd.func4 Tryd.ntmps4 rfl (Nat.le_of_ble_eq_true rfl) ?_
 have hB : Bel w w := Below.refl _ _
 refine c_seq (c_region ?_)
 refine wl_bx (v := .agg #[_, _]) (cs := #[_, _]) rfl rfl (fun b4 w1 hb4 hs hr => ?_)
 have lo4 := nLT (Bel.size hB) hr
 replace hB := hB.tr0 hs
 clear hs
 clear hr
 refine wl_bx (v := .agg #[_]) (cs := #[_]) rfl rfl (fun b5 w2 hb5 hs hr => ?_)
 have or_b4_b5 : b4 < b5 := nLL hb4.lt hr
 have lo5 := nLT (Bel.size hB) hr
 replace hB := hB.tr0 hs
 replace hb4 := hb4.tr0 hs
 clear hs
 clear hr
 refine wl_bx (v := .agg #[_]) (cs := #[_]) rfl rfl (fun b6 w3 hb6 hs hr => ?_)
 have or_b4_b6 : b4 < b6 := nLL hb4.lt hr
 have or_b5_b6 : b5 < b6 := nLL hb5.lt hr
 have lo6 := nLT (Bel.size hB) hr
 replace hB := hB.tr0 hs
 replace hb4 := hb4.tr0 hs
 replace hb5 := hb5.tr0 hs
 clear hs
 clear hr
 refine wl_bx (v := .agg #[_]) (cs := #[_]) rfl rfl (fun b7 w4 hb7 hs hr => ?_)
 have or_b4_b7 : b4 < b7 := nLL hb4.lt hr
 have or_b5_b7 : b5 < b7 := nLL hb5.lt hr
 have or_b6_b7 : b6 < b7 := nLL hb6.lt hr
 have lo7 := nLT (Bel.size hB) hr
 replace hB := hB.tr0 hs
 replace hb4 := hb4.tr0 hs
 replace hb5 := hb5.tr0 hs
 replace hb6 := hb6.tr0 hs
 clear hs
 clear hr
 refine waB rfl (x_nil (e_S (c_seq (c_seq (c_region ?_)))))
 refine wl_cl fn6 (pair_any _) rfl (fun e' w5 hr => ?_)
 obtain ⟨⟨Ap, Bp, rfl, hTp, hFp⟩, hs⟩ := hr
 replace hs := Same.of_bel hs
 replace hB := hB.tr0 hs
 replace hb4 := hb4.tr0 hs
 replace hb5 := hb5.tr0 hs
 replace hb6 := hb6.tr0 hs
 replace hb7 := hb7.tr0 hs
 clear hs
 have hB0 : Bel w5 w5 := Below.refl _ _
 refine ⟨_, rfl, ?_⟩
 refine wl_cl fn7 (shared_any _) rfl (fun e' w6 hr => ?_)
 obtain ⟨⟨Gb, rfl, hGb⟩, hs⟩ := hr
 replace hs := Same.of_bel hs
 replace hB := hB.tr0 hs
 replace hb4 := hb4.tr0 hs
 replace hb5 := hb5.tr0 hs
 replace hb6 := hb6.tr0 hs
 replace hb7 := hb7.tr0 hs
 replace hB0 := hB0.tr0 hs
 clear hs
 have hB1 : Bel w6 w6 := Below.refl _ _
 refine ⟨_, rfl, ?_⟩
 refine wl_cl fn11 (apart_any _) rfl (fun e' w7 hr => ?_)
 obtain ⟨⟨Ga, rfl, hGa⟩, hs⟩ := hr
 replace hs := Same.of_bel hs
 replace hB := hB.tr0 hs
 replace hb4 := hb4.tr0 hs
 replace hb5 := hb5.tr0 hs
 replace hb6 := hb6.tr0 hs
 replace hb7 := hb7.tr0 hs
 replace hB0 := hB0.tr0 hs
 replace hB1 := hB1.tr0 hs
 clear hs
 have hB2 : Bel w7 w7 := Below.refl _ _
 refine ⟨_, rfl, ?_⟩
 refine wl_cl fn5 (gensa_any (hTab.mono hB) (hTp.mono hB0) (hFp.mono hB0) (hGb.mono hB1) (hGa.mono hB2)) rfl (fun e' w8 hr => ?_)
 obtain ⟨⟨GW, cW, fW, rfl⟩, hs⟩ := hr
 replace hs := Same.of_bel hs
 replace hB := hB.tr0 hs
 replace hb4 := hb4.tr0 hs
 replace hb5 := hb5.tr0 hs
 replace hb6 := hb6.tr0 hs
 replace hb7 := hb7.tr0 hs
 replace hB0 := hB0.tr0 hs
 replace hB1 := hB1.tr0 hs
 replace hB2 := hB2.tr0 hs
 clear hs
 refine ⟨_, rfl, ?_⟩
 refine wmT rfl (wl (r_ex (v := _) rfl rfl) (wl (r_ex (v := _) rfl rfl) ?_))
 refine wl_al (cs := #[.slice none 0 0]) ze28_GenZ rfl (fun b9 w9 hb9 hs hr => ?_)
 have or_b4_b9 : b4 < b9 := nLL hb4.lt hr
 have or_b5_b9 : b5 < b9 := nLL hb5.lt hr
 have or_b6_b9 : b6 < b9 := nLL hb6.lt hr
 have or_b7_b9 : b7 < b9 := nLL hb7.lt hr
 have lo9 := nLT (Bel.size hB) hr
 replace hB := hB.tr0 hs
 replace hb4 := hb4.tr0 hs
 replace hb5 := hb5.tr0 hs
 replace hb6 := hb6.tr0 hs
 replace hb7 := hb7.tr0 hs
 clear hs
 clear hr
 refine wl_al (cs := #[.int .i64 0, .int .i64 0]) ze30_GenV rfl (fun b10 w10 hb10 hs hr => ?_)
 have or_b4_b10 : b4 < b10 := nLL hb4.lt hr
 have or_b5_b10 : b5 < b10 := nLL hb5.lt hr
 have or_b6_b10 : b6 < b10 := nLL hb6.lt hr
 have or_b7_b10 : b7 < b10 := nLL hb7.lt hr
 have or_b9_b10 : b9 < b10 := nLL hb9.lt hr
 have lo10 := nLT (Bel.size hB) hr
 replace hB := hB.tr0 hs
 replace hb4 := hb4.tr0 hs
 replace hb5 := hb5.tr0 hs
 replace hb6 := hb6.tr0 hs
 replace hb7 := hb7.tr0 hs
 replace hb9 := hb9.tr0 hs
 clear hs
 clear hr
 refine wl_stW hb9 rfl rfl sz28_GenV rfl oneA (fun w11 hq hs => ?_)
 replace hB := hB.tr1 hs lo9
 replace hb4 := hb4.tr1 hs om
 replace hb5 := hb5.tr1 hs om
 replace hb6 := hb6.tr1 hs om
 replace hb7 := hb7.tr1 hs om
 replace hb10 := hb10.tr1 hs om
 clear hs
 replace hb9 := hq
 refine wl_stW hb10 rfl rfl sz30_GenV rfl oneA (fun w12 hq hs => ?_)
 replace hB := hB.tr1 hs lo10
 replace hb4 := hb4.tr1 hs om
 replace hb5 := hb5.tr1 hs om
 replace hb6 := hb6.tr1 hs om
 replace hb7 := hb7.tr1 hs om
 replace hb9 := hb9.tr1 hs om
 clear hs
 replace hb10 := hq
 refine x_nil (e_S (c_seq (c_region (wl (r_fa U28 sz26_GTgt dE rfl rfl rfl) (wl (r_ld1 (v := .slice _ _ _) U26 rfl rfl (hb9.cell rfl)) ?_)))))
 refine wl (r_len U26 rfl) (wl (r_neq rfl rfl) (x_nil (e_S ?_)))
 refine c_ifd rfl (fun c29 => ?_) (fun c29 => ?_)
 ·
  exact absurd dE c29
 refine c_skip (e_S (c_seq (c_seq (c_region (wl (r_ldS U25 rfl rfl hb4.range0 sz25_GenZ) ?_)))))
 refine wl (r_ldS U28 rfl rfl hb5.range0 sz28_GenV) (wl (r_ldS U28 rfl rfl hb6.range0 sz28_GenV) ?_)
 refine wl_cl fn8 (twof_any A B G1 G2 c d c1 c2 l fs ga gb _ hcl hdl (hT.mono hB) (hF.mono hB) (hG1.mono hB) (hG2.mono hB)) rfl (fun e' w13 hr => ?_)
 obtain ⟨rfl, hs⟩ := hr
 replace hs := Same.of_bel hs
 replace hB := hB.tr0 hs
 replace hb4 := hb4.tr0 hs
 replace hb5 := hb5.tr0 hs
 replace hb6 := hb6.tr0 hs
 replace hb7 := hb7.tr0 hs
 replace hb9 := hb9.tr0 hs
 replace hb10 := hb10.tr0 hs
 clear hs
 refine ⟨_, rfl, ?_⟩
 refine wl (r_fd1 (v := .int _ _) U30 rfl U3 rfl rfl rfl) (wl (r_neq rfl rfl) (wmB rfl ?_))
 refine wl_casesd 36 rfl (fun g36 => ?_) (fun g36 => ?_)
 ·
  refine wlgn 36 rfl rfl rfl (wlgn 36 rfl rfl rfl (wlgn 36 rfl rfl rfl (wlgn 36 rfl rfl rfl (wlgn 36 rfl rfl rfl (wl (r_pt (v := .bool _) rfl rfl) ?_)))))
  refine x_nil (e_S (c_yes rfl (c_seq (c_region (waB rfl ?_)))))
  refine x_nil (e_S (c_ret (e_Sr (fin1 (.inl rfl) rfl rfl ?_))))
  exact ⟨rfl, hB⟩
 have h0 := Decidable.not_not.1 g36
 obtain ⟨⟨hva, hvb⟩, hga0, hgb0⟩ := two_gv h0
 refine wl_gd 36 rfl rfl (wl (r_ldS U25 rfl rfl hb4.range0 sz25_GenZ) (wl_gd 36 rfl rfl (wl (r_ldS U28 rfl rfl hb7.range0 sz28_GenV) (wl_gd 36 rfl rfl ?_))))
 refine wl_cl fn12_ULawG (inh_any A B G3 c d c3 l fs gc _ (hT.mono hB) hva.s.vt hva.s.le (hF.mono hB) (hG3.mono hB) hva.f) rfl (fun e' w14 hr => ?_)
 obtain ⟨rfl, hs⟩ := hr
 replace hs := Same.of_bel hs
 replace hB := hB.tr0 hs
 replace hb4 := hb4.tr0 hs
 replace hb5 := hb5.tr0 hs
 replace hb6 := hb6.tr0 hs
 replace hb7 := hb7.tr0 hs
 replace hb9 := hb9.tr0 hs
 replace hb10 := hb10.tr0 hs
 clear hs
 refine ⟨_, rfl, ?_⟩
 refine wl_gd 36 rfl rfl (wl (r_fd1 (v := .int _ _) U30 rfl U3 rfl rfl rfl) (wl_gd 36 rfl rfl (wl (r_neq rfl rfl) (wl (r_pf (v := .bool _) rfl rfl) (x_nil ?_)))))
 refine e_S ?_
 refine c_ifd rfl (fun c42 => ?_) (fun c42 => ?_)
 ·
  refine c_seq (c_region (waB rfl (x_nil (e_S (c_ret ?_)))))
  refine e_Sr (fin1 (.inl rfl) rfl rfl ?_)
  exact ⟨rfl, hB⟩
 have hc0 := Decidable.not_not.1 c42
 have hgc0 : (graphF l fs gc).1 = 0 := by rw [gf_in hva.h]; exact hc0
 have hvc := gv_of hgc0
 refine c_skip (e_S (c_seq (c_region (wl (r_ldS U25 rfl rfl hb4.range0 sz25_GenZ) (wl (r_ldS U28 rfl rfl hb5.range0 sz28_GenV) ?_)))))
 refine wl (r_ldS U28 rfl rfl hb6.range0 sz28_GenV) ?_
 refine wl_cl fn5 (gen_any A B G1 G2 c d c1 c2 l fs ga gb _ (hTab.mono hB) (hT.mono hB) (hF.mono hB) (hG1.mono hB) (hG2.mono hB)) rfl (fun e' w15 hr => ?_)
 obtain ⟨⟨AZ, XZ, cZ, fZ, rfl, hNZ, hSZ⟩, hs⟩ := hr
 replace hs := Same.of_bel hs
 replace hB := hB.tr0 hs
 replace hb4 := hb4.tr0 hs
 replace hb5 := hb5.tr0 hs
 replace hb6 := hb6.tr0 hs
 replace hb7 := hb7.tr0 hs
 replace hb9 := hb9.tr0 hs
 replace hb10 := hb10.tr0 hs
 clear hs
 replace hNZ := hNZ w15 (FrSame.refl _ _)
 have hBuZ : Bel w15 w15 := Below.refl _ _
 refine ⟨_, rfl, ?_⟩
 refine wmT rfl (wl (r_ex (v := _) rfl rfl) (wl (r_ex (v := _) rfl rfl) ?_))
 refine wl_al (cs := #[.slice none 0 0]) ze28_GenZ rfl (fun b11 w16 hb11 hs hr => ?_)
 have or_b4_b11 : b4 < b11 := nLL hb4.lt hr
 have or_b5_b11 : b5 < b11 := nLL hb5.lt hr
 have or_b6_b11 : b6 < b11 := nLL hb6.lt hr
 have or_b7_b11 : b7 < b11 := nLL hb7.lt hr
 have or_b9_b11 : b9 < b11 := nLL hb9.lt hr
 have or_b10_b11 : b10 < b11 := nLL hb10.lt hr
 have lo11 := nLT (Bel.size hB) hr
 have lo_hBuZ_b11 := nLT (Bel.size hBuZ) hr
 replace hB := hB.tr0 hs
 replace hb4 := hb4.tr0 hs
 replace hb5 := hb5.tr0 hs
 replace hb6 := hb6.tr0 hs
 replace hb7 := hb7.tr0 hs
 replace hb9 := hb9.tr0 hs
 replace hb10 := hb10.tr0 hs
 replace hBuZ := hBuZ.tr0 hs
 clear hs
 clear hr
 refine wl_al (cs := #[.int .i64 0, .int .i64 0]) ze30_GenV rfl (fun b12 w17 hb12 hs hr => ?_)
 have or_b4_b12 : b4 < b12 := nLL hb4.lt hr
 have or_b5_b12 : b5 < b12 := nLL hb5.lt hr
 have or_b6_b12 : b6 < b12 := nLL hb6.lt hr
 have or_b7_b12 : b7 < b12 := nLL hb7.lt hr
 have or_b9_b12 : b9 < b12 := nLL hb9.lt hr
 have or_b10_b12 : b10 < b12 := nLL hb10.lt hr
 have or_b11_b12 : b11 < b12 := nLL hb11.lt hr
 have lo12 := nLT (Bel.size hB) hr
 have lo_hBuZ_b12 := nLT (Bel.size hBuZ) hr
 replace hB := hB.tr0 hs
 replace hb4 := hb4.tr0 hs
 replace hb5 := hb5.tr0 hs
 replace hb6 := hb6.tr0 hs
 replace hb7 := hb7.tr0 hs
 replace hb9 := hb9.tr0 hs
 replace hb10 := hb10.tr0 hs
 replace hBuZ := hBuZ.tr0 hs
 replace hb11 := hb11.tr0 hs
 clear hs
 clear hr
 refine wl_stW hb11 rfl rfl sz28_GenV rfl oneA (fun w18 hq hs => ?_)
 replace hB := hB.tr1 hs lo11
 replace hb4 := hb4.tr1 hs om
 replace hb5 := hb5.tr1 hs om
 replace hb6 := hb6.tr1 hs om
 replace hb7 := hb7.tr1 hs om
 replace hb9 := hb9.tr1 hs om
 replace hb10 := hb10.tr1 hs om
 replace hBuZ := hBuZ.tr1 hs lo_hBuZ_b11
 replace hb12 := hb12.tr1 hs om
 clear hs
 replace hb11 := hq
 refine wl_stW hb12 rfl rfl sz30_GenV rfl oneA (fun w19 hq hs => ?_)
 replace hB := hB.tr1 hs lo12
 replace hb4 := hb4.tr1 hs om
 replace hb5 := hb5.tr1 hs om
 replace hb6 := hb6.tr1 hs om
 replace hb7 := hb7.tr1 hs om
 replace hb9 := hb9.tr1 hs om
 replace hb10 := hb10.tr1 hs om
 replace hBuZ := hBuZ.tr1 hs lo_hBuZ_b12
 replace hb11 := hb11.tr1 hs om
 clear hs
 replace hb12 := hq
 refine x_nil (e_S (c_seq (c_seq (c_region (wl (r_fa U30 sz3_GSearch dE rfl rfl rfl) ?_)))))
 refine wl (r_ld1 (v := .int _ _) U3 rfl rfl (hb12.cell rfl)) (wl (r_neq rfl rfl) (x_nil (e_S ?_)))
 refine c_ifd rfl (fun c52 => ?_) (fun c52 => ?_)
 ·
  have hco := gen_code hga0 hgb0 hSZ c52
  refine c_seq (c_region (wl (r_fa U30 sz3_GSearch dE rfl rfl rfl) (wl (r_ld1 (v := .int _ _) U3 rfl rfl (hb12.cell rfl)) (wl (r_eql rfl rfl) (wmB rfl ?_)))))
  refine wl_casesd 56 rfl (fun g56 => ?_) (fun g56 => ?_)
  ·
   refine wlgn 56 rfl rfl rfl (wlgn 56 rfl rfl rfl (wlgn 56 rfl rfl rfl (wl (r_pt (v := .bool _) rfl rfl) (waB rfl (x_nil ?_)))))
   refine e_S (c_ret (e_Sr (fin1 (.inl rfl) rfl rfl ?_)))
   first
    | exact ⟨rfl, hB⟩
    | exact ⟨ret_bool (decide_eq_true (hco.resolve_left g56)).symm, hB⟩
  refine wl_gd 56 rfl rfl (wl (r_fa U30 sz3_GSearch dE rfl rfl rfl) (wl_gd 56 rfl rfl (wl (r_ld1 (v := .int _ _) U3 rfl rfl (hb12.cell rfl)) (wl_gd 56 rfl rfl (wl (r_eql rfl rfl) ?_)))))
  refine wl (r_pf (v := .bool _) rfl rfl) (waB rfl (x_nil (e_S (c_ret (e_Sr ?_)))))
  refine fin1 (.inl rfl) rfl rfl ?_
  first
   | exact ⟨rfl, hB⟩
   | exact ⟨ret_bool (decide_eq_true (hco.resolve_left g56)).symm, hB⟩
 have hfZ := Decidable.not_not.1 c52
 obtain ⟨efZ, hXZ0, hmZ, hgrZ⟩ := gen_says hga0 hgb0 hSZ hfZ
 have hs1 := (subB_iff hXZ0 hga0).2 hmZ.1
 have hs2 := (subB_iff hXZ0 hgb0).2 hmZ.2
 have h2z := two_mk hgc0 hXZ0
 have hle1 : subB l fs gc ga = true → (subB l fs gc XZ == subB l fs gc gb) = true := fun h => by
   cases hb : subB l fs gc gb with
   | true => rw [(subB_iff hgc0 hXZ0).2 (hgrZ gc hvc.gx ((subB_iff hgc0 hga0).1 h) ((subB_iff hgc0 hgb0).1 hb))]; rfl
   | false => cases hx : subB l fs gc XZ with
     | false => rfl
     | true =>
       have := (subB_iff hgc0 hgb0).2 (((subB_iff hgc0 hXZ0).1 hx).comp hva.s.vt hmZ.2)
       rw [hb] at this; cases this
 have hle0 : subB l fs gc ga = false → (subB l fs gc XZ == false) = true := fun h => by
   cases hx : subB l fs gc XZ with
   | false => rfl
   | true =>
     have := (subB_iff hgc0 hga0).2 (((subB_iff hgc0 hXZ0).1 hx).comp hva.s.vt hmZ.1)
     rw [h] at this; cases this
 refine c_skip (e_S (c_seq (c_region (wl (r_ldS U25 rfl rfl hb4.range0 sz25_GenZ) (wl (r_ldS U28 rfl rfl hb11.range0 sz28_GenV) ?_)))))
 refine wl (r_ldS U28 rfl rfl hb5.range0 sz28_GenV) ?_
 refine wl_cl fn13 (subs_any A B AZ G1 c d cZ c1 l fs XZ ga _ (hTab.mono hB) (hT.mono hB) (hF.mono hB) (hNZ.mono hBuZ) (hG1.mono hB)) rfl (fun e' w20 hr => ?_)
 obtain ⟨rfl, hs⟩ := hr
 replace hs := Same.of_bel hs
 replace hB := hB.tr0 hs
 replace hb4 := hb4.tr0 hs
 replace hb5 := hb5.tr0 hs
 replace hb6 := hb6.tr0 hs
 replace hb7 := hb7.tr0 hs
 replace hb9 := hb9.tr0 hs
 replace hb10 := hb10.tr0 hs
 replace hBuZ := hBuZ.tr0 hs
 replace hb11 := hb11.tr0 hs
 replace hb12 := hb12.tr0 hs
 clear hs
 refine ⟨_, rfl, ?_⟩
 refine wmT rfl (wl (r_ex (v := _) rfl rfl) (wl (r_ex (v := _) rfl rfl) ?_))
 refine wl_al (cs := #[.int .i64 0, .int .i64 0]) ze30_GenV rfl (fun b14 w21 hb14 hs hr => ?_)
 have or_b4_b14 : b4 < b14 := nLL hb4.lt hr
 have or_b5_b14 : b5 < b14 := nLL hb5.lt hr
 have or_b6_b14 : b6 < b14 := nLL hb6.lt hr
 have or_b7_b14 : b7 < b14 := nLL hb7.lt hr
 have or_b9_b14 : b9 < b14 := nLL hb9.lt hr
 have or_b10_b14 : b10 < b14 := nLL hb10.lt hr
 have or_b11_b14 : b11 < b14 := nLL hb11.lt hr
 have or_b12_b14 : b12 < b14 := nLL hb12.lt hr
 have lo14 := nLT (Bel.size hB) hr
 have lo_hBuZ_b14 := nLT (Bel.size hBuZ) hr
 replace hB := hB.tr0 hs
 replace hb4 := hb4.tr0 hs
 replace hb5 := hb5.tr0 hs
 replace hb6 := hb6.tr0 hs
 replace hb7 := hb7.tr0 hs
 replace hb9 := hb9.tr0 hs
 replace hb10 := hb10.tr0 hs
 replace hBuZ := hBuZ.tr0 hs
 replace hb11 := hb11.tr0 hs
 replace hb12 := hb12.tr0 hs
 clear hs
 clear hr
 refine waB rfl ?_
 refine wl_stW hb14 rfl rfl sz30_GenV rfl oneA (fun w22 hq hs => ?_)
 replace hB := hB.tr1 hs lo14
 replace hb4 := hb4.tr1 hs om
 replace hb5 := hb5.tr1 hs om
 replace hb6 := hb6.tr1 hs om
 replace hb7 := hb7.tr1 hs om
 replace hb9 := hb9.tr1 hs om
 replace hb10 := hb10.tr1 hs om
 replace hBuZ := hBuZ.tr1 hs lo_hBuZ_b14
 replace hb11 := hb11.tr1 hs om
 replace hb12 := hb12.tr1 hs om
 clear hs
 replace hb14 := hq
 refine x_nil (e_S (c_seq (c_region (wl (r_ldS U25 rfl rfl hb4.range0 sz25_GenZ) (wl (r_ldS U28 rfl rfl hb11.range0 sz28_GenV) ?_)))))
 refine wl (r_ldS U28 rfl rfl hb6.range0 sz28_GenV) ?_
 refine wl_cl fn13 (subs_any A B AZ G2 c d cZ c2 l fs XZ gb _ (hTab.mono hB) (hT.mono hB) (hF.mono hB) (hNZ.mono hBuZ) (hG2.mono hB)) rfl (fun e' w23 hr => ?_)
 obtain ⟨rfl, hs⟩ := hr
 replace hs := Same.of_bel hs
 replace hB := hB.tr0 hs
 replace hb4 := hb4.tr0 hs
 replace hb5 := hb5.tr0 hs
 replace hb6 := hb6.tr0 hs
 replace hb7 := hb7.tr0 hs
 replace hb9 := hb9.tr0 hs
 replace hb10 := hb10.tr0 hs
 replace hBuZ := hBuZ.tr0 hs
 replace hb11 := hb11.tr0 hs
 replace hb12 := hb12.tr0 hs
 replace hb14 := hb14.tr0 hs
 clear hs
 refine ⟨_, rfl, ?_⟩
 refine wmT rfl (wl (r_ex (v := _) rfl rfl) (wl (r_ex (v := _) rfl rfl) ?_))
 refine wl_al (cs := #[.int .i64 0, .int .i64 0]) ze30_GenV rfl (fun b16 w24 hb16 hs hr => ?_)
 have or_b4_b16 : b4 < b16 := nLL hb4.lt hr
 have or_b5_b16 : b5 < b16 := nLL hb5.lt hr
 have or_b6_b16 : b6 < b16 := nLL hb6.lt hr
 have or_b7_b16 : b7 < b16 := nLL hb7.lt hr
 have or_b9_b16 : b9 < b16 := nLL hb9.lt hr
 have or_b10_b16 : b10 < b16 := nLL hb10.lt hr
 have or_b11_b16 : b11 < b16 := nLL hb11.lt hr
 have or_b12_b16 : b12 < b16 := nLL hb12.lt hr
 have or_b14_b16 : b14 < b16 := nLL hb14.lt hr
 have lo16 := nLT (Bel.size hB) hr
 have lo_hBuZ_b16 := nLT (Bel.size hBuZ) hr
 replace hB := hB.tr0 hs
 replace hb4 := hb4.tr0 hs
 replace hb5 := hb5.tr0 hs
 replace hb6 := hb6.tr0 hs
 replace hb7 := hb7.tr0 hs
 replace hb9 := hb9.tr0 hs
 replace hb10 := hb10.tr0 hs
 replace hBuZ := hBuZ.tr0 hs
 replace hb11 := hb11.tr0 hs
 replace hb12 := hb12.tr0 hs
 replace hb14 := hb14.tr0 hs
 clear hs
 clear hr
 refine waB rfl ?_
 refine wl_stW hb16 rfl rfl sz30_GenV rfl oneA (fun w25 hq hs => ?_)
 replace hB := hB.tr1 hs lo16
 replace hb4 := hb4.tr1 hs om
 replace hb5 := hb5.tr1 hs om
 replace hb6 := hb6.tr1 hs om
 replace hb7 := hb7.tr1 hs om
 replace hb9 := hb9.tr1 hs om
 replace hb10 := hb10.tr1 hs om
 replace hBuZ := hBuZ.tr1 hs lo_hBuZ_b16
 replace hb11 := hb11.tr1 hs om
 replace hb12 := hb12.tr1 hs om
 replace hb14 := hb14.tr1 hs om
 clear hs
 replace hb16 := hq
 refine x_nil (e_S (c_seq (c_seq (c_region (wl (r_mv (v := .bool true) (congrArg Value.bool hs1)) ?_)))))
 refine wl (r_not rfl) (wl (r_mv (v := .bool false) rfl) (wl_gd 77 rfl rfl (wl (r_mv (v := .bool true) (congrArg Value.bool hs2)) (wl_gd 77 rfl rfl (wl (r_not rfl) ?_)))))
 refine wl (r_pf (v := .bool _) rfl rfl) (x_nil (e_S ?_))
 refine c_if rfl (fun c80 => ?_) (fun c80 => ?_)
 ·
  exact absurd c80 dE
 refine c_skip (e_S (c_seq (c_region (wl (r_ldS U25 rfl rfl hb4.range0 sz25_GenZ) (wl (r_ldS U28 rfl rfl hb7.range0 sz28_GenV) ?_)))))
 refine wl (r_ldS U28 rfl rfl hb5.range0 sz28_GenV) ?_
 refine wl_cl fn13 (subs_any A B G3 G1 c d c3 c1 l fs gc ga _ (hTab.mono hB) (hT.mono hB) (hF.mono hB) (hG3.mono hB) (hG1.mono hB)) rfl (fun e' w26 hr => ?_)
 obtain ⟨rfl, hs⟩ := hr
 replace hs := Same.of_bel hs
 replace hB := hB.tr0 hs
 replace hb4 := hb4.tr0 hs
 replace hb5 := hb5.tr0 hs
 replace hb6 := hb6.tr0 hs
 replace hb7 := hb7.tr0 hs
 replace hb9 := hb9.tr0 hs
 replace hb10 := hb10.tr0 hs
 replace hBuZ := hBuZ.tr0 hs
 replace hb11 := hb11.tr0 hs
 replace hb12 := hb12.tr0 hs
 replace hb14 := hb14.tr0 hs
 replace hb16 := hb16.tr0 hs
 clear hs
 refine ⟨_, rfl, ?_⟩
 refine wmT rfl (wl (r_ex (v := _) rfl rfl) (wl (r_ex (v := _) rfl rfl) (waB rfl (x_nil (e_S ?_)))))
 refine c_seq (c_region (wl (r_ldS U25 rfl rfl hb4.range0 sz25_GenZ) (wl (r_ldS U28 rfl rfl hb7.range0 sz28_GenV) (wl (r_ldS U28 rfl rfl hb6.range0 sz28_GenV) ?_))))
 refine wl_cl fn13 (subs_any A B G3 G2 c d c3 c2 l fs gc gb _ (hTab.mono hB) (hT.mono hB) (hF.mono hB) (hG3.mono hB) (hG2.mono hB)) rfl (fun e' w27 hr => ?_)
 obtain ⟨rfl, hs⟩ := hr
 replace hs := Same.of_bel hs
 replace hB := hB.tr0 hs
 replace hb4 := hb4.tr0 hs
 replace hb5 := hb5.tr0 hs
 replace hb6 := hb6.tr0 hs
 replace hb7 := hb7.tr0 hs
 replace hb9 := hb9.tr0 hs
 replace hb10 := hb10.tr0 hs
 replace hBuZ := hBuZ.tr0 hs
 replace hb11 := hb11.tr0 hs
 replace hb12 := hb12.tr0 hs
 replace hb14 := hb14.tr0 hs
 replace hb16 := hb16.tr0 hs
 clear hs
 refine ⟨_, rfl, ?_⟩
 refine wmT rfl (wl (r_ex (v := _) rfl rfl) (wl (r_ex (v := _) rfl rfl) (waB rfl (x_nil (e_S ?_)))))
 refine c_seq (c_region (wl (r_ldS U25 rfl rfl hb4.range0 sz25_GenZ) (wl (r_ldS U28 rfl rfl hb7.range0 sz28_GenV) (wl (r_ldS U28 rfl rfl hb11.range0 sz28_GenV) ?_))))
 refine wl_cl fn13 (subs_any A B G3 AZ c d c3 cZ l fs gc XZ _ (hTab.mono hB) (hT.mono hB) (hF.mono hB) (hG3.mono hB) (hNZ.mono hBuZ)) rfl (fun e' w28 hr => ?_)
 obtain ⟨rfl, hs⟩ := hr
 replace hs := Same.of_bel hs
 replace hB := hB.tr0 hs
 replace hb4 := hb4.tr0 hs
 replace hb5 := hb5.tr0 hs
 replace hb6 := hb6.tr0 hs
 replace hb7 := hb7.tr0 hs
 replace hb9 := hb9.tr0 hs
 replace hb10 := hb10.tr0 hs
 replace hBuZ := hBuZ.tr0 hs
 replace hb11 := hb11.tr0 hs
 replace hb12 := hb12.tr0 hs
 replace hb14 := hb14.tr0 hs
 replace hb16 := hb16.tr0 hs
 clear hs
 refine ⟨_, rfl, ?_⟩
 refine wmT rfl (wl (r_ex (v := _) rfl rfl) (wl (r_ex (v := _) rfl rfl) ?_))
 refine wl_al (cs := #[.int .i64 0, .int .i64 0]) ze30_GenV rfl (fun b18 w29 hb18 hs hr => ?_)
 have or_b4_b18 : b4 < b18 := nLL hb4.lt hr
 have or_b5_b18 : b5 < b18 := nLL hb5.lt hr
 have or_b6_b18 : b6 < b18 := nLL hb6.lt hr
 have or_b7_b18 : b7 < b18 := nLL hb7.lt hr
 have or_b9_b18 : b9 < b18 := nLL hb9.lt hr
 have or_b10_b18 : b10 < b18 := nLL hb10.lt hr
 have or_b11_b18 : b11 < b18 := nLL hb11.lt hr
 have or_b12_b18 : b12 < b18 := nLL hb12.lt hr
 have or_b14_b18 : b14 < b18 := nLL hb14.lt hr
 have or_b16_b18 : b16 < b18 := nLL hb16.lt hr
 have lo18 := nLT (Bel.size hB) hr
 have lo_hBuZ_b18 := nLT (Bel.size hBuZ) hr
 replace hB := hB.tr0 hs
 replace hb4 := hb4.tr0 hs
 replace hb5 := hb5.tr0 hs
 replace hb6 := hb6.tr0 hs
 replace hb7 := hb7.tr0 hs
 replace hb9 := hb9.tr0 hs
 replace hb10 := hb10.tr0 hs
 replace hBuZ := hBuZ.tr0 hs
 replace hb11 := hb11.tr0 hs
 replace hb12 := hb12.tr0 hs
 replace hb14 := hb14.tr0 hs
 replace hb16 := hb16.tr0 hs
 clear hs
 clear hr
 refine waB rfl ?_
 refine wl_stW hb18 rfl rfl sz30_GenV rfl oneA (fun w30 hq hs => ?_)
 replace hB := hB.tr1 hs lo18
 replace hb4 := hb4.tr1 hs om
 replace hb5 := hb5.tr1 hs om
 replace hb6 := hb6.tr1 hs om
 replace hb7 := hb7.tr1 hs om
 replace hb9 := hb9.tr1 hs om
 replace hb10 := hb10.tr1 hs om
 replace hBuZ := hBuZ.tr1 hs lo_hBuZ_b18
 replace hb11 := hb11.tr1 hs om
 replace hb12 := hb12.tr1 hs om
 replace hb14 := hb14.tr1 hs om
 replace hb16 := hb16.tr1 hs om
 clear hs
 replace hb18 := hq
 refine x_nil (e_S (c_seq (c_region (wl (r_fa U30 sz3_GSearch dE rfl rfl rfl) (wl (r_ld1 (v := .int _ _) U3 rfl rfl (hb18.cell rfl)) ?_)))))
 refine wl (r_eql rfl rfl) (wl (r_mv (v := .bool true) (congrArg Value.bool (decide_eq_true h2z))) (wl_gd 105 rfl rfl (wmB rfl (wl_gd 105 rfl rfl (wmB rfl ?_)))))
 refine wl_gd 105 rfl rfl (wmB rfl ?_)
 refine wl_cases 108 rfl (fun g108 => ?_) (fun g108 => ?_)
 ·
  refine wl_gd 108 rfl rfl (wmB rfl (wl_gd 105 rfl rfl (wl (r_pt (v := .bool _) rfl rfl) (wl_gd 105 rfl rfl (wl (r_eqlBr U4 rfl rfl (by first | exact hle1 g108 | exact hle0 g108)) ?_)))))
  refine wl (r_pt (v := .bool _) rfl rfl) (waB rfl (x_nil (e_S (c_ret (fin1 (.inl rfl) rfl rfl ?_)))))
  exact ⟨rfl, hB⟩
 refine wlgn 108 rfl rfl rfl (wl_gd 105 rfl rfl (wl (r_pf (v := .bool _) rfl rfl) (wl_gd 105 rfl rfl (wl (r_eqlBr U4 rfl rfl (by first | exact hle1 g108 | exact hle0 g108)) (wl (r_pt (v := .bool _) rfl rfl) ?_)))))
 refine waB rfl (x_nil (e_S (c_ret (fin1 (.inl rfl) rfl rfl ?_))))
 exact ⟨rfl, hB⟩
end Go.Proofs.YteenmolhopbpeaaDoor
namespace Go.Proofs.YteenmolhopbpeaaDoor
open Go.RowKit Go.ChangeShapes Go.WideShapes Go.Deep Go.Joins
section
variable {H : Type} {enc : TypeId × Value → H} {P : Program} {w : World} {base : Nat} {spare : Nat → Bool} {held : Bool}
theorem links_open {t e ti : TypeId} {f0 f1 : Field} {fuel : Nat} {v : Value} {x : DataW H × List MemPlace} (ht : P.underlying t = some (.slice e)) (he : P.underlying e = some (.struct #[f0, f1])) (hsz : P.cellsOf e = 2) (o0 : f0.offset = 0) (o1 : f1.offset = 1) (e0 : f0.type = ti) (e1 : f1.type = ti)
    (hi : P.underlying ti = some (.int .i64)) (hc1 : P.cellsOf ti = 1) (h : DataW.trod enc P w base spare held fuel t [v] = some x) :
    ∃ A xs c, v = .slice A (List.length xs) c ∧ xs.length ≤ c ∧ LinksIn w A xs := by
  obtain ⟨A, len, c, rfl, hl, hm, hx⟩ := sl_open ht hsz dE h
  by_cases h0 : len = 0
  · subst h0
    exact ⟨A, [], c, rfl, Nat.zero_le _, Nat.zero_le _, fun h => absurd rfl h⟩
  · obtain ⟨b, o, rfl, hlt, hc⟩ := hx h0
    obtain ⟨xs, hxl, hxs⟩ := choose_list (p := fun i (z : Int × Int) => w.rangeAt b (o + i * 2) [.int .i64 z.1, .int .i64 z.2]) (n := len) (fun i hi' => by
      obtain ⟨cs, k, y, h1, h2, h3⟩ := hc i hi'
      obtain ⟨v0, v1, n, y0, y1, rfl, g0, g1⟩ := two_cells he h1 o0 o1 (by rw [e0]; exact hc1) (by rw [e1]; exact hc1) h3
      rw [e0] at g0
      rw [e1] at g1
      obtain ⟨z1, h5, _, _⟩ := DataW.trod_int hi g0
      obtain ⟨z2, h6, _, _⟩ := DataW.trod_int hi g1
      rw [one_val h5, one_val h6] at h2
      exact ⟨(z1, z2), h2⟩)
    subst hxl
    exact ⟨_, xs, c, rfl, hl, nLT hl hm, fun _ => ⟨b, o, rfl, hlt, hxs⟩⟩
theorem nodes_open {t e ti tl te : TypeId} {f0 f1 g0 g1 : Field} {fuel : Nat} {v : Value} {x : DataW H × List MemPlace} (ht : P.underlying t = some (.slice e)) (he : P.underlying e = some (.struct #[f0, f1])) (hsz : P.cellsOf e = 2) (o0 : f0.offset = 0) (o1 : f1.offset = 1) (e0 : f0.type = ti) (e1 : f1.type = tl)
    (htl : P.underlying tl = some (.slice te)) (hte : P.underlying te = some (.struct #[g0, g1])) (hst : P.cellsOf te = 2) (p0 : g0.offset = 0) (p1 : g1.offset = 1) (d0 : g0.type = ti) (d1 : g1.type = ti) (hcl : P.cellsOf tl = 1)
    (hi : P.underlying ti = some (.int .i64)) (hc1 : P.cellsOf ti = 1) (h : DataW.trod enc P w base spare held fuel t [v] = some x) :
    ∃ A gr c, v = .slice A (List.length gr) c ∧ gr.length ≤ c ∧ NodesIn w A gr := by
  obtain ⟨A, len, c, rfl, hl, hm, hx⟩ := sl_open ht hsz dE h
  by_cases h0 : len = 0
  · subst h0
    exact ⟨A, [], c, rfl, Nat.zero_le _, Nat.zero_le _, fun h => absurd rfl h⟩
  · obtain ⟨b, o, rfl, hlt, hc⟩ := hx h0
    obtain ⟨gr, hxl, hxs⟩ := choose_list (p := fun i (z : Nd) => NdIn w b (o + i * 2) z) (n := len) (fun i hi' => by
      obtain ⟨cs, k, y, h1, h2, h3⟩ := hc i hi'
      obtain ⟨v0, v1, n, y0, y1, rfl, q0, q1⟩ := two_cells he h1 o0 o1 (by rw [e0]; exact hc1) (by rw [e1]; exact hcl) h3
      rw [e0] at q0
      rw [e1] at q1
      obtain ⟨z1, h5, _, _⟩ := DataW.trod_int hi q0
      obtain ⟨A', xs, c', rfl, _, hin⟩ := links_open htl hte hst p0 p1 d0 d1 hi hc1 q1
      rw [one_val h5] at h2
      exact ⟨⟨z1, xs⟩, A', c', h2, hin⟩)
    subst hxl
    exact ⟨_, gr, c, rfl, hl, nLT hl hm, fun _ => ⟨b, o, rfl, hlt, hxs⟩⟩
end
end Go.Proofs.YteenmolhopbpeaaDoor
