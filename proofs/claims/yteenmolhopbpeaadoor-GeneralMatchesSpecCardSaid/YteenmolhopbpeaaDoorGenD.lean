/- What these functions of the program compute, at every world: glosswright/general.Generalize. What these functions of the program compute, at every world: glosswright/glosswrightlaw3.shared. A list of pairs in whatever order, and the graph of their numbers: its canonical form has the links of the pair graph's. For the reference's Generalized. No program in sight. -/
import Derived.Test.YteenmolhopbpeaaDoorU
import Derived.Test.YteenmolhopbpeaaDoorGenV
import Derived.Test.YteenmolhopbpeaaDoorEng8
import Derived.Test.YteenmolhopbpeaaDoorGSearch
import Derived.Test.YteenmolhopbpeaaDoorComp
import Derived.Test.YteenmolhopbpeaaDoorEng5
namespace Go.Proofs.YteenmolhopbpeaaDoor
open Go.RowKit
theorem fn14_GenZ : callable Tryd.prog 14 = true := by kernel_rfl
theorem sz25_GenZ : (Tryd.prog.info? 25).map (·.size) = some 2 := by kernel_rfl
theorem sz52 : (Tryd.prog.info? 52).map (·.size) = some 1 := by kernel_rfl
theorem sz53 : (Tryd.prog.info? 53).map (·.size) = some 1 := by kernel_rfl
theorem ze28_GenZ : (Tryd.prog.info? 28).map (·.zero) = some (some (.agg #[.slice none 0 0])) := by kernel_rfl
theorem ze49_GenZ : (Tryd.prog.info? 49).map (·.zero) = some (some (.agg #[.slice none 0 0, .slice none 0 0])) := by kernel_rfl
theorem ze52 : (Tryd.prog.info? 52).map (·.zero) = some (some (.map none)) := by kernel_rfl
theorem ze53 : (Tryd.prog.info? 53).map (·.zero) = some (some (.nilFunc)) := by kernel_rfl
set_option maxRecDepth 100000 in
set_option maxHeartbeats 4000000 in
theorem gen_any (A B G1 G2 : Option Addr) (c d c1 c2 : Nat) (l : List Ty) (fs : List Ft) (ga gb : List Nd) (w : World) (hTab : TabIn w) (hT : TypesIn w A l) (hF : FeatsIn w B fs) (hG1 : NodesIn w G1 ga) (hG2 : NodesIn w G2 gb) : Calls Tryd.prog 5 #[.agg #[.slice A l.length c, .slice B fs.length d], .agg #[.slice G1 ga.length c1], .agg #[.slice G2 gb.length c2]] w fun e w' => (∃ A X cX f, e = .returned (.tuple #[.agg #[.slice A (List.length X) cX], .agg #[.int .i64 (Prod.fst f), .int .i64 f.2]]) ∧ (∀ w2, FrSame w.heap.size w' w2 → NodesIn w2 A X) ∧ GenS l fs ga gb f X) ∧ Bel w w' := by
 refine enter Tryd.func5 Tryd.ntmps5 rfl (Nat.le_of_ble_eq_true rfl) ?_
 have hB : Bel w w := Below.refl _ _
 refine c_seq (c_region ?_)
 refine wl_bx (v := .agg #[_, _]) (cs := #[_, _]) rfl rfl (fun b3 w1 hb3 hs hr => ?_)
 have lo3 := nLT (Bel.size hB) hr
 replace hB := hB.tr0 hs
 clear hs
 clear hr
 refine wl_bx (v := .agg #[_]) (cs := #[_]) rfl rfl (fun b4 w2 hb4 hs hr => ?_)
 have or_b3_b4 : b3 < b4 := nLL hb3.lt hr
 have lo4 := nLT (Bel.size hB) hr
 replace hB := hB.tr0 hs
 replace hb3 := hb3.tr0 hs
 clear hs
 clear hr
 refine wl_bx (v := .agg #[_]) (cs := #[_]) rfl rfl (fun b5 w3 hb5 hs hr => ?_)
 have or_b3_b5 : b3 < b5 := nLL hb3.lt hr
 have or_b4_b5 : b4 < b5 := nLL hb4.lt hr
 have lo5 := nLT (Bel.size hB) hr
 replace hB := hB.tr0 hs
 replace hb3 := hb3.tr0 hs
 replace hb4 := hb4.tr0 hs
 clear hs
 clear hr
 refine wl_al (cs := #[.slice none 0 0]) ze28_GenZ rfl (fun b6 w4 hb6 hs hr => ?_)
 have or_b3_b6 : b3 < b6 := nLL hb3.lt hr
 have or_b4_b6 : b4 < b6 := nLL hb4.lt hr
 have or_b5_b6 : b5 < b6 := nLL hb5.lt hr
 have lo6 := nLT (Bel.size hB) hr
 replace hB := hB.tr0 hs
 replace hb3 := hb3.tr0 hs
 replace hb4 := hb4.tr0 hs
 replace hb5 := hb5.tr0 hs
 clear hs
 clear hr
 refine wl_al (cs := #[.int .i64 0, .int .i64 0]) ze30_GenV rfl (fun b7 w5 hb7 hs hr => ?_)
 have or_b3_b7 : b3 < b7 := nLL hb3.lt hr
 have or_b4_b7 : b4 < b7 := nLL hb4.lt hr
 have or_b5_b7 : b5 < b7 := nLL hb5.lt hr
 have or_b6_b7 : b6 < b7 := nLL hb6.lt hr
 have lo7 := nLT (Bel.size hB) hr
 replace hB := hB.tr0 hs
 replace hb3 := hb3.tr0 hs
 replace hb4 := hb4.tr0 hs
 replace hb5 := hb5.tr0 hs
 replace hb6 := hb6.tr0 hs
 clear hs
 clear hr
 refine x_nil (e_S (c_seq (c_region (wl (r_ldS U25 rfl rfl hb3.range0 sz25_GenZ) (wl (r_ldS U28 rfl rfl hb4.range0 sz28_GenV) ?_)))))
 refine wl (r_ldS U28 rfl rfl hb5.range0 sz28_GenV) ?_
 refine wl_cl fn14_GenZ (both_any A B G1 G2 c d c1 c2 l fs ga gb _ (hTab.mono hB) (hT.mono hB) (hF.mono hB) (hG1.mono hB) (hG2.mono hB)) rfl (fun e' w6 hr => ?_)
 obtain ⟨⟨U, D, n1, k1, n2, k2, rfl, hTB⟩, hs⟩ := hr
 replace hs := Same.of_bel hs
 replace hB := hB.tr0 hs
 replace hb3 := hb3.tr0 hs
 replace hb4 := hb4.tr0 hs
 replace hb5 := hb5.tr0 hs
 replace hb6 := hb6.tr0 hs
 replace hb7 := hb7.tr0 hs
 clear hs
 have hB9 : Bel w6 w6 := Below.refl _ _
 have hTab9 := hTab.mono hB
 have hG19 := hG1.mono hB
 have hG29 := hG2.mono hB
 refine ⟨_, rfl, ?_⟩
 refine wmT rfl (wl (r_ex (v := _) rfl rfl) (wl (r_ex (v := _) rfl rfl) ?_))
 refine wl_al (cs := #[.slice none 0 0, .slice none 0 0]) ze49_GenZ rfl (fun b8 w7 hb8 hs hr => ?_)
 have or_b3_b8 : b3 < b8 := nLL hb3.lt hr
 have or_b4_b8 : b4 < b8 := nLL hb4.lt hr
 have or_b5_b8 : b5 < b8 := nLL hb5.lt hr
 have or_b6_b8 : b6 < b8 := nLL hb6.lt hr
 have or_b7_b8 : b7 < b8 := nLL hb7.lt hr
 have lo8 := nLT (Bel.size hB) hr
 have lo_hB9_b8 := nLT (Bel.size hB9) hr
 replace hB := hB.tr0 hs
 replace hb3 := hb3.tr0 hs
 replace hb4 := hb4.tr0 hs
 replace hb5 := hb5.tr0 hs
 replace hb6 := hb6.tr0 hs
 replace hb7 := hb7.tr0 hs
 replace hB9 := hB9.tr0 hs
 clear hs
 clear hr
 refine wl_al (cs := #[.int .i64 0, .int .i64 0]) ze30_GenV rfl (fun b9 w8 hb9 hs hr => ?_)
 have or_b3_b9 : b3 < b9 := nLL hb3.lt hr
 have or_b4_b9 : b4 < b9 := nLL hb4.lt hr
 have or_b5_b9 : b5 < b9 := nLL hb5.lt hr
 have or_b6_b9 : b6 < b9 := nLL hb6.lt hr
 have or_b7_b9 : b7 < b9 := nLL hb7.lt hr
 have or_b8_b9 : b8 < b9 := nLL hb8.lt hr
 have lo9 := nLT (Bel.size hB) hr
 have lo_hB9_b9 := nLT (Bel.size hB9) hr
 replace hB := hB.tr0 hs
 replace hb3 := hb3.tr0 hs
 replace hb4 := hb4.tr0 hs
 replace hb5 := hb5.tr0 hs
 replace hb6 := hb6.tr0 hs
 replace hb7 := hb7.tr0 hs
 replace hB9 := hB9.tr0 hs
 replace hb8 := hb8.tr0 hs
 clear hs
 clear hr
 refine wl_stW hb8 rfl rfl sz49_GenV rfl oneA (fun w9 hq hs => ?_)
 replace hB := hB.tr1 hs lo8
 replace hb3 := hb3.tr1 hs om
 replace hb4 := hb4.tr1 hs om
 replace hb5 := hb5.tr1 hs om
 replace hb6 := hb6.tr1 hs om
 replace hb7 := hb7.tr1 hs om
 replace hB9 := hB9.tr1 hs lo_hB9_b8
 replace hb9 := hb9.tr1 hs om
 clear hs
 replace hb8 := hq
 refine wl_stW hb9 rfl rfl sz30_GenV rfl oneA (fun w10 hq hs => ?_)
 replace hB := hB.tr1 hs lo9
 replace hb3 := hb3.tr1 hs om
 replace hb4 := hb4.tr1 hs om
 replace hb5 := hb5.tr1 hs om
 replace hb6 := hb6.tr1 hs om
 replace hb7 := hb7.tr1 hs om
 replace hB9 := hB9.tr1 hs lo_hB9_b9
 replace hb8 := hb8.tr1 hs om
 clear hs
 replace hb9 := hq
 refine x_nil (e_S (c_seq (c_seq (c_region (wl (r_fa U30 sz3_Least dE rfl rfl rfl) ?_)))))
 refine wl (r_ld1 (v := .int _ _) U3 rfl rfl (hb9.cell rfl)) (wl (r_neq rfl rfl) (x_nil (e_S ?_)))
 refine c_ifd rfl (fun c24 => ?_) (fun c24 => ?_)
 ·
  refine c_seq ?_
  refine c_all #[false, false, false, false] kR (by rfl) (fun w11 hs => ?_)
  replace hB := hB.tr0 hs
  replace hb3 := hb3.tr0 hs
  replace hb4 := hb4.tr0 hs
  replace hb5 := hb5.tr0 hs
  replace hb6 := hb6.tr0 hs
  replace hb7 := hb7.tr0 hs
  replace hb8 := hb8.tr0 hs
  replace hb9 := hb9.tr0 hs
  clear hs
  refine a_step [0, 1] kR rfl ⟨fun o hoq => ?_, fun o hoq => ?_, trivial⟩
  ·
   obtain rfl := sI hoq
   refine wl (r_bd (vs := #[]) (cs := #[.slice none 0 0]) (by simp) kR) (x_nil (e_A (listed' := #[true, false, false, false]) (by rfl) ?_))
   refine a_step [1, 2] kR rfl ⟨fun o hoq => ?_, fun o hoq => ?_, trivial⟩
   ·
    obtain rfl := sI hoq
    refine wl (r_ldS U30 rfl rfl hb9.range0 sz30_GenV) (x_nil (e_A (listed' := #[true, true, false, false]) (by rfl) ?_))
    refine a_step [2] kR rfl ⟨fun o hoq => ?_, trivial⟩
    obtain rfl := sI hoq
    refine wl_stW hb6 rfl rfl sz28_GenV rfl oneA (fun w12 hq hs => ?_)
    replace hB := hB.tr1 hs lo6
    replace hb3 := hb3.tr1 hs om
    replace hb4 := hb4.tr1 hs om
    replace hb5 := hb5.tr1 hs om
    replace hb7 := hb7.tr1 hs om
    replace hb8 := hb8.tr1 hs om
    replace hb9 := hb9.tr1 hs om
    clear hs
    replace hb6 := hq
    refine x_nil (e_A (listed' := #[true, true, true, false]) (by rfl) ?_)
    refine a_step [3] kR rfl ⟨fun o hoq => ?_, trivial⟩
    obtain rfl := sI hoq
    refine wl_stW hb7 rfl rfl sz30_GenV rfl oneA (fun w13 hq hs => ?_)
    replace hB := hB.tr1 hs lo7
    replace hb3 := hb3.tr1 hs om
    replace hb4 := hb4.tr1 hs om
    replace hb5 := hb5.tr1 hs om
    replace hb6 := hb6.tr1 hs om
    replace hb8 := hb8.tr1 hs om
    replace hb9 := hb9.tr1 hs om
    clear hs
    replace hb7 := hq
    refine x_nil (e_A (listed' := #[true, true, true, true]) (by rfl) (a_end kR (e_S (c_ret (e_Sr ?_)))))
    refine fin2 (.inl rfl) rfl (rr_cell U28 rfl rfl hb6.range0 sz28_GenV) (rr_cell U30 rfl rfl hb7.range0 sz30_GenV) ?_
    exact ⟨⟨none, [], 0, twoG l fs ga gb, rfl, fun w2 _ => nodes_nil w2 none, .inl ⟨c24, rfl, rfl⟩⟩, hB⟩
   obtain rfl := sI hoq
   refine wl_stW hb6 rfl rfl sz28_GenV rfl oneA (fun w14 hq hs => ?_)
   replace hB := hB.tr1 hs lo6
   replace hb3 := hb3.tr1 hs om
   replace hb4 := hb4.tr1 hs om
   replace hb5 := hb5.tr1 hs om
   replace hb7 := hb7.tr1 hs om
   replace hb8 := hb8.tr1 hs om
   replace hb9 := hb9.tr1 hs om
   clear hs
   replace hb6 := hq
   refine x_nil (e_A (listed' := #[true, false, true, false]) (by rfl) ?_)
   refine a_step [1] kR rfl ⟨fun o hoq => ?_, trivial⟩
   obtain rfl := sI hoq
   refine wl (r_ldS U30 rfl rfl hb9.range0 sz30_GenV) (x_nil (e_A (listed' := #[true, true, true, false]) (by rfl) ?_))
   refine a_step [3] kR rfl ⟨fun o hoq => ?_, trivial⟩
   obtain rfl := sI hoq
   refine wl_stW hb7 rfl rfl sz30_GenV rfl oneA (fun w15 hq hs => ?_)
   replace hB := hB.tr1 hs lo7
   replace hb3 := hb3.tr1 hs om
   replace hb4 := hb4.tr1 hs om
   replace hb5 := hb5.tr1 hs om
   replace hb6 := hb6.tr1 hs om
   replace hb8 := hb8.tr1 hs om
   replace hb9 := hb9.tr1 hs om
   clear hs
   replace hb7 := hq
   refine x_nil (e_A (listed' := #[true, true, true, true]) (by rfl) (a_end kR (e_S (c_ret (e_Sr ?_)))))
   refine fin2 (.inl rfl) rfl (rr_cell U28 rfl rfl hb6.range0 sz28_GenV) (rr_cell U30 rfl rfl hb7.range0 sz30_GenV) ?_
   exact ⟨⟨none, [], 0, twoG l fs ga gb, rfl, fun w2 _ => nodes_nil w2 none, .inl ⟨c24, rfl, rfl⟩⟩, hB⟩
  obtain rfl := sI hoq
  refine wl (r_ldS U30 rfl rfl hb9.range0 sz30_GenV) (x_nil (e_A (listed' := #[false, true, false, false]) (by rfl) ?_))
  refine a_step [0] kR rfl ⟨fun o hoq => ?_, trivial⟩
  obtain rfl := sI hoq
  refine wl (r_bd (vs := #[]) (cs := #[.slice none 0 0]) (by simp) kR) (x_nil (e_A (listed' := #[true, true, false, false]) (by rfl) ?_))
  refine a_step [2] kR rfl ⟨fun o hoq => ?_, trivial⟩
  obtain rfl := sI hoq
  refine wl_stW hb6 rfl rfl sz28_GenV rfl oneA (fun w16 hq hs => ?_)
  replace hB := hB.tr1 hs lo6
  replace hb3 := hb3.tr1 hs om
  replace hb4 := hb4.tr1 hs om
  replace hb5 := hb5.tr1 hs om
  replace hb7 := hb7.tr1 hs om
  replace hb8 := hb8.tr1 hs om
  replace hb9 := hb9.tr1 hs om
  clear hs
  replace hb6 := hq
  refine x_nil (e_A (listed' := #[true, true, true, false]) (by rfl) ?_)
  refine a_step [3] kR rfl ⟨fun o hoq => ?_, trivial⟩
  obtain rfl := sI hoq
  refine wl_stW hb7 rfl rfl sz30_GenV rfl oneA (fun w17 hq hs => ?_)
  replace hB := hB.tr1 hs lo7
  replace hb3 := hb3.tr1 hs om
  replace hb4 := hb4.tr1 hs om
  replace hb5 := hb5.tr1 hs om
  replace hb6 := hb6.tr1 hs om
  replace hb8 := hb8.tr1 hs om
  replace hb9 := hb9.tr1 hs om
  clear hs
  replace hb7 := hq
  refine x_nil (e_A (listed' := #[true, true, true, true]) (by rfl) (a_end kR (e_S (c_ret (e_Sr ?_)))))
  refine fin2 (.inl rfl) rfl (rr_cell U28 rfl rfl hb6.range0 sz28_GenV) (rr_cell U30 rfl rfl hb7.range0 sz30_GenV) ?_
  exact ⟨⟨none, [], 0, twoG l fs ga gb, rfl, fun w2 _ => nodes_nil w2 none, .inl ⟨c24, rfl, rfl⟩⟩, hB⟩
 have h0 := Decidable.not_not.1 c24
 obtain ⟨⟨hva, hvb⟩, _⟩ := two_gv h0
 have hzz := two_zz h0
 obtain ⟨bu, bd, ⟨rfl, rfl, rfl, rfl, rfl, rfl⟩, hTI⟩ := hTB h0
 have ht0 := types0g hva.h
 have hf40 := hva.few
 refine c_skip (e_S (c_seq (c_region ?_)))
 refine wl_mmA (m := gb.length) (fun b27 w18 hb27 hs hr => ?_)
 have or_b3_b27 : b3 < b27 := nLL hb3.lt hr
 have or_b4_b27 : b4 < b27 := nLL hb4.lt hr
 have or_b5_b27 : b5 < b27 := nLL hb5.lt hr
 have or_b6_b27 : b6 < b27 := nLL hb6.lt hr
 have or_b7_b27 : b7 < b27 := nLL hb7.lt hr
 have or_b8_b27 : b8 < b27 := nLL hb8.lt hr
 have or_b9_b27 : b9 < b27 := nLL hb9.lt hr
 have lo27 := nLT (Bel.size hB) hr
 have lo_hB9_b27 := nLT (Bel.size hB9) hr
 replace hB := hB.tr0 hs
 replace hb3 := hb3.tr0 hs
 replace hb4 := hb4.tr0 hs
 replace hb5 := hb5.tr0 hs
 replace hb6 := hb6.tr0 hs
 replace hb7 := hb7.tr0 hs
 replace hB9 := hB9.tr0 hs
 replace hb8 := hb8.tr0 hs
 replace hb9 := hb9.tr0 hs
 clear hs
 clear hr
 refine wl_al (cs := #[.map none]) ze52 rfl (fun b10 w19 hb10 hs hr => ?_)
 have or_b3_b10 : b3 < b10 := nLL hb3.lt hr
 have or_b4_b10 : b4 < b10 := nLL hb4.lt hr
 have or_b5_b10 : b5 < b10 := nLL hb5.lt hr
 have or_b6_b10 : b6 < b10 := nLL hb6.lt hr
 have or_b7_b10 : b7 < b10 := nLL hb7.lt hr
 have or_b8_b10 : b8 < b10 := nLL hb8.lt hr
 have or_b9_b10 : b9 < b10 := nLL hb9.lt hr
 have or_b27_b10 : b27 < b10 := nLL hb27.lt hr
 have lo10 := nLT (Bel.size hB) hr
 have lo_hB9_b10 := nLT (Bel.size hB9) hr
 replace hB := hB.tr0 hs
 replace hb3 := hb3.tr0 hs
 replace hb4 := hb4.tr0 hs
 replace hb5 := hb5.tr0 hs
 replace hb6 := hb6.tr0 hs
 replace hb7 := hb7.tr0 hs
 replace hB9 := hB9.tr0 hs
 replace hb8 := hb8.tr0 hs
 replace hb9 := hb9.tr0 hs
 replace hb27 := hb27.tr0 hs
 clear hs
 clear hr
 refine wl_st1 (v := .map _) hb10 rfl rfl sz52 (by first | decide | simp) rfl rfl (fun w20 hq hs => ?_)
 replace hB := hB.tr1 hs lo10
 replace hb3 := hb3.tr1 hs om
 replace hb4 := hb4.tr1 hs om
 replace hb5 := hb5.tr1 hs om
 replace hb6 := hb6.tr1 hs om
 replace hb7 := hb7.tr1 hs om
 replace hB9 := hB9.tr1 hs lo_hB9_b10
 replace hb8 := hb8.tr1 hs om
 replace hb9 := hb9.tr1 hs om
 replace hb27 := hb27.tr1 hs om
 clear hs
 replace hb10 := hq
 refine x_nil (e_S (c_seq (c_region ?_)))
 refine wl_al (cs := #[.slice none 0 0]) ze28_GenZ rfl (fun b11 w21 hb11 hs hr => ?_)
 have or_b3_b11 : b3 < b11 := nLL hb3.lt hr
 have or_b4_b11 : b4 < b11 := nLL hb4.lt hr
 have or_b5_b11 : b5 < b11 := nLL hb5.lt hr
 have or_b6_b11 : b6 < b11 := nLL hb6.lt hr
 have or_b7_b11 : b7 < b11 := nLL hb7.lt hr
 have or_b8_b11 : b8 < b11 := nLL hb8.lt hr
 have or_b9_b11 : b9 < b11 := nLL hb9.lt hr
 have or_b27_b11 : b27 < b11 := nLL hb27.lt hr
 have or_b10_b11 : b10 < b11 := nLL hb10.lt hr
 have lo11 := nLT (Bel.size hB) hr
 have lo_hB9_b11 := nLT (Bel.size hB9) hr
 replace hB := hB.tr0 hs
 replace hb3 := hb3.tr0 hs
 replace hb4 := hb4.tr0 hs
 replace hb5 := hb5.tr0 hs
 replace hb6 := hb6.tr0 hs
 replace hb7 := hb7.tr0 hs
 replace hB9 := hB9.tr0 hs
 replace hb8 := hb8.tr0 hs
 replace hb9 := hb9.tr0 hs
 replace hb27 := hb27.tr0 hs
 replace hb10 := hb10.tr0 hs
 clear hs
 clear hr
 refine x_nil (e_S (c_seq (c_region ?_)))
 refine wl_al (cs := #[.nilFunc]) ze53 rfl (fun b12 w22 hb12 hs hr => ?_)
 have or_b3_b12 : b3 < b12 := nLL hb3.lt hr
 have or_b4_b12 : b4 < b12 := nLL hb4.lt hr
 have or_b5_b12 : b5 < b12 := nLL hb5.lt hr
 have or_b6_b12 : b6 < b12 := nLL hb6.lt hr
 have or_b7_b12 : b7 < b12 := nLL hb7.lt hr
 have or_b8_b12 : b8 < b12 := nLL hb8.lt hr
 have or_b9_b12 : b9 < b12 := nLL hb9.lt hr
 have or_b27_b12 : b27 < b12 := nLL hb27.lt hr
 have or_b10_b12 : b10 < b12 := nLL hb10.lt hr
 have or_b11_b12 : b11 < b12 := nLL hb11.lt hr
 have lo12 := nLT (Bel.size hB) hr
 have lo_hB9_b12 := nLT (Bel.size hB9) hr
 replace hB := hB.tr0 hs
 replace hb3 := hb3.tr0 hs
 replace hb4 := hb4.tr0 hs
 replace hb5 := hb5.tr0 hs
 replace hb6 := hb6.tr0 hs
 replace hb7 := hb7.tr0 hs
 replace hB9 := hB9.tr0 hs
 replace hb8 := hb8.tr0 hs
 replace hb9 := hb9.tr0 hs
 replace hb27 := hb27.tr0 hs
 replace hb10 := hb10.tr0 hs
 replace hb11 := hb11.tr0 hs
 clear hs
 clear hr
 refine x_nil (e_S (c_seq (c_region (wl (r_mf rfl) ?_))))
 refine wl_st1 (v := .func _ _ _) hb12 rfl rfl sz53 (by first | decide | simp) rfl rfl (fun w23 hq hs => ?_)
 replace hB := hB.tr1 hs lo12
 replace hb3 := hb3.tr1 hs om
 replace hb4 := hb4.tr1 hs om
 replace hb5 := hb5.tr1 hs om
 replace hb6 := hb6.tr1 hs om
 replace hb7 := hb7.tr1 hs om
 replace hB9 := hB9.tr1 hs lo_hB9_b12
 replace hb8 := hb8.tr1 hs om
 replace hb9 := hb9.tr1 hs om
 replace hb27 := hb27.tr1 hs om
 replace hb10 := hb10.tr1 hs om
 replace hb11 := hb11.tr1 hs om
 clear hs
 replace hb12 := hq
 refine x_nil (e_S (c_seq (c_seq ?_)))
 obtain ⟨base, hbase⟩ : ∃ b, b = w23.heap.size := ⟨_, rfl⟩
 have hlo : w.heap.size ≤ base := by rw [hbase]; exact Bel.size hB
 have hlo9 := Bel.size hB9
 rw [← hbase] at hlo9
 have hbs : base ≤ w23.heap.size := Nat.le_of_eq hbase
 have l4 : b4 < base := by rw [hbase]; exact hb4.lt
 have l5 : b5 < base := by rw [hbase]; exact hb5.lt
 have l6 : b6 < base := by rw [hbase]; exact hb6.lt
 have l7 : b7 < base := by rw [hbase]; exact hb7.lt
 have l8 : b8 < base := by rw [hbase]; exact hb8.lt
 have l10 : b10 < base := by rw [hbase]; exact hb10.lt
 have l11 : b11 < base := by rw [hbase]; exact hb11.lt
 have l12 : b12 < base := by rw [hbase]; exact hb12.lt
 have l27 : b27 < base := by rw [hbase]; exact hb27.lt
 have hwb : ∀ j (hj : j < gb.length), (gb[j]'hj).ln.length ≤ 1000 := fun j hj => by have := hvb.gok.few j hj; omega
 have hwa : ∀ j (hj : j < ga.length), (ga[j]'hj).ln.length ≤ 1000 := fun j hj => by have := hva.gok.few j hj; omega
 refine c_region (wl (r_ld1 (v := .func _ _ _) Tryd.underlying53 rfl rfl (hb12.cell rfl)) ?_)
 refine wl_clv rfl fn15 (gvis_any (bM := b10) (bO := b11) (bT := b8) (bA := b4) (bB := b5) (bV := b12) (bm := b27) (base := base) (nf := fs.length) hTab9 hTI hva.s.vt hva.s.le ht0 hG19 hG29 hva.gx hvb.gx (loose_ln hvb.lo) hwb hwa rfl hlo9 l10 lo_hB9_b11 l11 lo_hB9_b8 l8 l4 l5 l12 lo_hB9_b27 l27 om om om om om om om om om om om _ 0 0 [] none 0 (fun _ => .slice none 0 0) (fun _ => []) _ (lack_le _ _) hva.gok.pos hvb.gok.pos hB9 hbs (OOk.nil _) List.nodup_nil dE hb10 hb8 hb4 hb5 hb12 hb27 hb11 (Own.nil _ _ _ _) (RowsG.nil _ _ _ _)) rfl rfl (fun e' w24 hr => ?_)
 obtain ⟨s, o, F, kk, ho0, hD, hF, rfl, hC, hok3⟩ := hr
 replace hB := hB.chG hC (fun g hg => by rcases zg_nil hg with e | e <;> omega)
 replace hb6 := hb6.chG hC (fun hg => by rcases zg_nil hg with e | e <;> omega)
 replace hb7 := hb7.chG hC (fun hg => by rcases zg_nil hg with e | e <;> omega)
 obtain ⟨h3, hh3, hok4⟩ : ∃ h3, h3 ≤ w24.heap.size ∧ (F.1 = 0 → VOk w24 h3 base b27 b11 gb.length (pG l ga gb) (ZG b27 b11 none (fun _ => .slice none 0 0) 0) _ (fun _ => []) 0 o) := ⟨_, Nat.le_refl _, fun h => (hok3 h).2⟩
 refine ⟨_, rfl, ?_⟩
 refine wmT rfl (wl (r_ex (v := .int _ _) rfl rfl) (wl (r_ex (v := .agg _) rfl rfl) ?_))
 refine wl_al (cs := #[.int .i64 0, .int .i64 0]) ze30_GenV rfl (fun b14 w25 hb14 hs hr => ?_)
 have or_b6_b14 : b6 < b14 := nLL hb6.lt hr
 have or_b7_b14 : b7 < b14 := nLL hb7.lt hr
 have or_hh3_b14 := (nLT hh3 hr)
 have lo14 := nLT (Bel.size hB) hr
 replace hB := hB.tr0 hs
 replace hb6 := hb6.tr0 hs
 replace hb7 := hb7.tr0 hs
 replace hok4 := fun h => (hok4 h).tr hs (by simp)
 replace hh3 := nLT hh3 (Same.size hs)
 clear hs
 clear hr
 refine waI rfl ?_
 refine wl_stW hb14 rfl rfl sz30_GenV rfl oneA (fun w26 hq hs => ?_)
 replace hB := hB.tr1 hs lo14
 replace hb6 := hb6.tr1 hs om
 replace hb7 := hb7.tr1 hs om
 replace hok4 := fun h => (hok4 h).tr hs (fun g hg => by rw [List.mem_singleton.1 hg]; omega)
 replace hh3 := nLT hh3 (Same.size hs)
 clear hs
 replace hb14 := hq
 refine x_nil (e_S (c_seq (c_region (wl (r_fa U30 sz3_Least dE rfl rfl rfl) (wl (r_ld1 (v := .int _ _) U3 rfl rfl (hb14.cell rfl)) ?_)))))
 refine wl (r_neq rfl rfl) (x_nil (e_S ?_))
 refine c_ifd rfl (fun c36 => ?_) (fun c36 => ?_)
 ·
  subst hF
  refine c_seq ?_
  refine c_all #[false, false, false, false] kR (by rfl) (fun w27 hs => ?_)
  replace hB := hB.tr0 hs
  replace hb6 := hb6.tr0 hs
  replace hb7 := hb7.tr0 hs
  replace hb14 := hb14.tr0 hs
  clear hs
  refine a_step [0, 1] kR rfl ⟨fun o hoq => ?_, fun o hoq => ?_, trivial⟩
  ·
   obtain rfl := sI hoq
   refine wl (r_bd (vs := #[]) (cs := #[.slice none 0 0]) (by simp) kR) (x_nil (e_A (listed' := #[true, false, false, false]) (by rfl) ?_))
   refine a_step [1, 2] kR rfl ⟨fun o hoq => ?_, fun o hoq => ?_, trivial⟩
   ·
    obtain rfl := sI hoq
    refine wl (r_ldS U30 rfl rfl hb14.range0 sz30_GenV) (x_nil (e_A (listed' := #[true, true, false, false]) (by rfl) ?_))
    refine a_step [2] kR rfl ⟨fun o hoq => ?_, trivial⟩
    obtain rfl := sI hoq
    refine wl_stW hb6 rfl rfl sz28_GenV rfl oneA (fun w28 hq hs => ?_)
    replace hB := hB.tr1 hs lo6
    replace hb7 := hb7.tr1 hs om
    replace hb14 := hb14.tr1 hs om
    clear hs
    replace hb6 := hq
    refine x_nil (e_A (listed' := #[true, true, true, false]) (by rfl) ?_)
    refine a_step [3] kR rfl ⟨fun o hoq => ?_, trivial⟩
    obtain rfl := sI hoq
    refine wl_stW hb7 rfl rfl sz30_GenV rfl oneA (fun w29 hq hs => ?_)
    replace hB := hB.tr1 hs lo7
    replace hb6 := hb6.tr1 hs om
    replace hb14 := hb14.tr1 hs om
    clear hs
    replace hb7 := hq
    refine x_nil (e_A (listed' := #[true, true, true, true]) (by rfl) (a_end kR (e_S (c_ret (e_Sr ?_)))))
    refine fin2 (.inl rfl) rfl (rr_cell U28 rfl rfl hb6.range0 sz28_GenV) (rr_cell U30 rfl rfl hb7.range0 sz30_GenV) ?_
    exact ⟨⟨none, [], 0, _, rfl, fun w2 _ => nodes_nil w2 none, .inr ⟨h0, o, by have h := hD; rw [Nat.zero_mul] at h; exact h, by rw [ho0]; rfl, .inl ⟨c36, rfl⟩⟩⟩, hB⟩
   obtain rfl := sI hoq
   refine wl_stW hb6 rfl rfl sz28_GenV rfl oneA (fun w30 hq hs => ?_)
   replace hB := hB.tr1 hs lo6
   replace hb7 := hb7.tr1 hs om
   replace hb14 := hb14.tr1 hs om
   clear hs
   replace hb6 := hq
   refine x_nil (e_A (listed' := #[true, false, true, false]) (by rfl) ?_)
   refine a_step [1] kR rfl ⟨fun o hoq => ?_, trivial⟩
   obtain rfl := sI hoq
   refine wl (r_ldS U30 rfl rfl hb14.range0 sz30_GenV) (x_nil (e_A (listed' := #[true, true, true, false]) (by rfl) ?_))
   refine a_step [3] kR rfl ⟨fun o hoq => ?_, trivial⟩
   obtain rfl := sI hoq
   refine wl_stW hb7 rfl rfl sz30_GenV rfl oneA (fun w31 hq hs => ?_)
   replace hB := hB.tr1 hs lo7
   replace hb6 := hb6.tr1 hs om
   replace hb14 := hb14.tr1 hs om
   clear hs
   replace hb7 := hq
   refine x_nil (e_A (listed' := #[true, true, true, true]) (by rfl) (a_end kR (e_S (c_ret (e_Sr ?_)))))
   refine fin2 (.inl rfl) rfl (rr_cell U28 rfl rfl hb6.range0 sz28_GenV) (rr_cell U30 rfl rfl hb7.range0 sz30_GenV) ?_
   exact ⟨⟨none, [], 0, _, rfl, fun w2 _ => nodes_nil w2 none, .inr ⟨h0, o, by have h := hD; rw [Nat.zero_mul] at h; exact h, by rw [ho0]; rfl, .inl ⟨c36, rfl⟩⟩⟩, hB⟩
  obtain rfl := sI hoq
  refine wl (r_ldS U30 rfl rfl hb14.range0 sz30_GenV) (x_nil (e_A (listed' := #[false, true, false, false]) (by rfl) ?_))
  refine a_step [0] kR rfl ⟨fun o hoq => ?_, trivial⟩
  obtain rfl := sI hoq
  refine wl (r_bd (vs := #[]) (cs := #[.slice none 0 0]) (by simp) kR) (x_nil (e_A (listed' := #[true, true, false, false]) (by rfl) ?_))
  refine a_step [2] kR rfl ⟨fun o hoq => ?_, trivial⟩
  obtain rfl := sI hoq
  refine wl_stW hb6 rfl rfl sz28_GenV rfl oneA (fun w32 hq hs => ?_)
  replace hB := hB.tr1 hs lo6
  replace hb7 := hb7.tr1 hs om
  replace hb14 := hb14.tr1 hs om
  clear hs
  replace hb6 := hq
  refine x_nil (e_A (listed' := #[true, true, true, false]) (by rfl) ?_)
  refine a_step [3] kR rfl ⟨fun o hoq => ?_, trivial⟩
  obtain rfl := sI hoq
  refine wl_stW hb7 rfl rfl sz30_GenV rfl oneA (fun w33 hq hs => ?_)
  replace hB := hB.tr1 hs lo7
  replace hb6 := hb6.tr1 hs om
  replace hb14 := hb14.tr1 hs om
  clear hs
  replace hb7 := hq
  refine x_nil (e_A (listed' := #[true, true, true, true]) (by rfl) (a_end kR (e_S (c_ret (e_Sr ?_)))))
  refine fin2 (.inl rfl) rfl (rr_cell U28 rfl rfl hb6.range0 sz28_GenV) (rr_cell U30 rfl rfl hb7.range0 sz30_GenV) ?_
  exact ⟨⟨none, [], 0, _, rfl, fun w2 _ => nodes_nil w2 none, .inr ⟨h0, o, by have h := hD; rw [Nat.zero_mul] at h; exact h, by rw [ho0]; rfl, .inl ⟨c36, rfl⟩⟩⟩, hB⟩
 have hF0 : F.1 = 0 := Decidable.not_not.1 c36
 have hFz : F = (0, 0) := hF.symm.trans (genS_ok dE (by rw [hF]; exact hF0)).1
 obtain ⟨N, cN, V, L, hLO, _, _, hb11, hoN, hRw, _, _, _⟩ := hok4 hF0
 rw [List.nil_append] at ho0
 refine c_skip (e_S (c_seq (c_region (wl (r_ldS U28 rfl rfl hb11.range0 sz28_GenV) (wl (r_bd (vs := #[]) (cs := #[.int .i64 0, .int .i64 0]) (by simp) kR) ?_)))))
 refine wl_stW hb6 rfl rfl sz28_GenV rfl oneA (fun w34 hq hs => ?_)
 replace hB := hB.tr1 hs lo6
 replace hb7 := hb7.tr1 hs om
 replace hb14 := hb14.tr1 hs om
 replace hb11 := hb11.tr1 hs om
 replace hoN := hoN.tr1 hs (fun g hg => by have := (hoN.lt g hg).1; omega)
 replace hRw := hRw.tr hs (fun g hg => by rw [List.mem_singleton.1 hg]; exact .inl om)
 clear hs
 replace hb6 := hq
 refine wl_stW hb7 rfl rfl sz30_GenV rfl oneA (fun w35 hq hs => ?_)
 replace hB := hB.tr1 hs lo7
 replace hb6 := hb6.tr1 hs om
 replace hb14 := hb14.tr1 hs om
 replace hb11 := hb11.tr1 hs om
 replace hoN := hoN.tr1 hs (fun g hg => by have := (hoN.lt g hg).1; omega)
 replace hRw := hRw.tr hs (fun g hg => by rw [List.mem_singleton.1 hg]; exact .inl om)
 clear hs
 replace hb7 := hq
 refine x_nil (e_S (c_ret (fin2 (.inl rfl) rfl (rr_cell U28 rfl rfl hb6.range0 sz28_GenV) (rr_cell U30 rfl rfl hb7.range0 sz30_GenV) ?_)))
 have hcl : (canG (pG l ga gb) o).length = o.length := by simp [canG]
 refine ⟨⟨N, canG (pG l ga gb) o, cN, (0, 0), by rw [hcl], fun w2 hf => gen_nodes hoN hRw hLO hlo hf, .inr ⟨h0, o, by have h := hD; rw [Nat.zero_mul] at h; exact h, by rw [← hFz, ← hF, ho0]; rfl, .inr ⟨rfl, rfl⟩⟩⟩, hB⟩
end Go.Proofs.YteenmolhopbpeaaDoor
namespace Go.Proofs.YteenmolhopbpeaaDoor
open Go.RowKit
def sharedG : List Nd := [⟨1, [(0, 1), (1, 1)]⟩, ⟨2, []⟩]
theorem shared_ok : (graphF pairT pairF sharedG).1 = 0 := by
  have h0 : Rch sharedG 0 := .zero
  have hu : (-1 : Int) = unrI sharedG := unr_is (.inl ⟨rfl, fun i hi => by
    have hi3 : i < 2 := hi
    match i, hi3 with
    | 0, _ => exact h0
    | 1, _ => exact Rch.step (x := (0, 1)) h0 dE dE⟩)
  rw [gf_in (by rw [pair_fault]), wi_zero (by decide +kernel) (by decide +kernel) om]
theorem two_mk {l : List Ty} {fs : List Ft} {ga gb : List Nd} (h1 : (graphF l fs ga).1 = 0) (h2 : (graphF l fs gb).1 = 0) : (twoG l fs ga gb).1 = 0 := by
  have hg := gv_of h1
  unfold twoG
  rw [if_neg (fun k => k h1)]
  rw [gf_in hg.h] at h2
  exact h2
theorem nodesb_any (A B : Option Addr) (n m c d : Nat) (ga gb : List Nd) (b : Bool) (w : World) (hA : NodesIn w A ga) (hBn : NodesIn w B gb) (ha : ga.length = n) (hb : gb.length = m) (he : decide (ga = gb) = b) : Calls Tryd.prog 10 #[.agg #[.slice A n c], .agg #[.slice B m d]] w fun e w' => e = .returned (.bool b) ∧ Bel w w' := by
  subst ha hb
  have h := nodes_any A B c d ga gb w hA hBn
  rw [he] at h
  exact h
theorem shared_any (w : World) : Calls Tryd.prog 7 #[] w fun e w' => (∃ A, e = .returned (.agg #[.slice A 2 2]) ∧ NodesIn w' A sharedG) ∧ Bel w w' := by
 refine enter Tryd.func7 Tryd.ntmps7 rfl (Nat.le_of_ble_eq_true rfl) ?_
 have hB : Bel w w := Below.refl _ _
 refine c_seq (c_region ?_)
 refine wl_al (cs := #[.slice none 0 0]) ze28_SFind rfl (fun b0 w1 hb0 hs hr => ?_)
 have lo0 := nLT (Bel.size hB) hr
 replace hB := hB.tr0 hs
 clear hs
 clear hr
 refine x_nil (e_S (c_seq (c_region (wl (r_bd2 (v0 := .int _ _) (v1 := .int _ _) (fun v0 v1 => #[v0, v1]) rfl rfl kR) (wl (r_bd2 (v0 := .int _ _) (v1 := .int _ _) (fun v0 v1 => #[v0, v1]) rfl rfl kR) ?_)))))
 refine wl_bs (cs := #[_, _, _, _]) [(0, .agg _), (1, .agg _)] rfl U37 sz36_GSearch ze36_SFind dE dE kR rfl (fun b3 w2 hb3 hs hr => ?_)
 have or_b0_b3 : b0 < b3 := nLL hb0.lt hr
 have lo3 := nLT (Bel.size hB) hr
 replace hB := hB.tr0 hs
 replace hb0 := hb0.tr0 hs
 clear hs
 clear hr
 refine wl (r_bd2 (v0 := .int _ _) (v1 := .slice _ _ _) (fun v0 v1 => #[v0, v1]) rfl rfl kR) (wl (r_bd1 (v0 := .int _ _) (fun v0 => #[v0, .slice none 0 0]) rfl kR) ?_)
 refine wl_bs (cs := #[_, _, _, _]) [(0, .agg _), (1, .agg _)] rfl U26 sz39_GTgt ze39 dE dE kR rfl (fun b6 w3 hb6 hs hr => ?_)
 have or_b0_b6 : b0 < b6 := nLL hb0.lt hr
 have or_b3_b6 : b3 < b6 := nLL hb3.lt hr
 have lo6 := nLT (Bel.size hB) hr
 replace hB := hB.tr0 hs
 replace hb0 := hb0.tr0 hs
 replace hb3 := hb3.tr0 hs
 clear hs
 clear hr
 refine wl (r_bd1 (v0 := .slice _ _ _) (fun v0 => #[v0]) rfl kR) ?_
 refine wl_stW hb0 rfl rfl sz28_SFind rfl oneA (fun w4 hq hs => ?_)
 replace hB := hB.tr1 hs lo0
 replace hb3 := hb3.tr1 hs om
 replace hb6 := hb6.tr1 hs om
 clear hs
 replace hb0 := hq
 refine x_nil (e_S (c_ret (fin1 (.inl rfl) rfl (rr_cell U28 rfl rfl hb0.range0 sz28_SFind) ?_)))
 exact ⟨⟨_, rfl, nodes_of_blk (l := sharedG) hb6 (.cons (links_of_blk [(0, 1), (1, 1)] hb3 rfl dE) (.cons (links_nil _ _) .nil)) dE⟩, hB⟩
end Go.Proofs.YteenmolhopbpeaaDoor
namespace Go.Proofs.YteenmolhopbpeaaDoor
open Go.RowKit
theorem DL.iso {g h : List Nd} {σ : Nat → Nat} {P : Nat → Prop} (hs : ∀ x, P x → succN h (σ x) = (succN g x).map σ) (hc : ∀ x, P x → ∀ t ∈ succN g x, P t) (hi : ∀ x y, P x → P y → σ x = σ y → x = y) {is a b : List Nat} (hD : DL g is a b) : (∀ x ∈ is, P x) → (∀ x ∈ a, P x) → DL h (is.map σ) (a.map σ) (b.map σ) ∧ ∀ x ∈ b, P x := by
  have hmem : ∀ {x : Nat} {o : List Nat}, P x → (∀ y ∈ o, P y) → (σ x ∈ o.map σ ↔ x ∈ o) := fun {x o} hx ho =>
    ⟨fun h1 => by
      obtain ⟨y, hy, e⟩ := List.mem_map.1 h1
      rw [← hi y x (ho y hy) hx e]; exact hy, fun h1 => List.mem_map.2 ⟨x, h1, rfl⟩⟩
  induction hD with
  | nil => exact fun _ ha => ⟨.nil, ha⟩
  | old h1 t ih =>
    intro h2 ha
    obtain ⟨h3, h4⟩ := ih (fun x hx => h2 x (List.mem_cons_of_mem _ hx)) ha
    exact ⟨.old ((hmem (h2 _ (List.mem_cons_self ..)) ha).2 h1) h3, h4⟩
  | new h1 s t ihs iht =>
    intro h2 ha
    have hp := h2 _ (List.mem_cons_self ..)
    obtain ⟨h3, h4⟩ := ihs (hc _ hp) (fun x hx => by
      rcases List.mem_append.1 hx with hx | hx
      · exact ha x hx
      · rw [List.mem_singleton.1 hx]; exact hp)
    obtain ⟨h5, h6⟩ := iht (fun x hx => h2 x (List.mem_cons_of_mem _ hx)) h4
    rw [List.map_append] at h3
    exact ⟨.new (fun h7 => h1 ((hmem hp ha).1 h7)) (by rw [hs _ hp]; exact h3) h5, h6⟩
theorem numO_inj {σ : Nat → Nat} {P : Nat → Prop} (hi : ∀ x y, P x → P y → σ x = σ y → x = y) : ∀ {o : List Nat} {x : Nat}, (∀ y ∈ o, P y) → P x → x ∈ o → (o.map σ).idxOf (σ x) = o.idxOf x
  | [], x, _, _, h => by cases h
  | a :: r, x, ho, hx, h => by
    by_cases e : a = x
    · subst e; simp
    · have e2 : σ a ≠ σ x := fun h2 => e (hi a x (ho a (List.mem_cons_self ..)) hx h2)
      have h3 : x ∈ r := by
        rcases List.mem_cons.1 h with h | h
        · exact absurd h.symm e
        · exact h
      have hb : (σ a == σ x) = false := by simpa using e2
      have hb2 : (a == x) = false := by simpa using e
      rw [List.map_cons, List.idxOf_cons, List.idxOf_cons, hb, hb2, cond_false, cond_false, numO_inj hi (fun y hy => ho y (List.mem_cons_of_mem _ hy)) hx h3]
structure NumG (G W : List Nd) (ps : List Nat) : Prop where
  nd_ : ps.Nodup
  len : W.length = ps.length
  at_ : ∀ k (hk : k < ps.length), nd W k = ⟨(k : Int), (nd G ps[k]).ln.map (fun y => (y.1, ((ps.idxOf y.2.toNat : Nat) : Int)))⟩
  clo : ∀ x ∈ ps, ∀ t ∈ succN G x, t ∈ ps
theorem NumG.succ {G W : List Nd} {ps : List Nat} (h : NumG G W ps) {k : Nat} (hk : k < ps.length) : succN W k = (succN G ps[k]).map (fun t => ps.idxOf t) := by
  unfold succN
  rw [h.at_ k hk]
  simp [List.map_map, Function.comp_def]
theorem NumG.dl {G W : List Nd} {ps oW : List Nat} (h : NumG G W ps) (h0 : ps.getD 0 0 = 0) (hp : 0 < ps.length) (hD : DL W [0] [] oW) :
    DL G [0] [] (oW.map (fun k => ps.getD k 0)) ∧ (∀ k ∈ oW, k < ps.length) := by
  have hg : ∀ k, k < ps.length → ps.getD k 0 = ps.getD k 0 ∧ ps.getD k 0 ∈ ps := fun k hk => ⟨rfl, by simp [List.getD, hk]⟩
  have hge : ∀ k (hk : k < ps.length), ps.getD k 0 = ps[k] := fun k hk => by simp [List.getD, hk]
  have r := DL.iso (h := G) (σ := fun k => ps.getD k 0) (P := fun k => k < ps.length) (fun x hx => by
      show succN G (ps.getD x 0) = _
      rw [h.succ hx, hge x hx, List.map_map]
      refine (List.map_id _).symm.trans (List.map_congr_left (fun t ht => ?_))
      have hm := h.clo _ (List.getElem_mem hx) t ht
      have hl := List.idxOf_lt_length_of_mem hm
      show t = ps.getD (ps.idxOf t) 0
      rw [hge _ hl, List.getElem_idxOf]) (fun x hx t ht => by
      rw [h.succ hx] at ht
      obtain ⟨u, hu, rfl⟩ := List.mem_map.1 ht
      exact List.idxOf_lt_length_of_mem (h.clo _ (List.getElem_mem hx) u hu)) (fun x y hx hy e => by
      have e2 : ps[x]'hx = ps[y]'hy := by rw [← hge x hx, ← hge y hy]; exact e
      have e3 := idx_get h.nd_ hx
      rw [e2, idx_get h.nd_ hy] at e3
      exact e3.symm) hD (fun x hx => by rw [List.mem_singleton.1 hx]; exact hp) (fun x hx => by cases hx)
  simp only [List.map_cons, List.map_nil, h0] at r
  exact r
theorem NumG.can {G W : List Nd} {ps oW : List Nat} (h : NumG G W ps) (hl : ∀ k ∈ oW, k < ps.length) (hm : ∀ k ∈ oW, ∀ t ∈ succN W k, t ∈ oW) {x : Nat} (hx : x < oW.length) :
    (nd (canG W oW) x).ty = (oW[x] : Int) ∧ (nd (canG W oW) x).ln = (nd (canG G (oW.map (fun k => ps.getD k 0))) x).ln := by
  have hk := hl _ (List.getElem_mem hx)
  have hge : ∀ k (hk : k < ps.length), ps.getD k 0 = ps[k] := fun k hk => by simp [List.getD, hk]
  have e1 : nd (canG W oW) x = canN W oW oW[x] := by simp [nd, canG, List.getD, hx]
  have e2 : nd (canG G (oW.map (fun k => ps.getD k 0))) x = canN G (oW.map (fun k => ps.getD k 0)) (ps[oW[x]]'hk) := by
    simp only [nd, canG, List.getD, List.map_map]
    simp [hx, hk]
  rw [e1, e2]
  refine ⟨by unfold canN; rw [h.at_ _ hk], ?_⟩
  unfold canN
  rw [h.at_ _ hk]
  show ((nd G (ps[oW[x]]'hk)).ln.map _).map (canL oW) = (nd G (ps[oW[x]]'hk)).ln.map (canL (oW.map (fun k => ps.getD k 0)))
  rw [List.map_map]
  refine List.map_congr_left (fun y hy => ?_)
  have ht : y.2.toNat ∈ ps := h.clo _ (List.getElem_mem hk) _ (List.mem_map.2 ⟨y, hy, rfl⟩)
  have hlt := List.idxOf_lt_length_of_mem ht
  have hin : ps.idxOf y.2.toNat ∈ oW := hm _ (List.getElem_mem hx) _ (by
    rw [h.succ hk]
    exact List.mem_map.2 ⟨_, List.mem_map.2 ⟨y, hy, rfl⟩, rfl⟩)
  have hnum := numO_inj (σ := fun k => ps.getD k 0) (P := fun k => k < ps.length) (fun x y hx hy e => by
      have e2 : ps[x]'hx = ps[y]'hy := by rw [← hge x hx, ← hge y hy]; exact e
      have e3 := idx_get h.nd_ hx
      rw [e2, idx_get h.nd_ hy] at e3
      exact e3.symm) hl hlt hin
  have hback : ps.getD (ps.idxOf y.2.toNat) 0 = y.2.toNat := by rw [hge _ hlt, List.getElem_idxOf]
  simp only [hback] at hnum
  have hin2 : y.2.toNat ∈ oW.map (fun k => ps.getD k 0) := List.mem_map.2 ⟨_, hin, hback⟩
  simp only [Function.comp_apply, canL, Int.toNat_natCast]
  rw [numO_in hin, numO_in hin2, hnum]
theorem genS_all0 {ok : Nat → Bool} : ∀ {xs : List Nat} {k : Nat}, k + xs.length ≤ 60 → (∀ z ∈ xs, ok z = true) → genS ok k xs = (0, 0)
  | [], _, _, _ => rfl
  | x :: xs, k, h, ho => by
    rw [List.length_cons] at h
    rw [genS_cons, if_neg om, if_pos (ho x (List.mem_cons_self ..))]
    exact genS_all0 om (fun z hz => ho z (List.mem_cons_of_mem _ hz))
theorem genS_pre {ok : Nat → Bool} {o : List Nat} {k : Nat} (hk : k ≤ o.length) (h6 : k ≤ 60) (hok : ∀ z ∈ o.take k, ok z = true) : genS ok 0 o = genS ok k (o.drop k) := by
  have h := genS_app (ok := ok) (xs := o.take k) (ys := o.drop k) (k := 0)
  have hl : (o.take k).length = k := by rw [List.length_take]; omega
  rw [List.take_append_drop, genS_all0 (by rw [hl]; omega) hok, if_pos rfl, hl, Nat.zero_add] at h
  exact h
theorem genS_lim {ok : Nat → Bool} {o : List Nat} (hk : 60 < o.length) (hok : ∀ z ∈ o.take 60, ok z = true) : genS ok 0 o = (17, -1) := by
  rw [genS_pre (Nat.le_of_lt hk) (Nat.le_refl _) hok, List.drop_eq_getElem_cons hk, genS_cons, if_pos rfl]
theorem genS_bad {ok : Nat → Bool} {o : List Nat} {k : Nat} (hk : k < o.length) (h6 : k < 60) (hok : ∀ z ∈ o.take k, ok z = true) (hb : ok o[k] = false) : genS ok 0 o = (16, (k : Int)) := by
  rw [genS_pre (Nat.le_of_lt hk) (Nat.le_of_lt h6) hok, List.drop_eq_getElem_cons hk, genS_cons, if_neg om, hb]; rfl
theorem take_ok {ok : Nat → Bool} {o : List Nat} {k : Nat} (hk : k < o.length) (hok : ∀ z ∈ o.take k, ok z = true) (h : ok o[k] = true) : ∀ z ∈ o.take (k + 1), ok z = true := fun z hz => by
  rw [List.take_succ_eq_append_getElem hk] at hz
  rcases List.mem_append.1 hz with hz | hz
  · exact hok z hz
  · rw [List.mem_singleton.1 hz]; exact h
def addC (ps : List Nat) (c : Nat) : List Nat := if c ∈ ps then ps else ps ++ [c]
theorem addC_mem (ps : List Nat) (c : Nat) : c ∈ addC ps c := by
  unfold addC; split
  · assumption
  · simp
theorem addC_pre (ps : List Nat) (c : Nat) : ∃ s, addC ps c = ps ++ s := by
  unfold addC; split
  · exact ⟨[], by simp⟩
  · exact ⟨_, rfl⟩
theorem addC_nd {ps : List Nat} (h : ps.Nodup) (c : Nat) : (addC ps c).Nodup := by
  unfold addC; split
  · exact h
  · rename_i hc
    exact List.nodup_append.2 ⟨h, by simp, fun x hx y hy => by rw [List.mem_singleton.1 hy]; exact fun e => hc (e ▸ hx)⟩
theorem idx_pre {ps s : List Nat} {c : Nat} (h : c ∈ ps) : (ps ++ s).idxOf c = ps.idxOf c := by simp [List.idxOf_append, h]
theorem idx_new {ps : List Nat} {c : Nat} (h : ¬ c ∈ ps) : (addC ps c).idxOf c = ps.length := by simp [addC, h, List.idxOf_append]
theorem idx_old {ps : List Nat} (hn : ps.Nodup) {k : Nat} (hk : k < ps.length) : (addC ps ps[k]) = ps ∧ (addC ps ps[k]).idxOf ps[k] = k := by
  have e : addC ps ps[k] = ps := by simp [addC]
  exact ⟨e, by rw [e]; exact idx_get hn hk⟩
def lnW (ps : List Nat) (xs : List (Int × Int)) : List (Int × Int) := xs.map (fun y => (y.1, ((ps.idxOf y.2.toNat : Nat) : Int)))
theorem lnW_pre {ps s : List Nat} {xs : List (Int × Int)} (h : ∀ y ∈ xs, y.2.toNat ∈ ps) : lnW (ps ++ s) xs = lnW ps xs := List.map_congr_left (fun y hy => by rw [idx_pre (h y hy)])
theorem lnW_snoc {ps : List Nat} {xs : List (Int × Int)} (h : ∀ y ∈ xs, y.2.toNat ∈ ps) (f : Int) (c : Nat) : lnW (addC ps c) (xs ++ [(f, (c : Int))]) = lnW ps xs ++ [(f, (((addC ps c).idxOf c : Nat) : Int))] := by
  obtain ⟨s, hs⟩ := addC_pre ps c
  unfold lnW
  rw [List.map_append]
  have h1 : lnW (addC ps c) xs = lnW ps xs := by rw [hs]; exact lnW_pre h
  unfold lnW at h1
  rw [h1]; simp
def InL (a b : List Nd) (i j q p : Nat) (xs : List (Int × Int)) : Prop :=
  (xs = pLq a b i j q ∧ ∀ r (hr : r < (nd b j).ln.length) (hq : q < (nd a i).ln.length), r < p → ¬ ((nd b j).ln[r]).1 = ((nd a i).ln[q]).1) ∨
  (xs = pLq a b i j (q + 1) ∧ ∃ r, ∃ (hr : r < (nd b j).ln.length) (hq : q < (nd a i).ln.length), r < p ∧ ((nd b j).ln[r]).1 = ((nd a i).ln[q]).1)
theorem InL.start (a b : List Nd) (i j q : Nat) : InL a b i j q 0 (pLq a b i j q) := .inl ⟨rfl, fun r _ _ h => by omega⟩
theorem InL.no {a b : List Nd} {i j q p : Nat} {xs : List (Int × Int)} (h : InL a b i j q p xs) (hp : p < (nd b j).ln.length) (hq : q < (nd a i).ln.length) (hn : ¬ ((nd b j).ln[p]).1 = ((nd a i).ln[q]).1) : InL a b i j q (p + 1) xs := by
  rcases h with ⟨e, h⟩ | ⟨e, r, hr, hq2, h1, h2⟩
  · refine .inl ⟨e, fun r hr hq2 h1 => ?_⟩
    by_cases e2 : r = p
    · subst e2; exact hn
    · exact h r hr hq2 om
  · exact .inr ⟨e, r, hr, hq2, by omega, h2⟩
theorem InL.fin {a b : List Nd} {i j q : Nat} {xs : List (Int × Int)} (h : InL a b i j q (nd b j).ln.length xs) (hq : q < (nd a i).ln.length) : xs = pLq a b i j (q + 1) := by
  rcases h with ⟨e, h⟩ | ⟨e, _⟩
  · rw [e, pLq_no hq (by rw [tgt_no (fun r hr => h r hr hq hr)]; decide)]
  · exact e
theorem srt_inj {xs : List (Int × Int)} (hs : Srt xs) {p r : Nat} (hp : p < xs.length) (hr : r < xs.length) (he : (xs[p]).1 = (xs[r]).1) : p = r := by
  rcases Nat.lt_trichotomy p r with h | h | h
  · have := List.pairwise_iff_getElem.1 hs p r hp hr h
    omega
  · exact h
  · have := List.pairwise_iff_getElem.1 hs r p hr hp h
    omega
theorem InL.yes {a b : List Nd} {i j q p u t : Nat} {xs : List (Int × Int)} (h : InL a b i j q p xs) (hs : Srt (nd b j).ln) (hp : p < (nd b j).ln.length) (hq : q < (nd a i).ln.length) (he : ((nd b j).ln[p]).1 = ((nd a i).ln[q]).1) (hu : ((nd a i).ln[q]).2 = (u : Int)) (ht : ((nd b j).ln[p]).2 = (t : Int)) :
    xs = pLq a b i j q ∧ InL a b i j q (p + 1) (xs ++ [(((nd a i).ln[q]).1, ((u * b.length + t : Nat) : Int))]) := by
  rcases h with ⟨e, h⟩ | ⟨e, r, hr, hq2, h1, h2⟩
  · have htg : tgt (nd b j).ln ((nd a i).ln[q]).1 = (t : Int) := by rw [← he, tgt_in hs (List.getElem_mem hp), ht]
    exact ⟨e, .inr ⟨by rw [e, pLq_yes hq hu htg], p, hp, hq, by omega, he⟩⟩
  · have := srt_inj hs hp hr (he.trans h2.symm)
    omega
structure PsOk (G : List Nd) (ps : List Nat) (k : Nat) : Prop where
  nd_ : ps.Nodup
  pos : 0 < ps.length
  zero : ps.getD 0 0 = 0
  lt : ∀ z ∈ ps, z < G.length
  le : k ≤ ps.length
  clo : ∀ j, j < k → ∀ t ∈ succN G (ps.getD j 0), t ∈ ps
theorem PsOk.start {G : List Nd} (h : 0 < G.length) : PsOk G [0] 0 := ⟨by simp, by simp, rfl, fun z hz => by rw [List.mem_singleton.1 hz]; exact h, Nat.zero_le _, fun j hj => by omega⟩
theorem PsOk.len {G : List Nd} {ps : List Nat} {k : Nat} (h : PsOk G ps k) : ps.length ≤ G.length := by
  have := nodup_le (ys := List.range G.length) h.nd_ (fun x hx => List.mem_range.2 (h.lt x hx))
  simpa using this
theorem getD_pre {ps s : List Nat} {j : Nat} (h : j < ps.length) : (ps ++ s).getD j 0 = ps.getD j 0 := by simp [List.getD, List.getElem?_append_left h]
theorem PsOk.add {G : List Nd} {ps : List Nat} {k c : Nat} (h : PsOk G ps k) (hc : c < G.length) : PsOk G (addC ps c) k := by
  obtain ⟨s, hs⟩ := addC_pre ps c
  refine ⟨addC_nd h.nd_ c, by rw [hs, List.length_append]; have := h.pos; omega, by rw [hs, getD_pre h.pos]; exact h.zero, fun z hz => ?_, by rw [hs, List.length_append]; have := h.le; omega, fun j hj t ht => ?_⟩
  · unfold addC at hz
    split at hz
    · exact h.lt z hz
    · rcases List.mem_append.1 hz with hz | hz
      · exact h.lt z hz
      · rw [List.mem_singleton.1 hz]; exact hc
  · have hl := h.le
    rw [hs, getD_pre om] at ht
    rw [hs]; exact List.mem_append_left _ (h.clo j hj t ht)
theorem PsOk.next {G : List Nd} {ps : List Nat} {k : Nat} (h : PsOk G ps k) (hk : k < ps.length) (hc : ∀ t ∈ succN G (ps.getD k 0), t ∈ ps) : PsOk G ps (k + 1) :=
  ⟨h.nd_, h.pos, h.zero, h.lt, hk, fun j hj t ht => by
    by_cases e : j = k
    · subst e; exact hc t ht
    · exact h.clo j om t ht⟩
theorem PsOk.num {G W : List Nd} {ps : List Nat} (h : PsOk G ps ps.length) (hl : W.length = ps.length) (ha : ∀ k (_ : k < ps.length), nd W k = ⟨(k : Int), lnW ps (nd G (ps.getD k 0)).ln⟩) : NumG G W ps :=
  ⟨h.nd_, hl, fun k hk => by rw [ha k hk]; simp [List.getD, hk, lnW], fun x hx t ht => by
    obtain ⟨j, hj, e⟩ := List.getElem_of_mem hx
    refine h.clo j hj t ?_
    have : ps.getD j 0 = x := by simp [List.getD, hj, e]
    rw [this]; exact ht⟩
def prN (m z : Nat) : Int × Int := (((z / m : Nat) : Int), ((z % m : Nat) : Int))
def prL (m : Nat) (ps : List Nat) : List (Int × Int) := ps.map (prN m)
theorem prL_snoc (m : Nat) (ps : List Nat) (c : Nat) : lnV (prL m ps) ++ [.int .i64 (prN m c).1, .int .i64 (prN m c).2] = lnV (prL m (ps ++ [c])) := by
  rw [lnV_snoc]; simp [prL]
theorem prL_get {m k : Nat} {ps : List Nat} (hk : k < ps.length) : (lnV (prL m ps))[k * 2]? = some (.int .i64 (((ps.getD k 0) / m : Nat) : Int)) ∧ (lnV (prL m ps))[k * 2 + 1]? = some (.int .i64 (((ps.getD k 0) % m : Nat) : Int)) := by
  have h := lnV_get (prL m ps) k (by simp [prL, hk])
  have e : (prL m ps)[k]'(by simp [prL, hk]) = prN m (ps.getD k 0) := by simp [prL, List.getD, hk]
  rw [e] at h; exact h
def linkG : List Nd := [⟨3, [(0, 1)]⟩, ⟨1, []⟩]
theorem link_ok : (graphF pairT pairF linkG).1 = 0 := by
  have h0 : Rch linkG 0 := .zero
  have hu : (-1 : Int) = unrI linkG := unr_is (.inl ⟨rfl, fun i hi => by
    have hi3 : i < 2 := hi
    match i, hi3 with
    | 0, _ => exact h0
    | 1, _ => exact Rch.step (x := (0, 1)) h0 dE dE⟩)
  rw [gf_in (by rw [pair_fault]), wi_zero (by decide +kernel) (by decide +kernel) om]
theorem sl_dl : DL (pG pairT sharedG linkG) [0] [] [0, 3] := by
  have e0 : succN (pG pairT sharedG linkG) 0 = [3] := by decide +kernel
  have e1 : succN (pG pairT sharedG linkG) 3 = [] := by decide +kernel
  refine .new dE (o1 := [0, 3]) ?_ .nil
  rw [e0]
  exact .new dE (o1 := [0, 3]) (by rw [e1]; exact .nil) .nil
theorem sl_gen {f : Fl} {X : List Nd} (h : GenS pairT pairF sharedG linkG f X) : f = (0, 0) ∧ X = [⟨1, [(0, 1)]⟩, ⟨0, []⟩] := by
  rcases h with ⟨h, _⟩ | ⟨_, o, hD, hg, h⟩
  · exact absurd (two_mk shared_ok link_ok) h
  · have e := hD.det sl_dl
    subst e
    have e2 : genS (pok pairT sharedG linkG) 0 [0, 3] = (0, 0) := by decide +kernel
    rcases h with ⟨h, _⟩ | ⟨_, rfl⟩
    · exact absurd (by rw [hg, e2]) h
    · exact ⟨hg.trans e2, by decide +kernel⟩
end Go.Proofs.YteenmolhopbpeaaDoor
