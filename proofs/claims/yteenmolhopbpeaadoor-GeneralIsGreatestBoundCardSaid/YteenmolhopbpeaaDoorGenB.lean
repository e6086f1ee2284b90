/- What these functions of the program compute, at every world: glosswright/general.Generalize. What these functions of the program compute, at every world: glosswright/glosswrightlaw3.shared. Generalization as the greatest bound, said of what Generalize returns. No program in sight. -/
import Derived.Test.YteenmolhopbpeaaDoorU
import Derived.Test.YteenmolhopbpeaaDoorGenV
import Derived.Test.YteenmolhopbpeaaDoorSFind
import Derived.Test.YteenmolhopbpeaaDoorOrd
import Derived.Test.YteenmolhopbpeaaDoorComp
import Derived.Test.YteenmolhopbpeaaDoorGTgt
import Derived.Test.YteenmolhopbpeaaDoorGenW
namespace Go.Proofs.YteenmolhopbpeaaDoor
open Go.RowKit
theorem fn14_GenZ : callable Tryd.prog 14 = true := by kernel_rfl
theorem sz25_GenZ : (Tryd.prog.info? 25).map (·.size) = some 2 := by kernel_rfl
theorem sz52 : (Tryd.prog.info? 52).map (·.size) = some 1 := by kernel_rfl
theorem sz53 : (Tryd.prog.info? 53).map (·.size) = some 1 := by kernel_rfl
theorem ze28_GenZ : (Tryd.prog.info? 28).map (·.zero) = some (some (.agg #[.slice none 0 0])) := by kernel_rfl
theorem ze49_GenZ : (Tryd.prog.info? 49).map (·.zero) = some (some (.agg #[.slice none 0 0, .slice none 0 0])) := by kernel_rfl
theorem ze52 : (Tryd.prog.info? 52).map (·.zero) = some (some (.map none)) := by kernel_rfl
theorem ze53 : (Tryd.prog.info? 53).map (·.zero) = some (some (.nilFunc)) := by kernel_rfl
set_option maxRecDepth 100000 in
set_option maxHeartbeats 4000000 in
theorem gen_any (A B G1 G2 : Option Addr) (c d c1 c2 : Nat) (l : List Ty) (fs : List Ft) (ga gb : List Nd) (w : World) (hTab : TabIn w) (hT : TypesIn w A l) (hF : FeatsIn w B fs) (hG1 : NodesIn w G1 ga) (hG2 : NodesIn w G2 gb) : Calls Tryd.prog 5 #[.agg #[.slice A l.length c, .slice B fs.length d], .agg #[.slice G1 ga.length c1], .agg #[.slice G2 gb.length c2]] w fun e w' => (∃ A X cX f, e = .returned (.tuple #[.agg #[.slice A (List.length X) cX], .agg #[.int .i64 (Prod.fst f), .int .i64 f.2]]) ∧ (∀ w2, FrSame w.heap.size w' w2 → NodesIn w2 A X) ∧ GenS l fs ga gb f X) ∧ Bel w w' := by
 refine enter Tryd.func5 Tryd.ntmps5 rfl (Nat.le_of_ble_eq_true rfl) ?_
 have hB : Bel w w := Below.refl _ _
 refine c_seq (c_region ?_)
 refine wl_bx (v := .agg #[_, _]) (cs := #[_, _]) rfl rfl (fun b3 w1 hb3 hs hr => ?_)
 have lo3 := nLT (Bel.size hB) hr
 replace hB := hB.tr0 hs
 clear hs
 clear hr
 refine wl_bx (v := .agg #[_]) (cs := #[_]) rfl rfl (fun b4 w2 hb4 hs hr => ?_)
 have or_b3_b4 : b3 < b4 := nLL hb3.lt hr
 have lo4 := nLT (Bel.size hB) hr
 replace hB := hB.tr0 hs
 replace hb3 := hb3.tr0 hs
 clear hs
 clear hr
 refine wl_bx (v := .agg #[_]) (cs := #[_]) rfl rfl (fun b5 w3 hb5 hs hr => ?_)
 have or_b3_b5 : b3 < b5 := nLL hb3.lt hr
 have or_b4_b5 : b4 < b5 := nLL hb4.lt hr
 have lo5 := nLT (Bel.size hB) hr
 replace hB := hB.tr0 hs
 replace hb3 := hb3.tr0 hs
 replace hb4 := hb4.tr0 hs
 clear hs
 clear hr
 refine wl_al (cs := #[.slice none 0 0]) ze28_GenZ rfl (fun b6 w4 hb6 hs hr => ?_)
 have or_b3_b6 : b3 < b6 := nLL hb3.lt hr
 have or_b4_b6 : b4 < b6 := nLL hb4.lt hr
 have or_b5_b6 : b5 < b6 := nLL hb5.lt hr
 have lo6 := nLT (Bel.size hB) hr
 replace hB := hB.tr0 hs
 replace hb3 := hb3.tr0 hs
 replace hb4 := hb4.tr0 hs
 replace hb5 := hb5.tr0 hs
 clear hs
 clear hr
 refine wl_al (cs := #[.int .i64 0, .int .i64 0]) ze30_GenV rfl (fun b7 w5 hb7 hs hr => ?_)
 have or_b3_b7 : b3 < b7 := nLL hb3.lt hr
 have or_b4_b7 : b4 < b7 := nLL hb4.lt hr
 have or_b5_b7 : b5 < b7 := nLL hb5.lt hr
 have or_b6_b7 : b6 < b7 := nLL hb6.lt hr
 have lo7 := nLT (Bel.size hB) hr
 replace hB := hB.tr0 hs
 replace hb3 := hb3.tr0 hs
 replace hb4 := hb4.tr0 hs
 replace hb5 := hb5.tr0 hs
 replace hb6 := hb6.tr0 hs
 clear hs
 clear hr
 refine x_nil (e_S (c_seq (c_region (wl (r_ldS U25 rfl rfl hb3.range0 sz25_GenZ) (wl (r_ldS U28 rfl rfl hb4.range0 sz28_GenV) ?_)))))
 refine wl (r_ldS U28 rfl rfl hb5.range0 sz28_GenV) ?_
 refine wl_cl fn14_GenZ (both_any A B G1 G2 c d c1 c2 l fs ga gb _ (hTab.mono hB) (hT.mono hB) (hF.mono hB) (hG1.mono hB) (hG2.mono hB)) rfl (fun e' w6 hr => ?_)
 obtain ⟨⟨U, D, n1, k1, n2, k2, rfl, hTB⟩, hs⟩ := hr
 replace hs := Same.of_bel hs
 replace hB := hB.tr0 hs
 replace hb3 := hb3.tr0 hs
 replace hb4 := hb4.tr0 hs
 replace hb5 := hb5.tr0 hs
 replace hb6 := hb6.tr0 hs
 replace hb7 := hb7.tr0 hs
 clear hs
 have hB9 : Bel w6 w6 := Below.refl _ _
 have hTab9 := hTab.mono hB
 have hG19 := hG1.mono hB
 have hG29 := hG2.mono hB
 refine ⟨_, rfl, ?_⟩
 refine wmT rfl (wl (r_ex (v := _) rfl rfl) (wl (r_ex (v := _) rfl rfl) ?_))
 refine wl_al (cs := #[.slice none 0 0, .slice none 0 0]) ze49_GenZ rfl (fun b8 w7 hb8 hs hr => ?_)
 have or_b3_b8 : b3 < b8 := nLL hb3.lt hr
 have or_b4_b8 : b4 < b8 := nLL hb4.lt hr
 have or_b5_b8 : b5 < b8 := nLL hb5.lt hr
 have or_b6_b8 : b6 < b8 := nLL hb6.lt hr
 have or_b7_b8 : b7 < b8 := nLL hb7.lt hr
 have lo8 := nLT (Bel.size hB) hr
 have lo_hB9_b8 := nLT (Bel.size hB9) hr
 replace hB := hB.tr0 hs
 replace hb3 := hb3.tr0 hs
 replace hb4 := hb4.tr0 hs
 replace hb5 := hb5.tr0 hs
 replace hb6 := hb6.tr0 hs
 replace hb7 := hb7.tr0 hs
 replace hB9 := hB9.tr0 hs
 clear hs
 clear hr
 refine wl_al (cs := #[.int .i64 0, .int .i64 0]) ze30_GenV rfl (fun b9 w8 hb9 hs hr => ?_)
 have or_b3_b9 : b3 < b9 := nLL hb3.lt hr
 have or_b4_b9 : b4 < b9 := nLL hb4.lt hr
 have or_b5_b9 : b5 < b9 := nLL hb5.lt hr
 have or_b6_b9 : b6 < b9 := nLL hb6.lt hr
 have or_b7_b9 : b7 < b9 := nLL hb7.lt hr
 have or_b8_b9 : b8 < b9 := nLL hb8.lt hr
 have lo9 := nLT (Bel.size hB) hr
 have lo_hB9_b9 := nLT (Bel.size hB9) hr
 replace hB := hB.tr0 hs
 replace hb3 := hb3.tr0 hs
 replace hb4 := hb4.tr0 hs
 replace hb5 := hb5.tr0 hs
 replace hb6 := hb6.tr0 hs
 replace hb7 := hb7.tr0 hs
 replace hB9 := hB9.tr0 hs
 replace hb8 := hb8.tr0 hs
 clear hs
 clear hr
 refine wl_stW hb8 rfl rfl sz49_GenV rfl oneA (fun w9 hq hs => ?_)
 replace hB := hB.tr1 hs lo8
 replace hb3 := hb3.tr1 hs om
 replace hb4 := hb4.tr1 hs om
 replace hb5 := hb5.tr1 hs om
 replace hb6 := hb6.tr1 hs om
 replace hb7 := hb7.tr1 hs om
 replace hB9 := hB9.tr1 hs lo_hB9_b8
 replace hb9 := hb9.tr1 hs om
 clear hs
 replace hb8 := hq
 refine wl_stW hb9 rfl rfl sz30_GenV rfl oneA (fun w10 hq hs => ?_)
 replace hB := hB.tr1 hs lo9
 replace hb3 := hb3.tr1 hs om
 replace hb4 := hb4.tr1 hs om
 replace hb5 := hb5.tr1 hs om
 replace hb6 := hb6.tr1 hs om
 replace hb7 := hb7.tr1 hs om
 replace hB9 := hB9.tr1 hs lo_hB9_b9
 replace hb8 := hb8.tr1 hs om
 clear hs
 replace hb9 := hq
 refine x_nil (e_S (c_seq (c_seq (c_region (wl (r_fa U30 sz3_GSearch dE rfl rfl rfl) ?_)))))
 refine wl (r_ld1 (v := .int _ _) U3 rfl rfl (hb9.cell rfl)) (wl (r_neq rfl rfl) (x_nil (e_S ?_)))
 refine c_ifd rfl (fun c24 => ?_) (fun c24 => ?_)
 ·
  refine c_seq ?_
  refine c_all #[false, false, false, false] kR (by rfl) (fun w11 hs => ?_)
  replace hB := hB.tr0 hs
  replace hb3 := hb3.tr0 hs
  replace hb4 := hb4.tr0 hs
  replace hb5 := hb5.tr0 hs
  replace hb6 := hb6.tr0 hs
  replace hb7 := hb7.tr0 hs
  replace hb8 := hb8.tr0 hs
  replace hb9 := hb9.tr0 hs
  clear hs
  refine a_step [0, 1] kR rfl ⟨fun o hoq => ?_, fun o hoq => ?_, trivial⟩
  ·
   obtain rfl := sI hoq
   refine wl (r_bd (vs := #[]) (cs := #[.slice none 0 0]) (by simp) kR) (x_nil (e_A (listed' := #[true, false, false, false]) (by rfl) ?_))
   refine a_step [1, 2] kR rfl ⟨fun o hoq => ?_, fun o hoq => ?_, trivial⟩
   ·
    obtain rfl := sI hoq
    refine wl (r_ldS U30 rfl rfl hb9.range0 sz30_GenV) (x_nil (e_A (listed' := #[true, true, false, false]) (by rfl) ?_))
    refine a_step [2] kR rfl ⟨fun o hoq => ?_, trivial⟩
    obtain rfl := sI hoq
    refine wl_stW hb6 rfl rfl sz28_GenV rfl oneA (fun w12 hq hs => ?_)
    replace hB := hB.tr1 hs lo6
    replace hb3 := hb3.tr1 hs om
    replace hb4 := hb4.tr1 hs om
    replace hb5 := hb5.tr1 hs om
    replace hb7 := hb7.tr1 hs om
    replace hb8 := hb8.tr1 hs om
    replace hb9 := hb9.tr1 hs om
    clear hs
    replace hb6 := hq
    refine x_nil (e_A (listed' := #[true, true, true, false]) (by rfl) ?_)
    refine a_step [3] kR rfl ⟨fun o hoq => ?_, trivial⟩
    obtain rfl := sI hoq
    refine wl_stW hb7 rfl rfl sz30_GenV rfl oneA (fun w13 hq hs => ?_)
    replace hB := hB.tr1 hs lo7
    replace hb3 := hb3.tr1 hs om
    replace hb4 := hb4.tr1 hs om
    replace hb5 := hb5.tr1 hs om
    replace hb6 := hb6.tr1 hs om
    replace hb8 := hb8.tr1 hs om
    replace hb9 := hb9.tr1 hs om
    clear hs
    replace hb7 := hq
    refine x_nil (e_A (listed' := #[true, true, true, true]) (by rfl) (a_end kR (e_S (c_ret (e_Sr ?_)))))
    refine fin2 (.inl rfl) rfl (rr_cell U28 rfl rfl hb6.range0 sz28_GenV) (rr_cell U30 rfl rfl hb7.range0 sz30_GenV) ?_
    exact ⟨⟨none, [], 0, twoG l fs ga gb, rfl, fun w2 _ => nodes_nil w2 none, .inl ⟨c24, rfl, rfl⟩⟩, hB⟩
   obtain rfl := sI hoq
   refine wl_stW hb6 rfl rfl sz28_GenV rfl oneA (fun w14 hq hs => ?_)
   replace hB := hB.tr1 hs lo6
   replace hb3 := hb3.tr1 hs om
   replace hb4 := hb4.tr1 hs om
   replace hb5 := hb5.tr1 hs om
   replace hb7 := hb7.tr1 hs om
   replace hb8 := hb8.tr1 hs om
   replace hb9 := hb9.tr1 hs om
   clear hs
   replace hb6 := hq
   refine x_nil (e_A (listed' := #[true, false, true, false]) (by rfl) ?_)
   refine a_step [1] kR rfl ⟨fun o hoq => ?_, trivial⟩
   obtain rfl := sI hoq
   refine wl (r_ldS U30 rfl rfl hb9.range0 sz30_GenV) (x_nil (e_A (listed' := #[true, true, true, false]) (by rfl) ?_))
   refine a_step [3] kR rfl ⟨fun o hoq => ?_, trivial⟩
   obtain rfl := sI hoq
   refine wl_stW hb7 rfl rfl sz30_GenV rfl oneA (fun w15 hq hs => ?_)
   replace hB := hB.tr1 hs lo7
   replace hb3 := hb3.tr1 hs om
   replace hb4 := hb4.tr1 hs om
   replace hb5 := hb5.tr1 hs om
   replace hb6 := hb6.tr1 hs om
   replace hb8 := hb8.tr1 hs om
   replace hb9 := hb9.tr1 hs om
   clear hs
   replace hb7 := hq
   refine x_nil (e_A (listed' := #[true, true, true, true]) (by rfl) (a_end kR (e_S (c_ret (e_Sr ?_)))))
   refine fin2 (.inl rfl) rfl (rr_cell U28 rfl rfl hb6.range0 sz28_GenV) (rr_cell U30 rfl rfl hb7.range0 sz30_GenV) ?_
   exact ⟨⟨none, [], 0, twoG l fs ga gb, rfl, fun w2 _ => nodes_nil w2 none, .inl ⟨c24, rfl, rfl⟩⟩, hB⟩
  obtain rfl := sI hoq
  refine wl (r_ldS U30 rfl rfl hb9.range0 sz30_GenV) (x_nil (e_A (listed' := #[false, true, false, false]) (by rfl) ?_))
  refine a_step [0] kR rfl ⟨fun o hoq => ?_, trivial⟩
  obtain rfl := sI hoq
  refine wl (r_bd (vs := #[]) (cs := #[.slice none 0 0]) (by simp) kR) (x_nil (e_A (listed' := #[true, true, false, false]) (by rfl) ?_))
  refine a_step [2] kR rfl ⟨fun o hoq => ?_, trivial⟩
  obtain rfl := sI hoq
  refine wl_stW hb6 rfl rfl sz28_GenV rfl oneA (fun w16 hq hs => ?_)
  replace hB := hB.tr1 hs lo6
  replace hb3 := hb3.tr1 hs om
  replace hb4 := hb4.tr1 hs om
  replace hb5 := hb5.tr1 hs om
  replace hb7 := hb7.tr1 hs om
  replace hb8 := hb8.tr1 hs om
  replace hb9 := hb9.tr1 hs om
  clear hs
  replace hb6 := hq
  refine x_nil (e_A (listed' := #[true, true, true, false]) (by rfl) ?_)
  refine a_step [3] kR rfl ⟨fun o hoq => ?_, trivial⟩
  obtain rfl := sI hoq
  refine wl_stW hb7 rfl rfl sz30_GenV rfl oneA (fun w17 hq hs => ?_)
  replace hB := hB.tr1 hs lo7
  replace hb3 := hb3.tr1 hs om
  replace hb4 := hb4.tr1 hs om
  replace hb5 := hb5.tr1 hs om
  replace hb6 := hb6.tr1 hs om
  replace hb8 := hb8.tr1 hs om
  replace hb9 := hb9.tr1 hs om
  clear hs
  replace hb7 := hq
  refine x_nil (e_A (listed' := #[true, true, true, true]) (by rfl) (a_end kR (e_S (c_ret (e_Sr ?_)))))
  refine fin2 (.inl rfl) rfl (rr_cell U28 rfl rfl hb6.range0 sz28_GenV) (rr_cell U30 rfl rfl hb7.range0 sz30_GenV) ?_
  exact ⟨⟨none, [], 0, twoG l fs ga gb, rfl, fun w2 _ => nodes_nil w2 none, .inl ⟨c24, rfl, rfl⟩⟩, hB⟩
 have h0 := Decidable.not_not.1 c24
 obtain ⟨⟨hva, hvb⟩, _⟩ := two_gv h0
 have hzz := two_zz h0
 obtain ⟨bu, bd, ⟨rfl, rfl, rfl, rfl, rfl, rfl⟩, hTI⟩ := hTB h0
 have ht0 := types0g hva.h
 have hf40 := hva.few
 refine c_skip (e_S (c_seq (c_region ?_)))
 refine wl_mmA (m := gb.length) (fun b27 w18 hb27 hs hr => ?_)
 have or_b3_b27 : b3 < b27 := nLL hb3.lt hr
 have or_b4_b27 : b4 < b27 := nLL hb4.lt hr
 have or_b5_b27 : b5 < b27 := nLL hb5.lt hr
 have or_b6_b27 : b6 < b27 := nLL hb6.lt hr
 have or_b7_b27 : b7 < b27 := nLL hb7.lt hr
 have or_b8_b27 : b8 < b27 := nLL hb8.lt hr
 have or_b9_b27 : b9 < b27 := nLL hb9.lt hr
 have lo27 := nLT (Bel.size hB) hr
 have lo_hB9_b27 := nLT (Bel.size hB9) hr
 replace hB := hB.tr0 hs
 replace hb3 := hb3.tr0 hs
 replace hb4 := hb4.tr0 hs
 replace hb5 := hb5.tr0 hs
 replace hb6 := hb6.tr0 hs
 replace hb7 := hb7.tr0 hs
 replace hB9 := hB9.tr0 hs
 replace hb8 := hb8.tr0 hs
 replace hb9 := hb9.tr0 hs
 clear hs
 clear hr
 refine wl_al (cs := #[.map none]) ze52 rfl (fun b10 w19 hb10 hs hr => ?_)
 have or_b3_b10 : b3 < b10 := nLL hb3.lt hr
 have or_b4_b10 : b4 < b10 := nLL hb4.lt hr
 have or_b5_b10 : b5 < b10 := nLL hb5.lt hr
 have or_b6_b10 : b6 < b10 := nLL hb6.lt hr
 have or_b7_b10 : b7 < b10 := nLL hb7.lt hr
 have or_b8_b10 : b8 < b10 := nLL hb8.lt hr
 have or_b9_b10 : b9 < b10 := nLL hb9.lt hr
 have or_b27_b10 : b27 < b10 := nLL hb27.lt hr
 have lo10 := nLT (Bel.size hB) hr
 have lo_hB9_b10 := nLT (Bel.size hB9) hr
 replace hB := hB.tr0 hs
 replace hb3 := hb3.tr0 hs
 replace hb4 := hb4.tr0 hs
 replace hb5 := hb5.tr0 hs
 replace hb6 := hb6.tr0 hs
 replace hb7 := hb7.tr0 hs
 replace hB9 := hB9.tr0 hs
 replace hb8 := hb8.tr0 hs
 replace hb9 := hb9.tr0 hs
 replace hb27 := hb27.tr0 hs
 clear hs
 clear hr
 refine wl_st1 (v := .map _) hb10 rfl rfl sz52 (by first | decide | simp) rfl rfl (fun w20 hq hs => ?_)
 replace hB := hB.tr1 hs lo10
 replace hb3 := hb3.tr1 hs om
 replace hb4 := hb4.tr1 hs om
 replace hb5 := hb5.tr1 hs om
 replace hb6 := hb6.tr1 hs om
 replace hb7 := hb7.tr1 hs om
 replace hB9 := hB9.tr1 hs lo_hB9_b10
 replace hb8 := hb8.tr1 hs om
 replace hb9 := hb9.tr1 hs om
 replace hb27 := hb27.tr1 hs om
 clear hs
 replace hb10 := hq
 refine x_nil (e_S (c_seq (c_region ?_)))
 refine wl_al (cs := #[.slice none 0 0]) ze28_GenZ rfl (fun b11 w21 hb11 hs hr => ?_)
 have or_b3_b11 : b3 < b11 := nLL hb3.lt hr
 have or_b4_b11 : b4 < b11 := nLL hb4.lt hr
 have or_b5_b11 : b5 < b11 := nLL hb5.lt hr
 have or_b6_b11 : b6 < b11 := nLL hb6.lt hr
 have or_b7_b11 : b7 < b11 := nLL hb7.lt hr
 have or_b8_b11 : b8 < b11 := nLL hb8.lt hr
 have or_b9_b11 : b9 < b11 := nLL hb9.lt hr
 have or_b27_b11 : b27 < b11 := nLL hb27.lt hr
 have or_b10_b11 : b10 < b11 := nLL hb10.lt hr
 have lo11 := nLT (Bel.size hB) hr
 have lo_hB9_b11 := nLT (Bel.size hB9) hr
 replace hB := hB.tr0 hs
 replace hb3 := hb3.tr0 hs
 replace hb4 := hb4.tr0 hs
 replace hb5 := hb5.tr0 hs
 replace hb6 := hb6.tr0 hs
 replace hb7 := hb7.tr0 hs
 replace hB9 := hB9.tr0 hs
 replace hb8 := hb8.tr0 hs
 replace hb9 := hb9.tr0 hs
 replace hb27 := hb27.tr0 hs
 replace hb10 := hb10.tr0 hs
 clear hs
 clear hr
 refine x_nil (e_S (c_seq (c_region ?_)))
 refine wl_al (cs := #[.nilFunc]) ze53 rfl (fun b12 w22 hb12 hs hr => ?_)
 have or_b3_b12 : b3 < b12 := nLL hb3.lt hr
 have or_b4_b12 : b4 < b12 := nLL hb4.lt hr
 have or_b5_b12 : b5 < b12 := nLL hb5.lt hr
 have or_b6_b12 : b6 < b12 := nLL hb6.lt hr
 have or_b7_b12 : b7 < b12 := nLL hb7.lt hr
 have or_b8_b12 : b8 < b12 := nLL hb8.lt hr
 have or_b9_b12 : b9 < b12 := nLL hb9.lt hr
 have or_b27_b12 : b27 < b12 := nLL hb27.lt hr
 have or_b10_b12 : b10 < b12 := nLL hb10.lt hr
 have or_b11_b12 : b11 < b12 := nLL hb11.lt hr
 have lo12 := nLT (Bel.size hB) hr
 have lo_hB9_b12 := nLT (Bel.size hB9) hr
 replace hB := hB.tr0 hs
 replace hb3 := hb3.tr0 hs
 replace hb4 := hb4.tr0 hs
 replace hb5 := hb5.tr0 hs
 replace hb6 := hb6.tr0 hs
 replace hb7 := hb7.tr0 hs
 replace hB9 := hB9.tr0 hs
 replace hb8 := hb8.tr0 hs
 replace hb9 := hb9.tr0 hs
 replace hb27 := hb27.tr0 hs
 replace hb10 := hb10.tr0 hs
 replace hb11 := hb11.tr0 hs
 clear hs
 clear hr
 refine x_nil (e_S (c_seq (c_region (wl (r_mf rfl) ?_))))
 refine wl_st1 (v := .func _ _ _) hb12 rfl rfl sz53 (by first | decide | simp) rfl rfl (fun w23 hq hs => ?_)
 replace hB := hB.tr1 hs lo12
 replace hb3 := hb3.tr1 hs om
 replace hb4 := hb4.tr1 hs om
 replace hb5 := hb5.tr1 hs om
 replace hb6 := hb6.tr1 hs om
 replace hb7 := hb7.tr1 hs om
 replace hB9 := hB9.tr1 hs lo_hB9_b12
 replace hb8 := hb8.tr1 hs om
 replace hb9 := hb9.tr1 hs om
 replace hb27 := hb27.tr1 hs om
 replace hb10 := hb10.tr1 hs om
 replace hb11 := hb11.tr1 hs om
 clear hs
 replace hb12 := hq
 refine x_nil (e_S (c_seq (c_seq ?_)))
 obtain ⟨base, hbase⟩ : ∃ b, b = w23.heap.size := ⟨_, rfl⟩
 have hlo : w.heap.size ≤ base := by rw [hbase]; exact Bel.size hB
 have hlo9 := Bel.size hB9
 rw [← hbase] at hlo9
 have hbs : base ≤ w23.heap.size := Nat.le_of_eq hbase
 have l4 : b4 < base := by rw [hbase]; exact hb4.lt
 have l5 : b5 < base := by rw [hbase]; exact hb5.lt
 have l6 : b6 < base := by rw [hbase]; exact hb6.lt
 have l7 : b7 < base := by rw [hbase]; exact hb7.lt
 have l8 : b8 < base := by rw [hbase]; exact hb8.lt
 have l10 : b10 < base := by rw [hbase]; exact hb10.lt
 have l11 : b11 < base := by rw [hbase]; exact hb11.lt
 have l12 : b12 < base := by rw [hbase]; exact hb12.lt
 have l27 : b27 < base := by rw [hbase]; exact hb27.lt
 have hwb : ∀ j (hj : j < gb.length), (gb[j]'hj).ln.length ≤ 1000 := fun j hj => by have := hvb.gok.few j hj; omega
 have hwa : ∀ j (hj : j < ga.length), (ga[j]'hj).ln.length ≤ 1000 := fun j hj => by have := hva.gok.few j hj; omega
 refine c_region (wl (r_ld1 (v := .func _ _ _) Tryd.underlying53 rfl rfl (hb12.cell rfl)) ?_)
 refine wl_clv rfl fn15 (gvis_any (bM := b10) (bO := b11) (bT := b8) (bA := b4) (bB := b5) (bV := b12) (bm := b27) (base := base) (nf := fs.length) hTab9 hTI hva.s.vt hva.s.le ht0 hG19 hG29 hva.gx hvb.gx (loose_ln hvb.lo) hwb hwa rfl hlo9 l10 lo_hB9_b11 l11 lo_hB9_b8 l8 l4 l5 l12 lo_hB9_b27 l27 om om om om om om om om om om om _ 0 0 [] none 0 (fun _ => .slice none 0 0) (fun _ => []) _ (lack_le _ _) hva.gok.pos hvb.gok.pos hB9 hbs (OOk.nil _) List.nodup_nil dE hb10 hb8 hb4 hb5 hb12 hb27 hb11 (Own.nil _ _ _ _) (RowsG.nil _ _ _ _)) rfl rfl (fun e' w24 hr => ?_)
 obtain ⟨s, o, F, kk, ho0, hD, hF, rfl, hC, hok3⟩ := hr
 replace hB := hB.chG hC (fun g hg => by rcases zg_nil hg with e | e <;> omega)
 replace hb6 := hb6.chG hC (fun hg => by rcases zg_nil hg with e | e <;> omega)
 replace hb7 := hb7.chG hC (fun hg => by rcases zg_nil hg with e | e <;> omega)
 obtain ⟨h3, hh3, hok4⟩ : ∃ h3, h3 ≤ w24.heap.size ∧ (F.1 = 0 → VOk w24 h3 base b27 b11 gb.length (pG l ga gb) (ZG b27 b11 none (fun _ => .slice none 0 0) 0) _ (fun _ => []) 0 o) := ⟨_, Nat.le_refl _, fun h => (hok3 h).2⟩
 refine ⟨_, rfl, ?_⟩
 refine wmT rfl (wl (r_ex (v := .int _ _) rfl rfl) (wl (r_ex (v := .agg _) rfl rfl) ?_))
 refine wl_al (cs := #[.int .i64 0, .int .i64 0]) ze30_GenV rfl (fun b14 w25 hb14 hs hr => ?_)
 have or_b6_b14 : b6 < b14 := nLL hb6.lt hr
 have or_b7_b14 : b7 < b14 := nLL hb7.lt hr
 have or_hh3_b14 := (nLT hh3 hr)
 have lo14 := nLT (Bel.size hB) hr
 replace hB := hB.tr0 hs
 replace hb6 := hb6.tr0 hs
 replace hb7 := hb7.tr0 hs
 replace hok4 := fun h => (hok4 h).tr hs (by simp)
 replace hh3 := nLT hh3 (Same.size hs)
 clear hs
 clear hr
 refine waI rfl ?_
 refine wl_stW hb14 rfl rfl sz30_GenV rfl oneA (fun w26 hq hs => ?_)
 replace hB := hB.tr1 hs lo14
 replace hb6 := hb6.tr1 hs om
 replace hb7 := hb7.tr1 hs om
 replace hok4 := fun h => (hok4 h).tr hs (fun g hg => by rw [List.mem_singleton.1 hg]; omega)
 replace hh3 := nLT hh3 (Same.size hs)
 clear hs
 replace hb14 := hq
 refine x_nil (e_S (c_seq (c_region (wl (r_fa U30 sz3_GSearch dE rfl rfl rfl) (wl (r_ld1 (v := .int _ _) U3 rfl rfl (hb14.cell rfl)) ?_)))))
 refine wl (r_neq rfl rfl) (x_nil (e_S ?_))
 refine c_ifd rfl (fun c36 => ?_) (fun c36 => ?_)
 ·
  subst hF
  refine c_seq ?_
  refine c_all #[false, false, false, false] kR (by rfl) (fun w27 hs => ?_)
  replace hB := hB.tr0 hs
  replace hb6 := hb6.tr0 hs
  replace hb7 := hb7.tr0 hs
  replace hb14 := hb14.tr0 hs
  clear hs
  refine a_step [0, 1] kR rfl ⟨fun o hoq => ?_, fun o hoq => ?_, trivial⟩
  ·
   obtain rfl := sI hoq
   refine wl (r_bd (vs := #[]) (cs := #[.slice none 0 0]) (by simp) kR) (x_nil (e_A (listed' := #[true, false, false, false]) (by rfl) ?_))
   refine a_step [1, 2] kR rfl ⟨fun o hoq => ?_, fun o hoq => ?_, trivial⟩
   ·
    obtain rfl := sI hoq
    refine wl (r_ldS U30 rfl rfl hb14.range0 sz30_GenV) (x_nil (e_A (listed' := #[true, true, false, false]) (by rfl) ?_))
    refine a_step [2] kR rfl ⟨fun o hoq => ?_, trivial⟩
    obtain rfl := sI hoq
    refine wl_stW hb6 rfl rfl sz28_GenV rfl oneA (fun w28 hq hs => ?_)
    replace hB := hB.tr1 hs lo6
    replace hb7 := hb7.tr1 hs om
    replace hb14 := hb14.tr1 hs om
    clear hs
    replace hb6 := hq
    refine x_nil (e_A (listed' := #[true, true, true, false]) (by rfl) ?_)
    refine a_step [3] kR rfl ⟨fun o hoq => ?_, trivial⟩
    obtain rfl := sI hoq
    refine wl_stW hb7 rfl rfl sz30_GenV rfl oneA (fun w29 hq hs => ?_)
    replace hB := hB.tr1 hs lo7
    replace hb6 := hb6.tr1 hs om
    replace hb14 := hb14.tr1 hs om
    clear hs
    replace hb7 := hq
    refine x_nil (e_A (listed' := #[true, true, true, true]) (by rfl) (a_end kR (e_S (c_ret (e_Sr ?_)))))
    refine fin2 (.inl rfl) rfl (rr_cell U28 rfl rfl hb6.range0 sz28_GenV) (rr_cell U30 rfl rfl hb7.range0 sz30_GenV) ?_
    exact ⟨⟨none, [], 0, _, rfl, fun w2 _ => nodes_nil w2 none, .inr ⟨h0, o, by have h := hD; rw [Nat.zero_mul] at h; exact h, by rw [ho0]; rfl, .inl ⟨c36, rfl⟩⟩⟩, hB⟩
   obtain rfl := sI hoq
   refine wl_stW hb6 rfl rfl sz28_GenV rfl oneA (fun w30 hq hs => ?_)
   replace hB := hB.tr1 hs lo6
   replace hb7 := hb7.tr1 hs om
   replace hb14 := hb14.tr1 hs om
   clear hs
   replace hb6 := hq
   refine x_nil (e_A (listed' := #[true, false, true, false]) (by rfl) ?_)
   refine a_step [1] kR rfl ⟨fun o hoq => ?_, trivial⟩
   obtain rfl := sI hoq
   refine wl (r_ldS U30 rfl rfl hb14.range0 sz30_GenV) (x_nil (e_A (listed' := #[true, true, true, false]) (by rfl) ?_))
   refine a_step [3] kR rfl ⟨fun o hoq => ?_, trivial⟩
   obtain rfl := sI hoq
   refine wl_stW hb7 rfl rfl sz30_GenV rfl oneA (fun w31 hq hs => ?_)
   replace hB := hB.tr1 hs lo7
   replace hb6 := hb6.tr1 hs om
   replace hb14 := hb14.tr1 hs om
   clear hs
   replace hb7 := hq
   refine x_nil (e_A (listed' := #[true, true, true, true]) (by rfl) (a_end kR (e_S (c_ret (e_Sr ?_)))))
   refine fin2 (.inl rfl) rfl (rr_cell U28 rfl rfl hb6.range0 sz28_GenV) (rr_cell U30 rfl rfl hb7.range0 sz30_GenV) ?_
   exact ⟨⟨none, [], 0, _, rfl, fun w2 _ => nodes_nil w2 none, .inr ⟨h0, o, by have h := hD; rw [Nat.zero_mul] at h; exact h, by rw [ho0]; rfl, .inl ⟨c36, rfl⟩⟩⟩, hB⟩
  obtain rfl := sI hoq
  refine wl (r_ldS U30 rfl rfl hb14.range0 sz30_GenV) (x_nil (e_A (listed' := #[false, true, false, false]) (by rfl) ?_))
  refine a_step [0] kR rfl ⟨fun o hoq => ?_, trivial⟩
  obtain rfl := sI hoq
  refine wl (r_bd (vs := #[]) (cs := #[.slice none 0 0]) (by simp) kR) (x_nil (e_A (listed' := #[true, true, false, false]) (by rfl) ?_))
  refine a_step [2] kR rfl ⟨fun o hoq => ?_, trivial⟩
  obtain rfl := sI hoq
  refine wl_stW hb6 rfl rfl sz28_GenV rfl oneA (fun w32 hq hs => ?_)
  replace hB := hB.tr1 hs lo6
  replace hb7 := hb7.tr1 hs om
  replace hb14 := hb14.tr1 hs om
  clear hs
  replace hb6 := hq
  refine x_nil (e_A (listed' := #[true, true, true, false]) (by rfl) ?_)
  refine a_step [3] kR rfl ⟨fun o hoq => ?_, trivial⟩
  obtain rfl := sI hoq
  refine wl_stW hb7 rfl rfl sz30_GenV rfl oneA (fun w33 hq hs => ?_)
  replace hB := hB.tr1 hs lo7
  replace hb6 := hb6.tr1 hs om
  replace hb14 := hb14.tr1 hs om
  clear hs
  replace hb7 := hq
  refine x_nil (e_A (listed' := #[true, true, true, true]) (by rfl) (a_end kR (e_S (c_ret (e_Sr ?_)))))
  refine fin2 (.inl rfl) rfl (rr_cell U28 rfl rfl hb6.range0 sz28_GenV) (rr_cell U30 rfl rfl hb7.range0 sz30_GenV) ?_
  exact ⟨⟨none, [], 0, _, rfl, fun w2 _ => nodes_nil w2 none, .inr ⟨h0, o, by have h := hD; rw [Nat.zero_mul] at h; exact h, by rw [ho0]; rfl, .inl ⟨c36, rfl⟩⟩⟩, hB⟩
 have hF0 : F.1 = 0 := Decidable.not_not.1 c36
 have hFz : F = (0, 0) := hF.symm.trans (genS_ok dE (by rw [hF]; exact hF0)).1
 obtain ⟨N, cN, V, L, hLO, _, _, hb11, hoN, hRw, _, _, _⟩ := hok4 hF0
 rw [List.nil_append] at ho0
 refine c_skip (e_S (c_seq (c_region (wl (r_ldS U28 rfl rfl hb11.range0 sz28_GenV) (wl (r_bd (vs := #[]) (cs := #[.int .i64 0, .int .i64 0]) (by simp) kR) ?_)))))
 refine wl_stW hb6 rfl rfl sz28_GenV rfl oneA (fun w34 hq hs => ?_)
 replace hB := hB.tr1 hs lo6
 replace hb7 := hb7.tr1 hs om
 replace hb14 := hb14.tr1 hs om
 replace hb11 := hb11.tr1 hs om
 replace hoN := hoN.tr1 hs (fun g hg => by have := (hoN.lt g hg).1; omega)
 replace hRw := hRw.tr hs (fun g hg => by rw [List.mem_singleton.1 hg]; exact .inl om)
 clear hs
 replace hb6 := hq
 refine wl_stW hb7 rfl rfl sz30_GenV rfl oneA (fun w35 hq hs => ?_)
 replace hB := hB.tr1 hs lo7
 replace hb6 := hb6.tr1 hs om
 replace hb14 := hb14.tr1 hs om
 replace hb11 := hb11.tr1 hs om
 replace hoN := hoN.tr1 hs (fun g hg => by have := (hoN.lt g hg).1; omega)
 replace hRw := hRw.tr hs (fun g hg => by rw [List.mem_singleton.1 hg]; exact .inl om)
 clear hs
 replace hb7 := hq
 refine x_nil (e_S (c_ret (fin2 (.inl rfl) rfl (rr_cell U28 rfl rfl hb6.range0 sz28_GenV) (rr_cell U30 rfl rfl hb7.range0 sz30_GenV) ?_)))
 have hcl : (canG (pG l ga gb) o).length = o.length := by simp [canG]
 refine ⟨⟨N, canG (pG l ga gb) o, cN, (0, 0), by rw [hcl], fun w2 hf => gen_nodes hoN hRw hLO hlo hf, .inr ⟨h0, o, by have h := hD; rw [Nat.zero_mul] at h; exact h, by rw [← hFz, ← hF, ho0]; rfl, .inr ⟨rfl, rfl⟩⟩⟩, hB⟩
end Go.Proofs.YteenmolhopbpeaaDoor
namespace Go.Proofs.YteenmolhopbpeaaDoor
open Go.RowKit
def sharedG : List Nd := [⟨1, [(0, 1), (1, 1)]⟩, ⟨2, []⟩]
theorem shared_ok : (graphF pairT pairF sharedG).1 = 0 := by
  have h0 : Rch sharedG 0 := .zero
  have hu : (-1 : Int) = unrI sharedG := unr_is (.inl ⟨rfl, fun i hi => by
    have hi3 : i < 2 := hi
    match i, hi3 with
    | 0, _ => exact h0
    | 1, _ => exact Rch.step (x := (0, 1)) h0 dE dE⟩)
  rw [gf_in (by rw [pair_fault]), wi_zero (by decide +kernel) (by decide +kernel) om]
theorem two_mk {l : List Ty} {fs : List Ft} {ga gb : List Nd} (h1 : (graphF l fs ga).1 = 0) (h2 : (graphF l fs gb).1 = 0) : (twoG l fs ga gb).1 = 0 := by
  have hg := gv_of h1
  unfold twoG
  rw [if_neg (fun k => k h1)]
  rw [gf_in hg.h] at h2
  exact h2
theorem subB_iff {l : List Ty} {fs : List Ft} {ga gb : List Nd} (h1 : (graphF l fs ga).1 = 0) (h2 : (graphF l fs gb).1 = 0) : subB l fs ga gb = true ↔ Maps l ga gb := by
  rw [subB_yes (two_mk h1 h2), decide_eq_true_iff]
theorem shared_any (w : World) : Calls Tryd.prog 7 #[] w fun e w' => (∃ A, e = .returned (.agg #[.slice A 2 2]) ∧ NodesIn w' A sharedG) ∧ Bel w w' := by
 refine enter Tryd.func7 Tryd.ntmps7 rfl (Nat.le_of_ble_eq_true rfl) ?_
 have hB : Bel w w := Below.refl _ _
 refine c_seq (c_region ?_)
 refine wl_al (cs := #[.slice none 0 0]) ze28 rfl (fun b0 w1 hb0 hs hr => ?_)
 have lo0 := nLT (Bel.size hB) hr
 replace hB := hB.tr0 hs
 clear hs
 clear hr
 refine x_nil (e_S (c_seq (c_region (wl (r_bd2 (v0 := .int _ _) (v1 := .int _ _) (fun v0 v1 => #[v0, v1]) rfl rfl kR) (wl (r_bd2 (v0 := .int _ _) (v1 := .int _ _) (fun v0 v1 => #[v0, v1]) rfl rfl kR) ?_)))))
 refine wl_bs (cs := #[_, _, _, _]) [(0, .agg _), (1, .agg _)] rfl U37 sz36_GSearch ze36 dE dE kR rfl (fun b3 w2 hb3 hs hr => ?_)
 have or_b0_b3 : b0 < b3 := nLL hb0.lt hr
 have lo3 := nLT (Bel.size hB) hr
 replace hB := hB.tr0 hs
 replace hb0 := hb0.tr0 hs
 clear hs
 clear hr
 refine wl (r_bd2 (v0 := .int _ _) (v1 := .slice _ _ _) (fun v0 v1 => #[v0, v1]) rfl rfl kR) (wl (r_bd1 (v0 := .int _ _) (fun v0 => #[v0, .slice none 0 0]) rfl kR) ?_)
 refine wl_bs (cs := #[_, _, _, _]) [(0, .agg _), (1, .agg _)] rfl U26 sz39 ze39 dE dE kR rfl (fun b6 w3 hb6 hs hr => ?_)
 have or_b0_b6 : b0 < b6 := nLL hb0.lt hr
 have or_b3_b6 : b3 < b6 := nLL hb3.lt hr
 have lo6 := nLT (Bel.size hB) hr
 replace hB := hB.tr0 hs
 replace hb0 := hb0.tr0 hs
 replace hb3 := hb3.tr0 hs
 clear hs
 clear hr
 refine wl (r_bd1 (v0 := .slice _ _ _) (fun v0 => #[v0]) rfl kR) ?_
 refine wl_stW hb0 rfl rfl sz28 rfl oneA (fun w4 hq hs => ?_)
 replace hB := hB.tr1 hs lo0
 replace hb3 := hb3.tr1 hs om
 replace hb6 := hb6.tr1 hs om
 clear hs
 replace hb0 := hq
 refine x_nil (e_S (c_ret (fin1 (.inl rfl) rfl (rr_cell U28 rfl rfl hb0.range0 sz28) ?_)))
 exact ⟨⟨_, rfl, nodes_of_blk (l := sharedG) hb6 (.cons (links_of_blk [(0, 1), (1, 1)] hb3 rfl dE) (.cons (links_nil _ _) .nil)) dE⟩, hB⟩
end Go.Proofs.YteenmolhopbpeaaDoor
namespace Go.Proofs.YteenmolhopbpeaaDoor
open Go.RowKit
section bounds
variable {l : List Ty} {fs : List Ft} {ga gb X : List Nd} {f : Fl}
theorem gen_says (ha : (graphF l fs ga).1 = 0) (hb : (graphF l fs gb).1 = 0) (h : GenS l fs ga gb f X) (hf : f.1 = 0) : f = (0, 0) ∧ (graphF l fs X).1 = 0 ∧ (Maps l X ga ∧ Maps l X gb) ∧ ∀ c, GX l c → Maps l c ga → Maps l c gb → Maps l c X := by
  have hva := gv_of ha
  have hvb := gv_of hb
  have hfo := fok_of hva.h
  rcases h with ⟨h, _⟩ | ⟨_, o, hD, hg, h⟩
  · exact absurd (two_mk ha hb) h
  · rcases h with ⟨h, _⟩ | ⟨_, rfl⟩
    · exact absurd hf h
    · have hl0 : 0 < l.length := hva.s.pos
      have hgy := pG_gy hva.gx hvb.gx hl0
      have t := hgy.trr hgy.pos hD
      obtain ⟨h1, h2, h3⟩ := genS_ok (ok := pok l ga gb) (xs := o) (k := 0) dE (by rw [← hg]; exact hf)
      have hz : f = (0, 0) := hg.trans h1
      refine ⟨hz, ?_, gen_left hva.gx hvb.gx hl0 t h3, fun c hc k1 k2 => gen_great hva.gx hvb.gx hc t h3 k1 k2 hl0⟩
      rw [gen_valid hva hvb (fun z h0 hz => by
        have h5 := hfo.at_ z.toNat om
        have e : ftAt fs z = fs[z.toNat]'om := by
          have hzl : z.toNat < fs.length := by omega
          simp [ftAt, List.getD, hzl]
        rw [e]; exact ⟨⟨h5.1, h5.2.1⟩, h5.2.2⟩) t h3 om]
theorem gen_code (ha : (graphF l fs ga).1 = 0) (hb : (graphF l fs gb).1 = 0) (h : GenS l fs ga gb f X) (hf : ¬ f.1 = 0) : f.1 = 16 ∨ f.1 = 17 := by
  rcases h with ⟨h, _⟩ | ⟨_, o, _, hg, _⟩
  · exact absurd (two_mk ha hb) h
  · rcases genS_code (ok := pok l ga gb) (xs := o) (k := 0) with h1 | h1 | h1
    · exact absurd (by rw [hg]; exact h1) hf
    · exact .inr (by rw [hg]; exact h1)
    · exact .inl (by rw [hg]; exact h1)
end bounds
theorem sa_dl : DL (pG pairT sharedG apartG) [0] [] [0, 5, 4] := by
  have e0 : succN (pG pairT sharedG apartG) 0 = [5, 4] := by decide +kernel
  have e1 : succN (pG pairT sharedG apartG) 5 = [] := by decide +kernel
  have e2 : succN (pG pairT sharedG apartG) 4 = [] := by decide +kernel
  refine .new dE (o1 := [0, 5, 4]) ?_ .nil
  rw [e0]
  refine .new dE (o1 := [0, 5]) (by rw [e1]; exact .nil) ?_
  exact .new dE (o1 := [0, 5, 4]) (by rw [e2]; exact .nil) .nil
theorem sa_gen {f : Fl} {X : List Nd} (h : GenS pairT pairF sharedG apartG f X) : X.length = 3 := by
  rcases h with ⟨h, _⟩ | ⟨_, o, hD, hg, h⟩
  · exact absurd (two_mk shared_ok apart_ok) h
  · have e := hD.det sa_dl
    subst e
    have e2 : genS (pok pairT sharedG apartG) 0 [0, 5, 4] = (0, 0) := by decide +kernel
    rcases h with ⟨h, _⟩ | ⟨_, rfl⟩
    · exact absurd (by rw [hg, e2]) h
    · rfl
end Go.Proofs.YteenmolhopbpeaaDoor
