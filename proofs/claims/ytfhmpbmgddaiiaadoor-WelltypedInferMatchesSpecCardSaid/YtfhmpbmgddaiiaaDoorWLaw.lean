/- What these functions of the program compute, at every world: glosswright/welltyped.Infer. What these functions of the program compute, at every world: glosswright/glosswrightlaw3.looseFault, glosswright/glosswrightlaw3.WelltypedInferIsLeast. -/
import Derived.Test.YtfhmpbmgddaiiaaDoorU
import Derived.Test.YtfhmpbmgddaiiaaDoorWlt
import Derived.Test.YtfhmpbmgddaiiaaDoorCanon
import Derived.Test.YtfhmpbmgddaiiaaDoorSBase
import Derived.Test.YtfhmpbmgddaiiaaDoorLub
namespace Go.Proofs.YtfhmpbmgddaiiaaDoor
open Go.RowKit
theorem fn15 : callable Tryd.prog 15 = true := by kernel_rfl
theorem fn17_WInf : callable Tryd.prog 17 = true := by kernel_rfl
theorem fn18 : callable Tryd.prog 18 = true := by kernel_rfl
set_option maxHeartbeats 4000000 in
theorem infer_any (A B G : Option Addr) (c d cg : Nat) (l : List Ty) (fs : List Ft) (gr : List Nd) (w : World) (hTab : TabIn w) (hT : TypesIn w A l) (hF : FeatsIn w B fs) (hG : NodesIn w G gr) : Calls Tryd.prog 5 #[.agg #[.slice A l.length c, .slice B fs.length d], .agg #[.slice G gr.length cg]] w fun e w' => (∃ A' X cX ok f, e = .returned (.tuple #[.agg #[.slice A' (List.length X) cX], .bool ok, .agg #[.int .i64 (Prod.fst f), .int .i64 f.2]]) ∧ (∀ w2, FrSame w.heap.size w' w2 → NodesIn w2 A' X) ∧ InfS l fs gr ok f X) ∧ Bel w w' := by
 refine enter Tryd.func5 Tryd.ntmps5 rfl (Nat.le_of_ble_eq_true rfl) ?_
 have hB : Bel w w := Below.refl _ _
 refine c_seq (c_region ?_)
 refine wl_bx (v := .agg #[_, _]) (cs := #[_, _]) rfl rfl (fun b2 w1 hb2 hs hr => ?_)
 have lo2 := nLT (Bel.size hB) hr
 replace hB := hB.tr0 hs
 clear hs
 clear hr
 refine wl_bx (v := .agg #[_]) (cs := #[_]) rfl rfl (fun b3 w2 hb3 hs hr => ?_)
 have or_b2_b3 : b2 < b3 := nLL hb2.lt hr
 have lo3 := nLT (Bel.size hB) hr
 replace hB := hB.tr0 hs
 replace hb2 := hb2.tr0 hs
 clear hs
 clear hr
 refine wl_al (cs := #[.slice none 0 0]) ze28_SFind rfl (fun b4 w3 hb4 hs hr => ?_)
 have or_b2_b4 : b2 < b4 := nLL hb2.lt hr
 have or_b3_b4 : b3 < b4 := nLL hb3.lt hr
 have lo4 := nLT (Bel.size hB) hr
 replace hB := hB.tr0 hs
 replace hb2 := hb2.tr0 hs
 replace hb3 := hb3.tr0 hs
 clear hs
 clear hr
 refine waB rfl ?_
 refine wl_al (cs := #[.int .i64 0, .int .i64 0]) ze35_GLoose rfl (fun b6 w4 hb6 hs hr => ?_)
 have or_b2_b6 : b2 < b6 := nLL hb2.lt hr
 have or_b3_b6 : b3 < b6 := nLL hb3.lt hr
 have or_b4_b6 : b4 < b6 := nLL hb4.lt hr
 have lo6 := nLT (Bel.size hB) hr
 replace hB := hB.tr0 hs
 replace hb2 := hb2.tr0 hs
 replace hb3 := hb3.tr0 hs
 replace hb4 := hb4.tr0 hs
 clear hs
 clear hr
 refine x_nil (e_S (c_seq (c_seq (c_region (wl (r_ldS U25 rfl rfl hb2.range0 sz25_SFind) ?_)))))
 refine wl (r_ldS U28 rfl rfl hb3.range0 sz28_SFind) ?_
 refine wl_cl fn15 (lse_any A B G c d cg l fs gr _ (hTab.mono hB) (hT.mono hB) (hF.mono hB) (hG.mono hB)) rfl (fun e' w5 hr => ?_)
 obtain ⟨rfl, hs⟩ := hr
 replace hs := Same.of_bel hs
 replace hB := hB.tr0 hs
 replace hb2 := hb2.tr0 hs
 replace hb3 := hb3.tr0 hs
 replace hb4 := hb4.tr0 hs
 replace hb6 := hb6.tr0 hs
 clear hs
 refine ⟨_, rfl, ?_⟩
 refine wl_al (cs := #[.int .i64 0, .int .i64 0]) ze35_GLoose rfl (fun b7 w6 hb7 hs hr => ?_)
 have or_b2_b7 : b2 < b7 := nLL hb2.lt hr
 have or_b3_b7 : b3 < b7 := nLL hb3.lt hr
 have or_b4_b7 : b4 < b7 := nLL hb4.lt hr
 have or_b6_b7 : b6 < b7 := nLL hb6.lt hr
 have lo7 := nLT (Bel.size hB) hr
 replace hB := hB.tr0 hs
 replace hb2 := hb2.tr0 hs
 replace hb3 := hb3.tr0 hs
 replace hb4 := hb4.tr0 hs
 replace hb6 := hb6.tr0 hs
 clear hs
 clear hr
 refine wl_stW hb7 rfl rfl sz35_GLoose rfl oneA (fun w7 hq hs => ?_)
 replace hB := hB.tr1 hs lo7
 replace hb2 := hb2.tr1 hs om
 replace hb3 := hb3.tr1 hs om
 replace hb4 := hb4.tr1 hs om
 replace hb6 := hb6.tr1 hs om
 clear hs
 replace hb7 := hq
 refine x_nil (e_S (c_seq (c_region (wl (r_fa U35 sz3_GLoose dE rfl rfl rfl) (wl (r_ld1 (v := .int _ _) U3 rfl rfl (hb7.cell rfl)) ?_)))))
 refine wl (r_neq rfl rfl) (x_nil (e_S ?_))
 refine c_ifd rfl (fun c20 => ?_) (fun c20 => ?_)
 ·
  refine c_seq ?_
  refine c_all #[false, false, false, false, false] kR (by rfl) (fun w8 hs => ?_)
  replace hB := hB.tr0 hs
  replace hb2 := hb2.tr0 hs
  replace hb3 := hb3.tr0 hs
  replace hb4 := hb4.tr0 hs
  replace hb6 := hb6.tr0 hs
  replace hb7 := hb7.tr0 hs
  clear hs
  refine a_step [0, 1] kR rfl ⟨fun o hoq => ?_, fun o hoq => ?_, trivial⟩
  ·
   obtain rfl := sI hoq
   refine wl (r_bd (vs := #[]) (cs := #[.slice none 0 0]) (by simp) kR) (x_nil (e_A (listed' := #[true, false, false, false, false]) (by rfl) ?_))
   refine a_step [1, 2] kR rfl ⟨fun o hoq => ?_, fun o hoq => ?_, trivial⟩
   ·
    obtain rfl := sI hoq
    refine wl (r_ldS U35 rfl rfl hb7.range0 sz35_GLoose) (x_nil (e_A (listed' := #[true, true, false, false, false]) (by rfl) ?_))
    refine a_step [2] kR rfl ⟨fun o hoq => ?_, trivial⟩
    obtain rfl := sI hoq
    refine wl_stW hb4 rfl rfl sz28_SFind rfl oneA (fun w9 hq hs => ?_)
    replace hB := hB.tr1 hs lo4
    replace hb2 := hb2.tr1 hs om
    replace hb3 := hb3.tr1 hs om
    replace hb6 := hb6.tr1 hs om
    replace hb7 := hb7.tr1 hs om
    clear hs
    replace hb4 := hq
    refine x_nil (e_A (listed' := #[true, true, true, false, false]) (by rfl) ?_)
    refine a_step [3] kR rfl ⟨fun o hoq => ?_, trivial⟩
    obtain rfl := sI hoq
    refine waB rfl (x_nil (e_A (listed' := #[true, true, true, true, false]) (by rfl) ?_))
    refine a_step [4] kR rfl ⟨fun o hoq => ?_, trivial⟩
    obtain rfl := sI hoq
    refine wl_stW hb6 rfl rfl sz35_GLoose rfl oneA (fun w10 hq hs => ?_)
    replace hB := hB.tr1 hs lo6
    replace hb2 := hb2.tr1 hs om
    replace hb3 := hb3.tr1 hs om
    replace hb4 := hb4.tr1 hs om
    replace hb7 := hb7.tr1 hs om
    clear hs
    replace hb6 := hq
    refine x_nil (e_A (listed' := #[true, true, true, true, true]) (by rfl) (a_end kR (e_S (c_ret (e_Sr ?_)))))
    refine fin3 (.inl rfl) rfl (rr_cell U28 rfl rfl hb4.range0 sz28_SFind) rfl (rr_cell U35 rfl rfl hb6.range0 sz35_GLoose) ?_
    exact ⟨⟨none, [], 0, false, looseT l fs gr, rfl, fun w2 _ => nodes_nil w2 none, .inl ⟨c20, rfl, rfl, rfl⟩⟩, hB⟩
   obtain rfl := sI hoq
   refine wl_stW hb4 rfl rfl sz28_SFind rfl oneA (fun w11 hq hs => ?_)
   replace hB := hB.tr1 hs lo4
   replace hb2 := hb2.tr1 hs om
   replace hb3 := hb3.tr1 hs om
   replace hb6 := hb6.tr1 hs om
   replace hb7 := hb7.tr1 hs om
   clear hs
   replace hb4 := hq
   refine x_nil (e_A (listed' := #[true, false, true, false, false]) (by rfl) ?_)
   refine a_step [1, 3] kR rfl ⟨fun o hoq => ?_, fun o hoq => ?_, trivial⟩
   ·
    obtain rfl := sI hoq
    refine wl (r_ldS U35 rfl rfl hb7.range0 sz35_GLoose) (x_nil (e_A (listed' := #[true, true, true, false, false]) (by rfl) ?_))
    refine a_step [3] kR rfl ⟨fun o hoq => ?_, trivial⟩
    obtain rfl := sI hoq
    refine waB rfl (x_nil (e_A (listed' := #[true, true, true, true, false]) (by rfl) ?_))
    refine a_step [4] kR rfl ⟨fun o hoq => ?_, trivial⟩
    obtain rfl := sI hoq
    refine wl_stW hb6 rfl rfl sz35_GLoose rfl oneA (fun w12 hq hs => ?_)
    replace hB := hB.tr1 hs lo6
    replace hb2 := hb2.tr1 hs om
    replace hb3 := hb3.tr1 hs om
    replace hb4 := hb4.tr1 hs om
    replace hb7 := hb7.tr1 hs om
    clear hs
    replace hb6 := hq
    refine x_nil (e_A (listed' := #[true, true, true, true, true]) (by rfl) (a_end kR (e_S (c_ret (e_Sr ?_)))))
    refine fin3 (.inl rfl) rfl (rr_cell U28 rfl rfl hb4.range0 sz28_SFind) rfl (rr_cell U35 rfl rfl hb6.range0 sz35_GLoose) ?_
    exact ⟨⟨none, [], 0, false, looseT l fs gr, rfl, fun w2 _ => nodes_nil w2 none, .inl ⟨c20, rfl, rfl, rfl⟩⟩, hB⟩
   obtain rfl := sI hoq
   refine waB rfl (x_nil (e_A (listed' := #[true, false, true, true, false]) (by rfl) ?_))
   refine a_step [1] kR rfl ⟨fun o hoq => ?_, trivial⟩
   obtain rfl := sI hoq
   refine wl (r_ldS U35 rfl rfl hb7.range0 sz35_GLoose) (x_nil (e_A (listed' := #[true, true, true, true, false]) (by rfl) ?_))
   refine a_step [4] kR rfl ⟨fun o hoq => ?_, trivial⟩
   obtain rfl := sI hoq
   refine wl_stW hb6 rfl rfl sz35_GLoose rfl oneA (fun w13 hq hs => ?_)
   replace hB := hB.tr1 hs lo6
   replace hb2 := hb2.tr1 hs om
   replace hb3 := hb3.tr1 hs om
   replace hb4 := hb4.tr1 hs om
   replace hb7 := hb7.tr1 hs om
   clear hs
   replace hb6 := hq
   refine x_nil (e_A (listed' := #[true, true, true, true, true]) (by rfl) (a_end kR (e_S (c_ret (e_Sr ?_)))))
   refine fin3 (.inl rfl) rfl (rr_cell U28 rfl rfl hb4.range0 sz28_SFind) rfl (rr_cell U35 rfl rfl hb6.range0 sz35_GLoose) ?_
   exact ⟨⟨none, [], 0, false, looseT l fs gr, rfl, fun w2 _ => nodes_nil w2 none, .inl ⟨c20, rfl, rfl, rfl⟩⟩, hB⟩
  obtain rfl := sI hoq
  refine wl (r_ldS U35 rfl rfl hb7.range0 sz35_GLoose) (x_nil (e_A (listed' := #[false, true, false, false, false]) (by rfl) ?_))
  refine a_step [0] kR rfl ⟨fun o hoq => ?_, trivial⟩
  obtain rfl := sI hoq
  refine wl (r_bd (vs := #[]) (cs := #[.slice none 0 0]) (by simp) kR) (x_nil (e_A (listed' := #[true, true, false, false, false]) (by rfl) ?_))
  refine a_step [2] kR rfl ⟨fun o hoq => ?_, trivial⟩
  obtain rfl := sI hoq
  refine wl_stW hb4 rfl rfl sz28_SFind rfl oneA (fun w14 hq hs => ?_)
  replace hB := hB.tr1 hs lo4
  replace hb2 := hb2.tr1 hs om
  replace hb3 := hb3.tr1 hs om
  replace hb6 := hb6.tr1 hs om
  replace hb7 := hb7.tr1 hs om
  clear hs
  replace hb4 := hq
  refine x_nil (e_A (listed' := #[true, true, true, false, false]) (by rfl) ?_)
  refine a_step [3] kR rfl ⟨fun o hoq => ?_, trivial⟩
  obtain rfl := sI hoq
  refine waB rfl (x_nil (e_A (listed' := #[true, true, true, true, false]) (by rfl) ?_))
  refine a_step [4] kR rfl ⟨fun o hoq => ?_, trivial⟩
  obtain rfl := sI hoq
  refine wl_stW hb6 rfl rfl sz35_GLoose rfl oneA (fun w15 hq hs => ?_)
  replace hB := hB.tr1 hs lo6
  replace hb2 := hb2.tr1 hs om
  replace hb3 := hb3.tr1 hs om
  replace hb4 := hb4.tr1 hs om
  replace hb7 := hb7.tr1 hs om
  clear hs
  replace hb6 := hq
  refine x_nil (e_A (listed' := #[true, true, true, true, true]) (by rfl) (a_end kR (e_S (c_ret (e_Sr ?_)))))
  refine fin3 (.inl rfl) rfl (rr_cell U28 rfl rfl hb4.range0 sz28_SFind) rfl (rr_cell U35 rfl rfl hb6.range0 sz35_GLoose) ?_
  exact ⟨⟨none, [], 0, false, looseT l fs gr, rfl, fun w2 _ => nodes_nil w2 none, .inl ⟨c20, rfl, rfl, rfl⟩⟩, hB⟩
 have hgl := gl_of (Decidable.not_not.1 c20)
 have hS := hgl.s
 have hf40 := hgl.few
 refine c_skip (e_S (c_seq (c_region (wl (r_fa U25 sz22_GLoose dE rfl rfl rfl) (wl (r_ld1 (v := .slice _ _ _) U22 rfl rfl (hb2.cell rfl)) ?_)))))
 refine wl_cl fn16_SFind (tables2_any A c l _ (hT.mono hB) hS.vt hS.le) rfl (fun e' w16 hr => ?_)
 obtain ⟨⟨bu, bd, rfl, hTI⟩, hs⟩ := hr
 replace hs := Same.of_bel hs
 replace hB := hB.tr0 hs
 replace hb2 := hb2.tr0 hs
 replace hb3 := hb3.tr0 hs
 replace hb4 := hb4.tr0 hs
 replace hb6 := hb6.tr0 hs
 replace hb7 := hb7.tr0 hs
 clear hs
 obtain ⟨wT, hwT⟩ : ∃ x, x = w16 := ⟨_, rfl⟩
 have hBT : Bel wT w16 := by rw [hwT]; exact Below.refl _ _
 have hTabT : TabIn wT := by rw [hwT]; exact hTab.mono hB
 have hBwT := Bel.size hB
 rw [← hwT] at hTI hBwT
 refine ⟨_, rfl, ?_⟩
 refine wl_al (cs := #[.slice none 0 0, .slice none 0 0]) ze54_SFind rfl (fun b8 w17 hb8 hs hr => ?_)
 have or_b2_b8 : b2 < b8 := nLL hb2.lt hr
 have or_b3_b8 : b3 < b8 := nLL hb3.lt hr
 have or_b4_b8 : b4 < b8 := nLL hb4.lt hr
 have or_b6_b8 : b6 < b8 := nLL hb6.lt hr
 have or_b7_b8 : b7 < b8 := nLL hb7.lt hr
 have lo8 := nLT (Bel.size hB) hr
 have lo_hBT_b8 := nLT (Bel.size hBT) hr
 replace hB := hB.tr0 hs
 replace hb2 := hb2.tr0 hs
 replace hb3 := hb3.tr0 hs
 replace hb4 := hb4.tr0 hs
 replace hb6 := hb6.tr0 hs
 replace hb7 := hb7.tr0 hs
 replace hBT := hBT.tr0 hs
 clear hs
 clear hr
 refine wl_stW hb8 rfl rfl sz54_SFind rfl oneA (fun w18 hq hs => ?_)
 replace hB := hB.tr1 hs lo8
 replace hb2 := hb2.tr1 hs om
 replace hb3 := hb3.tr1 hs om
 replace hb4 := hb4.tr1 hs om
 replace hb6 := hb6.tr1 hs om
 replace hb7 := hb7.tr1 hs om
 replace hBT := hBT.tr1 hs lo_hBT_b8
 clear hs
 replace hb8 := hq
 refine x_nil (e_S (c_seq ?_))
 have hT2 := hBwT
 refine c_region (wl (r_ldS U28 rfl rfl hb3.range0 sz28_SFind) ?_)
 have z2 := hb2.lt
 have z4 := hb4.lt
 have z6 := hb6.lt
 have z8 := hb8.lt
 have zT := Bel.size hBT
 refine wl_cl fn17_WInf (from3_any G cg fs.length gr 0 _ (hG.mono hB) hgl.gok.two om hgl.gok.pos) rfl (fun e' w19 hr => ?_)
 obtain ⟨⟨o, AF, hD, hok, rfl, hgr⟩, hs⟩ := hr
 replace hs := Same.of_bel hs
 replace hB := hB.tr0 hs
 replace hb2 := hb2.tr0 hs
 replace hb3 := hb3.tr0 hs
 replace hb4 := hb4.tr0 hs
 replace hb6 := hb6.tr0 hs
 replace hb7 := hb7.tr0 hs
 replace hBT := hBT.tr0 hs
 replace hb8 := hb8.tr0 hs
 clear hs
 obtain ⟨zlo, hzlo⟩ : ∃ z, z = (w18).heap.size := ⟨_, rfl⟩
 obtain ⟨zhi, hzhi⟩ : ∃ z, z = w19.heap.size := ⟨_, rfl⟩
 rw [← hzlo, ← hzhi] at hgr
 rw [← hzlo] at z2 z4 z6 z8 zT
 have hzh : zhi ≤ w19.heap.size := Nat.le_of_eq hzhi
 obtain ⟨hgx, hG60, hfr, _, _⟩ := hgl.can hD
 obtain ⟨cF, hcF⟩ : ∃ z, z = o.length := ⟨_, rfl⟩
 have hGo : (canG gr o).length = o.length := canG_len gr o
 obtain ⟨Gq, hGq⟩ : ∃ z, z = canG gr o := ⟨_, rfl⟩
 rw [← hGq] at hgr hgx hG60 hfr hGo
 refine ⟨_, rfl, ?_⟩
 refine wl_al (cs := #[.slice none 0 0]) ze28_SFind rfl (fun b9 w20 hb9 hs hr => ?_)
 have or_b2_b9 : b2 < b9 := nLL hb2.lt hr
 have or_b3_b9 : b3 < b9 := nLL hb3.lt hr
 have or_b4_b9 : b4 < b9 := nLL hb4.lt hr
 have or_b6_b9 : b6 < b9 := nLL hb6.lt hr
 have or_b7_b9 : b7 < b9 := nLL hb7.lt hr
 have or_b8_b9 : b8 < b9 := nLL hb8.lt hr
 have or_hzh_b9 := (nLT hzh hr)
 have lo9 := nLT (Bel.size hB) hr
 have lo_hBT_b9 := nLT (Bel.size hBT) hr
 replace hB := hB.tr0 hs
 replace hb2 := hb2.tr0 hs
 replace hb3 := hb3.tr0 hs
 replace hb4 := hb4.tr0 hs
 replace hb6 := hb6.tr0 hs
 replace hb7 := hb7.tr0 hs
 replace hBT := hBT.tr0 hs
 replace hb8 := hb8.tr0 hs
 replace hgr := hgr.tr hs (by simp)
 replace hzh := nLT hzh (Same.size hs)
 clear hs
 clear hr
 refine wl_stW hb9 rfl rfl sz28_SFind rfl oneA (fun w21 hq hs => ?_)
 replace hB := hB.tr1 hs lo9
 replace hb2 := hb2.tr1 hs om
 replace hb3 := hb3.tr1 hs om
 replace hb4 := hb4.tr1 hs om
 replace hb6 := hb6.tr1 hs om
 replace hb7 := hb7.tr1 hs om
 replace hBT := hBT.tr1 hs lo_hBT_b9
 replace hb8 := hb8.tr1 hs om
 replace hgr := hgr.tr hs (fun g hg => by rw [List.mem_singleton.1 hg]; omega)
 replace hzh := nLT hzh (Same.size hs)
 clear hs
 replace hb9 := hq
 refine x_nil (e_S (c_seq ?_))
 rw [← hGo] at hb9 hgr
 replace hgr : GrT w21 zlo zhi AF Gq.length Gq (fun x => ((tyO Gq x : Nat) : Int)) := hgr.congr (fun i hi => by have := hgx.tr i hi; unfold tyO; omega)
 refine c_region (wl (r_mf rfl) (wl (r_as (v := .func _ _ _) rfl) (x_nil (e_S (c_seq ?_)))))
 refine c_seq (c_region (wl (r_fa U28 sz26 dE rfl rfl rfl) (wl (r_ld1 (v := .slice _ _ _) U26 rfl rfl (hb9.cell rfl)) (wl (r_len U26 rfl) (wmI rfl ?_)))))
 refine x_nil (e_S (c_block ?_))
 refine c_loopS [5, 11, 13, 14, 32, 33, 34, 35, 36, 37, 38, 39, 40, 41, 42, 43, 44, 45, 46, 47, 48, 49, 50, 51, 52, 53, 54, 55, 56, 57, 58, 59, 60, 61, 62, 63, 64, 65, 66, 67, 68, 69, 70] (fun m g w' => ∃ (i : Nat) (T : Nat → Nat), i ≤ Gq.length ∧ m = Gq.length - i ∧ g 32 = .int .i64 i ∧ raiseL l (demP fs Gq i 0) (tyO Gq) = some T ∧ Bel w w' ∧ Bel wT w' ∧ Blk w' b2 25 #[.slice A l.length c, .slice B fs.length d] ∧ Blk w' b4 28 #[.slice none 0 0] ∧ Blk w' b6 35 #[.int .i64 0, .int .i64 0] ∧ Blk w' b8 54 #[.slice (some ⟨bu, 0, none⟩) l.length l.length, .slice (some ⟨bd, 0, none⟩) l.length l.length] ∧ Blk w' b9 28 #[.slice AF Gq.length Gq.length] ∧ GrT w' zlo zhi AF Gq.length Gq (fun x => ((T x : Nat) : Int)) ∧ zhi ≤ w'.heap.size) (Gq.length) ?_ (fun m g8 w22 hI => ?_)
 ·
  exact ⟨0, tyO Gq, Nat.zero_le _, rfl, rfl, by rw [demP_zero]; rfl, hB, hBT, hb2, hb4, hb6, hb8, hb9, hgr, hzh⟩
 obtain ⟨i, T, hi, hm, h32, hR, hB, hBT, hb2, hb4, hb6, hb8, hb9, hgr, hzh⟩ := hI
 refine c_know 32 (.int .i64 i) h32 nu (c_seq (c_region (wl (r_lss rfl rfl) (x_nil (e_S ?_)))))
 refine c_seq ?_
 refine c_ifd rfl (fun c33 => ?_) (fun c33 => ?_)
 ·
  have hil : i < Gq.length := by omega
  obtain ⟨gF, rfl, hgF1, hgF2⟩ := hgr.addr hil
  refine c_skip (e_S (c_seq (c_block (c_seq (c_region ?_)))))
  refine wmI rfl (waI rfl (x_nil (e_S (c_seq ?_))))
  obtain ⟨V, gF2, cur, eA, _, _, hbF, _, _, hc1, hrV, _⟩ := hgr.open_ hil
  cases eA
  have hc1i := hc1 i hil
  obtain ⟨LA, lc, eV, hroo⟩ := hrV i hil
  rw [eV] at hc1i
  have hro : RowO w22 zlo zhi (.slice LA (nd Gq i).ln.length lc) (nd Gq i).ln := ⟨LA, lc, rfl, hroo⟩
  have hmx := hro.lks.1
  unfold maxI at hmx
  refine c_region (wl (r_fa U28 sz26 dE rfl rfl rfl) (wl (r_ld1 (v := .slice _ _ _) U26 rfl rfl (hb9.cell rfl)) (wmI rfl (wl (r_ia (i := i) U26 sz33 rfl rfl hil rfl) (wl (r_fa U33 sz31 dE rfl rfl rfl) ?_)))))
  refine wl (r_ld1 (v := .slice _ _ _) U31 rfl rfl (hbF.cell hc1i)) (wl (r_len U31 rfl) (wmI rfl (x_nil (e_S (c_block ?_)))))
  refine c_loopS [5, 13, 14, 42, 43, 44, 45, 46, 47, 48, 49, 50, 51, 52, 53, 54, 55, 56, 57, 58, 59, 60, 61, 62, 63, 64, 65, 66, 67, 68, 69] (fun m g w' => ∃ (q : Nat) (T : Nat → Nat), q ≤ (nd Gq i).ln.length ∧ m = (nd Gq i).ln.length - q ∧ g 42 = .int .i64 q ∧ raiseL l (demP fs Gq i q) (tyO Gq) = some T ∧ Bel w w' ∧ Bel wT w' ∧ Blk w' b2 25 #[.slice A l.length c, .slice B fs.length d] ∧ Blk w' b4 28 #[.slice none 0 0] ∧ Blk w' b6 35 #[.int .i64 0, .int .i64 0] ∧ Blk w' b8 54 #[.slice (some ⟨bu, 0, none⟩) l.length l.length, .slice (some ⟨bd, 0, none⟩) l.length l.length] ∧ Blk w' b9 28 #[.slice (some ⟨gF, 0, none⟩) Gq.length Gq.length] ∧ GrT w' zlo zhi (some ⟨gF, 0, none⟩) Gq.length Gq (fun x => ((T x : Nat) : Int)) ∧ RowO w' zlo zhi (.slice LA (nd Gq i).ln.length lc) (nd Gq i).ln ∧ zhi ≤ w'.heap.size) ((nd Gq i).ln.length) ?_ (fun m g11 w23 hI => ?_)
  ·
   exact ⟨0, T, Nat.zero_le _, rfl, rfl, hR, hB, hBT, hb2, hb4, hb6, hb8, hb9, hgr, hro, hzh⟩
  obtain ⟨q, T, hq, hmq, h42, hR, hB, hBT, hb2, hb4, hb6, hb8, hb9, hgr, hro, hzh⟩ := hI
  refine c_know 42 (.int .i64 q) h42 nu (c_seq (c_region (wl (r_lss rfl rfl) (x_nil (e_S ?_)))))
  refine c_seq ?_
  refine c_ifd rfl (fun c43 => ?_) (fun c43 => ?_)
  ·
   have hql : q < (nd Gq i).ln.length := by omega
   obtain ⟨lb, lof, rfl, hlb, hlr⟩ := hro.lks.at_ (Below.refl _ _ : Bel w23 w23) hql
   have hxr := hfr _ hil _ (List.getElem_mem hql)
   have hxt := hgx.lr _ hil _ (List.getElem_mem hql)
   obtain ⟨fi, hfi, hfl⟩ : ∃ t : Nat, ((nd Gq i).ln[q]'hql).1 = (t : Int) ∧ t < fs.length := ⟨(((nd Gq i).ln[q]'hql).1).toNat, by omega, by omega⟩
   obtain ⟨t, htt, htl⟩ : ∃ t : Nat, ((nd Gq i).ln[q]'hql).2 = (t : Int) ∧ t < Gq.length := ⟨(((nd Gq i).ln[q]'hql).2).toNat, by omega, by omega⟩
   have hff := hgl.f.at_ fi hfl
   obtain ⟨on, hon, honl⟩ : ∃ t : Nat, (fs[fi]'hfl).of = (t : Int) ∧ t < l.length := ⟨(fs[fi]'hfl).of.toNat, by omega, by omega⟩
   obtain ⟨vn, hvn, hvnl⟩ : ∃ t : Nat, (fs[fi]'hfl).val = (t : Int) ∧ t < l.length := ⟨(fs[fi]'hfl).val.toNat, by omega, by omega⟩
   obtain ⟨fb, fo, rfl, hfb, hfr2⟩ := hF.at_ (Below.refl _ _ : Bel w w) hfl
   have hfa : ftAt fs ((nd Gq i).ln[q]'hql).1 = fs[fi] := by rw [hfi]; simp [ftAt, List.getD, hfl]
   have hof : (ftAt fs ((nd Gq i).ln[q]'hql).1).of.toNat = on := by rw [hfa, hon]; rfl
   have hvl : (ftAt fs ((nd Gq i).ln[q]'hql).1).val.toNat = vn := by rw [hfa, hvn]; rfl
   have hto : ((nd Gq i).ln[q]'hql).2.toNat = t := by rw [htt]; rfl
   have hTl := raise_lt hS hR (tyO_lt hgx hS)
   refine c_skip (e_S (c_seq (c_block (c_seq (c_region ?_)))))
   refine wl (r_ia (i := q) U31 sz30 rfl rfl om rfl) (wl (r_ldS U30 rfl rfl hlr sz30) ?_)
   refine wl_al (cs := #[.int .i64 0, .int .i64 0]) ze30 rfl (fun b13 w24 hb13 hs hr => ?_)
   have or_b2_b13 : b2 < b13 := nLL hb2.lt hr
   have or_b4_b13 : b4 < b13 := nLL hb4.lt hr
   have or_b6_b13 : b6 < b13 := nLL hb6.lt hr
   have or_b8_b13 : b8 < b13 := nLL hb8.lt hr
   have or_b9_b13 : b9 < b13 := nLL hb9.lt hr
   have or_hzh_b13 := (nLT hzh hr)
   have lo13 := nLT (Bel.size hB) hr
   have lo_hBT_b13 := nLT (Bel.size hBT) hr
   replace hB := hB.tr0 hs
   replace hb2 := hb2.tr0 hs
   replace hb4 := hb4.tr0 hs
   replace hb6 := hb6.tr0 hs
   replace hBT := hBT.tr0 hs
   replace hb8 := hb8.tr0 hs
   replace hb9 := hb9.tr0 hs
   replace hgr := hgr.tr hs (by simp)
   replace hro := hro.tr hs (by simp)
   replace hzh := nLT hzh (Same.size hs)
   clear hs
   clear hr
   refine wl_stW hb13 rfl rfl sz30 rfl oneA (fun w25 hq hs => ?_)
   replace hB := hB.tr1 hs lo13
   replace hb2 := hb2.tr1 hs om
   replace hb4 := hb4.tr1 hs om
   replace hb6 := hb6.tr1 hs om
   replace hBT := hBT.tr1 hs lo_hBT_b13
   replace hb8 := hb8.tr1 hs om
   replace hb9 := hb9.tr1 hs om
   replace hgr := hgr.tr hs (fun g hg => by rw [List.mem_singleton.1 hg]; omega)
   replace hro := hro.tr hs (fun g hg => by rw [List.mem_singleton.1 hg]; exact .inl om)
   replace hzh := nLT hzh (Same.size hs)
   clear hs
   replace hb13 := hq
   refine x_nil (e_S (c_seq ?_))
   rw [hfi, htt] at hb13
   refine c_region (wl (r_fa U25 sz23_GLoose dE rfl rfl rfl) (wl (r_ld1 (v := .slice _ _ _) U23 rfl rfl (hb2.cell rfl)) (wl (r_fa U30 sz3_GLoose dE rfl rfl rfl) (wl (r_ld1 (v := .int _ _) U3 rfl rfl (hb13.cell rfl)) (wl (r_ia (i := fi) U23 sz61_GVal rfl rfl om rfl) ?_)))))
   refine wl (r_ldS U61 rfl rfl (hB.range hfb hfr2) sz61_GVal) ?_
   refine wl_al (cs := #[.string ⟨#[]⟩, .int .i64 0, .int .i64 0]) ze61_GVal rfl (fun b14 w26 hb14 hs hr => ?_)
   have or_b2_b14 : b2 < b14 := nLL hb2.lt hr
   have or_b4_b14 : b4 < b14 := nLL hb4.lt hr
   have or_b6_b14 : b6 < b14 := nLL hb6.lt hr
   have or_b8_b14 : b8 < b14 := nLL hb8.lt hr
   have or_b9_b14 : b9 < b14 := nLL hb9.lt hr
   have or_hzh_b14 := (nLT hzh hr)
   have or_b13_b14 : b13 < b14 := nLL hb13.lt hr
   have lo14 := nLT (Bel.size hB) hr
   have lo_hBT_b14 := nLT (Bel.size hBT) hr
   replace hB := hB.tr0 hs
   replace hb2 := hb2.tr0 hs
   replace hb4 := hb4.tr0 hs
   replace hb6 := hb6.tr0 hs
   replace hBT := hBT.tr0 hs
   replace hb8 := hb8.tr0 hs
   replace hb9 := hb9.tr0 hs
   replace hgr := hgr.tr hs (by simp)
   replace hro := hro.tr hs (by simp)
   replace hzh := nLT hzh (Same.size hs)
   replace hb13 := hb13.tr0 hs
   clear hs
   clear hr
   refine wl_stW hb14 rfl rfl sz61_GVal rfl oneA (fun w27 hq hs => ?_)
   replace hB := hB.tr1 hs lo14
   replace hb2 := hb2.tr1 hs om
   replace hb4 := hb4.tr1 hs om
   replace hb6 := hb6.tr1 hs om
   replace hBT := hBT.tr1 hs lo_hBT_b14
   replace hb8 := hb8.tr1 hs om
   replace hb9 := hb9.tr1 hs om
   replace hgr := hgr.tr hs (fun g hg => by rw [List.mem_singleton.1 hg]; omega)
   replace hro := hro.tr hs (fun g hg => by rw [List.mem_singleton.1 hg]; exact .inl om)
   replace hzh := nLT hzh (Same.size hs)
   replace hb13 := hb13.tr1 hs om
   clear hs
   replace hb14 := hq
   refine x_nil (e_S (c_seq ?_))
   rw [hon, hvn] at hb14
   obtain ⟨_, gQ, curQ, eQ, _, _, hbQ, _⟩ := hgr.open_ hil
   cases eQ
   refine c_region (wl (r_mv (v := .func _ _ _) rfl) (wmI rfl (wl (r_fa U61 sz3_GLoose dE rfl rfl rfl) (wl (r_ld1 (v := .int _ _) U3 rfl rfl (hb14.cell rfl)) ?_))))
   refine wl_clv rfl fn18 (raise_any (T := T) (i := i) (b := on) (hTabT.mono hBT) (hTI.mono hBT) hS hb8 hb9 hgr hil (hTl i) honl) rfl rfl (fun e' w28 hr => ?_)
   obtain ⟨rfl, hC, hgr2⟩ := hr
   replace hB := hB.chG hC (fun k hk => by rw [hk]; omega)
   replace hBT := hBT.chG hC (fun k hk => by rw [hk]; omega)
   replace hb2 := hb2.chG hC (show ¬ b2 = gF from by omega)
   replace hb4 := hb4.chG hC (show ¬ b4 = gF from by omega)
   replace hb6 := hb6.chG hC (show ¬ b6 = gF from by omega)
   replace hb8 := hb8.chG hC (show ¬ b8 = gF from by omega)
   replace hb9 := hb9.chG hC (show ¬ b9 = gF from by omega)
   replace hb13 := hb13.chG hC (show ¬ b13 = gF from by omega)
   replace hb14 := hb14.chG hC (show ¬ b14 = gF from by omega)
   replace hro := hro.chG hbQ dE hC
   replace hzh := nLT hzh hC.size
   replace hgr := hgr2
   refine ⟨_, rfl, ?_⟩
   refine wl (r_not rfl) (wmB rfl ?_)
   refine wl_cases 58 rfl (fun g58 => ?_) (fun g58 => ?_)
   ·
    refine wlgn 58 rfl rfl rfl (wlgn 58 rfl rfl rfl (wlgn 58 rfl rfl rfl (wlgn 58 rfl rfl rfl (wlgn 58 rfl rfl rfl (wlgn 58 rfl rfl rfl ?_)))))
    refine wlgn 58 rfl rfl rfl (wl (r_pt (v := .bool _) rfl rfl) (x_nil (e_S (c_yes rfl (c_seq ?_)))))
    refine c_region (wl (r_bd (vs := #[]) (cs := #[.slice none 0 0]) (by simp) kR) (wl (r_bd (vs := #[]) (cs := #[.int .i64 0, .int .i64 0]) (by simp) kR) ?_))
    refine wl_stW hb4 rfl rfl sz28_SFind rfl oneA (fun w29 hq hs => ?_)
    replace hB := hB.tr1 hs lo4
    replace hb2 := hb2.tr1 hs om
    replace hb6 := hb6.tr1 hs om
    replace hb8 := hb8.tr1 hs om
    replace hb9 := hb9.tr1 hs om
    replace hzh := nLT hzh (Same.size hs)
    replace hb13 := hb13.tr1 hs om
    replace hb14 := hb14.tr1 hs om
    clear hs
    replace hb4 := hq
    refine waB rfl ?_
    refine wl_stW hb6 rfl rfl sz35_GLoose rfl oneA (fun w30 hq hs => ?_)
    replace hB := hB.tr1 hs lo6
    replace hb2 := hb2.tr1 hs om
    replace hb4 := hb4.tr1 hs om
    replace hb8 := hb8.tr1 hs om
    replace hb9 := hb9.tr1 hs om
    replace hzh := nLT hzh (Same.size hs)
    replace hb13 := hb13.tr1 hs om
    replace hb14 := hb14.tr1 hs om
    clear hs
    replace hb6 := hq
    refine x_nil (e_S (c_ret (e_Br (e_Sr (e_LSr ?_)))))
    refine e_Br (e_Br (e_Sr (e_LSr (e_Br (e_Sr ?_)))))
    refine fin3 (.inl rfl) rfl (rr_cell U28 rfl rfl hb4.range0 sz28_SFind) rfl (rr_cell U35 rfl rfl hb6.range0 sz35_GLoose) ?_
    first
      | exact ⟨⟨none, [], 0, false, (0, 0), rfl, fun w2 _ => nodes_nil w2 none, .inr ⟨by rw [hgl.zero], rfl, o, hD, .inr ⟨hGq ▸ raise_no2 hil hql hR hof hto hvl hm1 (fun e => by rw [e] at c66; cases c66), rfl, rfl⟩⟩⟩, hB⟩
      | exact ⟨⟨none, [], 0, false, (0, 0), rfl, fun w2 _ => nodes_nil w2 none, .inr ⟨by rw [hgl.zero], rfl, o, hD, .inr ⟨hGq ▸ raise_no hil hql hR hof (fun e => by rw [e] at g58; cases g58), rfl, rfl⟩⟩⟩, hB⟩
   have hm1 : (meet l (T i) on).2.1 = true := by
     cases hx : (meet l (T i) on).2.1 with
     | true => rfl
     | false => rw [hx] at g58; cases g58
   rw [if_pos hm1] at hgr
   have hT1l := fun x => raise_lt hS (raise_snoc (c := (i, on)) hR hm1) (tyO_lt hgx hS) x
   obtain ⟨_, gQ2, curQ2, eQ2, _, _, hbQ, _⟩ := hgr.open_ hil
   cases eQ2
   refine wl_gd 58 rfl rfl (wl (r_mv (v := .func _ _ _) rfl) (wl_gd 58 rfl rfl (wl (r_fa U30 sz3_GLoose dE rfl rfl rfl) (wl_gd 58 rfl rfl (wl (r_ld1 (v := .int _ _) U3 rfl rfl (hb13.cell rfl)) ?_)))))
   refine wl_gd 58 rfl rfl (wl (r_fa U61 sz3_GLoose dE rfl rfl rfl) (wl_gd 58 rfl rfl (wl (r_ld1 (v := .int _ _) U3 rfl rfl (hb14.cell rfl)) (wl_gd 58 rfl rfl ?_))))
   refine wl_clv rfl fn18 (raise_any (T := (raiseT l T (i, on))) (i := t) (b := vn) (hTabT.mono hBT) (hTI.mono hBT) hS hb8 hb9 hgr htl (hT1l t) hvnl) rfl rfl (fun e' w31 hr => ?_)
   obtain ⟨rfl, hC, hgr2⟩ := hr
   replace hB := hB.chG hC (fun k hk => by rw [hk]; omega)
   replace hBT := hBT.chG hC (fun k hk => by rw [hk]; omega)
   replace hb2 := hb2.chG hC (show ¬ b2 = gF from by omega)
   replace hb4 := hb4.chG hC (show ¬ b4 = gF from by omega)
   replace hb6 := hb6.chG hC (show ¬ b6 = gF from by omega)
   replace hb8 := hb8.chG hC (show ¬ b8 = gF from by omega)
   replace hb9 := hb9.chG hC (show ¬ b9 = gF from by omega)
   replace hb13 := hb13.chG hC (show ¬ b13 = gF from by omega)
   replace hb14 := hb14.chG hC (show ¬ b14 = gF from by omega)
   replace hro := hro.chG hbQ dE hC
   replace hzh := nLT hzh hC.size
   replace hgr := hgr2
   refine ⟨_, rfl, ?_⟩
   refine wl_gd 58 rfl rfl (wl (r_not rfl) (wl (r_pf (v := .bool _) rfl rfl) (x_nil (e_S ?_))))
   refine c_if rfl (fun c66 => ?_) (fun c66 => ?_)
   ·
    refine c_seq (c_region (wl (r_bd (vs := #[]) (cs := #[.slice none 0 0]) (by simp) kR) (wl (r_bd (vs := #[]) (cs := #[.int .i64 0, .int .i64 0]) (by simp) kR) ?_)))
    refine wl_stW hb4 rfl rfl sz28_SFind rfl oneA (fun w32 hq hs => ?_)
    replace hB := hB.tr1 hs lo4
    replace hb2 := hb2.tr1 hs om
    replace hb6 := hb6.tr1 hs om
    replace hb8 := hb8.tr1 hs om
    replace hb9 := hb9.tr1 hs om
    replace hzh := nLT hzh (Same.size hs)
    replace hb13 := hb13.tr1 hs om
    replace hb14 := hb14.tr1 hs om
    clear hs
    replace hb4 := hq
    refine waB rfl ?_
    refine wl_stW hb6 rfl rfl sz35_GLoose rfl oneA (fun w33 hq hs => ?_)
    replace hB := hB.tr1 hs lo6
    replace hb2 := hb2.tr1 hs om
    replace hb4 := hb4.tr1 hs om
    replace hb8 := hb8.tr1 hs om
    replace hb9 := hb9.tr1 hs om
    replace hzh := nLT hzh (Same.size hs)
    replace hb13 := hb13.tr1 hs om
    replace hb14 := hb14.tr1 hs om
    clear hs
    replace hb6 := hq
    refine x_nil (e_S (c_ret (e_Br (e_Sr (e_LSr ?_)))))
    refine e_Br (e_Br (e_Sr (e_LSr (e_Br (e_Sr ?_)))))
    refine fin3 (.inl rfl) rfl (rr_cell U28 rfl rfl hb4.range0 sz28_SFind) rfl (rr_cell U35 rfl rfl hb6.range0 sz35_GLoose) ?_
    first
      | exact ⟨⟨none, [], 0, false, (0, 0), rfl, fun w2 _ => nodes_nil w2 none, .inr ⟨by rw [hgl.zero], rfl, o, hD, .inr ⟨hGq ▸ raise_no2 hil hql hR hof hto hvl hm1 (fun e => by rw [e] at c66; cases c66), rfl, rfl⟩⟩⟩, hB⟩
      | exact ⟨⟨none, [], 0, false, (0, 0), rfl, fun w2 _ => nodes_nil w2 none, .inr ⟨by rw [hgl.zero], rfl, o, hD, .inr ⟨hGq ▸ raise_no hil hql hR hof (fun e => by rw [e] at g58; cases g58), rfl, rfl⟩⟩⟩, hB⟩
   have hm2 : (meet l ((raiseT l T (i, on)) t) vn).2.1 = true := by
     cases hx : (meet l ((raiseT l T (i, on)) t) vn).2.1 with
     | true => rfl
     | false => rw [hx] at c66; cases c66
   rw [if_pos hm2] at hgr
   refine c_skip (e_B (e_S (c_region (wl (r_add rfl rfl rfl om) (wmI rfl ?_)))))
   refine x_nil (e_LS ((nd Gq i).ln.length - (q + 1)) om agA ?_)
   exact ⟨q + 1, _, by omega, rfl, rfl, raise_yes hql hR hof hto hvl hm1 hm2, hB, hBT, hb2, hb4, hb6, hb8, hb9, hgr, hro, hzh⟩
  have hqe : q = (nd Gq i).ln.length := by omega
  refine c_exit (e_Sx (e_LSx (e_Bx (e_B (e_S ?_)))))
  refine c_region (wl (r_add rfl rfl rfl om) (wmI rfl (x_nil (e_LS (Gq.length - (i + 1)) om agA ?_))))
  exact ⟨i + 1, T, by omega, rfl, rfl, by rw [demP_zero, ← demP_all (q := q) om]; exact hR, hB, hBT, hb2, hb4, hb6, hb8, hb9, hgr, hzh⟩
 have hie : i = Gq.length := by omega
 subst hie
 refine c_exit (e_Sx (e_LSx (e_Bx (e_S (c_seq ?_)))))
 refine c_region (wl (r_ldS U28 rfl rfl hb9.range0 sz28_SFind) (wl (r_bd (vs := #[]) (cs := #[.int .i64 0, .int .i64 0]) (by simp) kR) ?_))
 refine wl_stW hb4 rfl rfl sz28_SFind rfl oneA (fun w34 hq hs => ?_)
 replace hB := hB.tr1 hs lo4
 replace hb2 := hb2.tr1 hs om
 replace hb6 := hb6.tr1 hs om
 replace hb8 := hb8.tr1 hs om
 replace hb9 := hb9.tr1 hs om
 replace hgr := hgr.tr hs (fun g hg => by rw [List.mem_singleton.1 hg]; omega)
 replace hzh := nLT hzh (Same.size hs)
 clear hs
 replace hb4 := hq
 refine waB rfl ?_
 refine wl_stW hb6 rfl rfl sz35_GLoose rfl oneA (fun w35 hq hs => ?_)
 replace hB := hB.tr1 hs lo6
 replace hb2 := hb2.tr1 hs om
 replace hb4 := hb4.tr1 hs om
 replace hb8 := hb8.tr1 hs om
 replace hb9 := hb9.tr1 hs om
 replace hgr := hgr.tr hs (fun g hg => by rw [List.mem_singleton.1 hg]; omega)
 replace hzh := nLT hzh (Same.size hs)
 clear hs
 replace hb6 := hq
 refine x_nil (e_S (c_ret (fin3 (.inl rfl) rfl (rr_cell U28 rfl rfl hb4.range0 sz28_SFind) rfl (rr_cell U35 rfl rfl hb6.range0 sz35_GLoose) ?_)))
 refine ⟨⟨AF, reG Gq T, _, true, (0, 0), by rw [reG_len]; rfl, fun w2 hf => ?_, .inr ⟨by rw [hgl.zero], rfl, o, hD, .inl ⟨T, hGq ▸ (by have h := hR; rw [demP_zero] at h; exact h), rfl, by rw [← hGq]⟩⟩⟩, hB⟩
 exact ((hgr.low (show w.heap.size ≤ zlo by omega)).fr hf).nodes
end Go.Proofs.YtfhmpbmgddaiiaaDoor
namespace Go.Proofs.YtfhmpbmgddaiiaaDoor
open Go.RowKit
theorem fn20 : callable Tryd.prog 20 = true := by kernel_rfl
theorem fn5 : callable Tryd.prog 5 = true := by kernel_rfl
theorem fn6 : callable Tryd.prog 6 = true := by kernel_rfl
theorem fn7 : callable Tryd.prog 7 = true := by kernel_rfl
theorem fn9 : callable Tryd.prog 9 = true := by kernel_rfl
theorem lfa_any (A B G : Option Addr) (c d cg : Nat) (l : List Ty) (fs : List Ft) (gr : List Nd) (w : World) (hcl : l.length ≤ c) (hdl : fs.length ≤ d) (hT : TypesIn w A l) (hF : FeatsIn w B fs) (hG : NodesIn w G gr) : Calls Tryd.prog 7 #[.agg #[.slice A l.length c, .slice B fs.length d], .agg #[.slice G gr.length cg]] w fun e w' => e = .returned (flV (looseT l fs gr)) ∧ Bel w w' := by
 refine enter Tryd.func7 Tryd.ntmps7 rfl (Nat.le_of_ble_eq_true rfl) ?_
 have hB : Bel w w := Below.refl _ _
 refine c_seq (c_region ?_)
 refine wl_bx (v := .agg #[_, _]) (cs := #[_, _]) rfl rfl (fun b2 w1 hb2 hs hr => ?_)
 have lo2 := nLT (Bel.size hB) hr
 replace hB := hB.tr0 hs
 clear hs
 clear hr
 refine wl_bx (v := .agg #[_]) (cs := #[_]) rfl rfl (fun b3 w2 hb3 hs hr => ?_)
 have or_b2_b3 : b2 < b3 := nLL hb2.lt hr
 have lo3 := nLT (Bel.size hB) hr
 replace hB := hB.tr0 hs
 replace hb2 := hb2.tr0 hs
 clear hs
 clear hr
 refine wl_al (cs := #[.int .i64 0, .int .i64 0]) ze35_SFind rfl (fun b4 w3 hb4 hs hr => ?_)
 have or_b2_b4 : b2 < b4 := nLL hb2.lt hr
 have or_b3_b4 : b3 < b4 := nLL hb3.lt hr
 have lo4 := nLT (Bel.size hB) hr
 replace hB := hB.tr0 hs
 replace hb2 := hb2.tr0 hs
 replace hb3 := hb3.tr0 hs
 clear hs
 clear hr
 refine x_nil (e_S (c_seq (c_seq (c_region (wl (r_ldS U25 rfl rfl hb2.range0 sz25_SFind) ?_)))))
 refine wl_cl fn20 (hierFault_any A B c d l fs _ hcl hdl (hT.mono hB) (hF.mono hB)) rfl (fun e' w4 hr => ?_)
 obtain ⟨rfl, hs⟩ := hr
 replace hs := Same.of_bel hs
 replace hB := hB.tr0 hs
 replace hb2 := hb2.tr0 hs
 replace hb3 := hb3.tr0 hs
 replace hb4 := hb4.tr0 hs
 clear hs
 refine ⟨_, rfl, ?_⟩
 refine wl_al (cs := #[.int .i64 0, .int .i64 0]) ze35_SFind rfl (fun b5 w5 hb5 hs hr => ?_)
 have or_b2_b5 : b2 < b5 := nLL hb2.lt hr
 have or_b3_b5 : b3 < b5 := nLL hb3.lt hr
 have or_b4_b5 : b4 < b5 := nLL hb4.lt hr
 have lo5 := nLT (Bel.size hB) hr
 replace hB := hB.tr0 hs
 replace hb2 := hb2.tr0 hs
 replace hb3 := hb3.tr0 hs
 replace hb4 := hb4.tr0 hs
 clear hs
 clear hr
 refine wl_stW hb5 rfl rfl sz35_SFind rfl oneA (fun w6 hq hs => ?_)
 replace hB := hB.tr1 hs lo5
 replace hb2 := hb2.tr1 hs om
 replace hb3 := hb3.tr1 hs om
 replace hb4 := hb4.tr1 hs om
 clear hs
 replace hb5 := hq
 refine x_nil (e_S (c_seq (c_region (wl (r_fa U35 sz3_GSearch dE rfl rfl rfl) (wl (r_ld1 (v := .int _ _) U3 rfl rfl (hb5.cell rfl)) ?_)))))
 refine wl (r_neq rfl rfl) (x_nil (e_S ?_))
 refine c_ifd rfl (fun c12 => ?_) (fun c12 => ?_)
 ·
  refine c_seq (c_region (wl (r_ldS U35 rfl rfl hb5.range0 sz35_SFind) ?_))
  refine wl_stW hb4 rfl rfl sz35_SFind rfl oneA (fun w7 hq hs => ?_)
  replace hB := hB.tr1 hs lo4
  replace hb2 := hb2.tr1 hs om
  replace hb3 := hb3.tr1 hs om
  replace hb5 := hb5.tr1 hs om
  clear hs
  replace hb4 := hq
  refine x_nil (e_S (c_ret (e_Sr (fin1 (.inl rfl) rfl (rr_cell U35 rfl rfl hb4.range0 sz35_SFind) ?_))))
  exact ⟨ret_fl (lt_hier c12), hB⟩
 have h0 := Decidable.not_not.1 c12
 refine c_skip (e_S (c_seq (c_seq (c_region (wl (r_ldS U25 rfl rfl hb2.range0 sz25_SFind) ?_)))))
 refine wl (r_ldS U28 rfl rfl hb3.range0 sz28_SFind) ?_
 refine wl_cl fn21 (rloose_any A B G c d cg l fs gr _ (hG.mono hB)) rfl (fun e' w8 hr => ?_)
 obtain ⟨rfl, hs⟩ := hr
 replace hs := Same.of_bel hs
 replace hB := hB.tr0 hs
 replace hb2 := hb2.tr0 hs
 replace hb3 := hb3.tr0 hs
 replace hb4 := hb4.tr0 hs
 replace hb5 := hb5.tr0 hs
 clear hs
 refine ⟨_, rfl, ?_⟩
 refine wl_al (cs := #[.int .i64 0, .int .i64 0]) ze35_SFind rfl (fun b6 w9 hb6 hs hr => ?_)
 have or_b2_b6 : b2 < b6 := nLL hb2.lt hr
 have or_b3_b6 : b3 < b6 := nLL hb3.lt hr
 have or_b4_b6 : b4 < b6 := nLL hb4.lt hr
 have or_b5_b6 : b5 < b6 := nLL hb5.lt hr
 have lo6 := nLT (Bel.size hB) hr
 replace hB := hB.tr0 hs
 replace hb2 := hb2.tr0 hs
 replace hb3 := hb3.tr0 hs
 replace hb4 := hb4.tr0 hs
 replace hb5 := hb5.tr0 hs
 clear hs
 clear hr
 refine wl_stW hb6 rfl rfl sz35_SFind rfl oneA (fun w10 hq hs => ?_)
 replace hB := hB.tr1 hs lo6
 replace hb2 := hb2.tr1 hs om
 replace hb3 := hb3.tr1 hs om
 replace hb4 := hb4.tr1 hs om
 replace hb5 := hb5.tr1 hs om
 clear hs
 replace hb6 := hq
 refine x_nil (e_S (c_seq (c_region (wl (r_fa U35 sz3_GSearch dE rfl rfl rfl) (wl (r_ld1 (v := .int _ _) U3 rfl rfl (hb6.cell rfl)) ?_)))))
 refine wl (r_neq rfl rfl) (x_nil (e_S ?_))
 refine c_ifd rfl (fun c19 => ?_) (fun c19 => ?_)
 ·
  refine c_seq (c_region (wl (r_ldS U35 rfl rfl hb6.range0 sz35_SFind) ?_))
  refine wl_stW hb4 rfl rfl sz35_SFind rfl oneA (fun w11 hq hs => ?_)
  replace hB := hB.tr1 hs lo4
  replace hb2 := hb2.tr1 hs om
  replace hb3 := hb3.tr1 hs om
  replace hb5 := hb5.tr1 hs om
  replace hb6 := hb6.tr1 hs om
  clear hs
  replace hb4 := hq
  refine x_nil (e_S (c_ret (e_Sr (fin1 (.inl rfl) rfl (rr_cell U35 rfl rfl hb4.range0 sz35_SFind) ?_))))
  exact ⟨ret_fl (lt_loose h0 c19), hB⟩
 have h1 := Decidable.not_not.1 c19
 have hk := gok_of h1
 refine c_skip (e_S (c_seq (c_seq (c_region (wl (r_ldS U28 rfl rfl hb3.range0 sz28_SFind) ?_)))))
 refine wl_cl fn22 (runr_any G cg l.length fs.length gr _ (hG.mono hB) hk) rfl (fun e' w12 hr => ?_)
 obtain ⟨rfl, hs⟩ := hr
 replace hs := Same.of_bel hs
 replace hB := hB.tr0 hs
 replace hb2 := hb2.tr0 hs
 replace hb3 := hb3.tr0 hs
 replace hb4 := hb4.tr0 hs
 replace hb5 := hb5.tr0 hs
 replace hb6 := hb6.tr0 hs
 clear hs
 refine ⟨_, rfl, ?_⟩
 refine waI rfl (x_nil (e_S (c_seq (c_region (wmI rfl ?_)))))
 refine wl (r_geq rfl rfl) (x_nil (e_S ?_))
 refine c_ifd rfl (fun c24 => ?_) (fun c24 => ?_)
 ·
  refine c_seq (c_region (wmI rfl (wl (r_bd2 (v0 := .int _ _) (v1 := .int _ _) (fun v0 v1 => #[v0, v1]) rfl rfl kR) ?_)))
  refine wl_stW hb4 rfl rfl sz35_SFind rfl oneA (fun w13 hq hs => ?_)
  replace hB := hB.tr1 hs lo4
  replace hb2 := hb2.tr1 hs om
  replace hb3 := hb3.tr1 hs om
  replace hb5 := hb5.tr1 hs om
  replace hb6 := hb6.tr1 hs om
  clear hs
  replace hb4 := hq
  refine x_nil (e_S (c_ret (e_Sr (fin1 (.inl rfl) rfl (rr_cell U35 rfl rfl hb4.range0 sz35_SFind) ?_))))
  exact ⟨ret_fl (lt_unr h0 h1 c24), hB⟩
 refine c_skip (e_S (c_seq (c_region (wl (r_bd (vs := #[]) (cs := #[.int .i64 0, .int .i64 0]) (by simp) kR) ?_))))
 refine wl_stW hb4 rfl rfl sz35_SFind rfl oneA (fun w14 hq hs => ?_)
 replace hB := hB.tr1 hs lo4
 replace hb2 := hb2.tr1 hs om
 replace hb3 := hb3.tr1 hs om
 replace hb5 := hb5.tr1 hs om
 replace hb6 := hb6.tr1 hs om
 clear hs
 replace hb4 := hq
 refine x_nil (e_S (c_ret (fin1 (.inl rfl) rfl (rr_cell U35 rfl rfl hb4.range0 sz35_SFind) ?_)))
 exact ⟨ret_fl (lt_zero h0 h1 c24), hB⟩
end Go.Proofs.YtfhmpbmgddaiiaaDoor
