/- What these functions of the program compute, at every world: glosswright/welltyped.Total. What these functions of the program compute, at every world: glosswright/glosswrightlaw3.WelltypedFillIsLeast. -/
import Derived.Test.YtegngekpmpdngaaDoorU
import Derived.Test.YtegngekpmpdngaaDoorWix
import Derived.Test.YtegngekpmpdngaaDoorSFind
import Derived.Test.YtegngekpmpdngaaDoorSBase
import Derived.Test.YtegngekpmpdngaaDoorLub
import Derived.Test.YtegngekpmpdngaaDoorWFil
namespace Go.Proofs.YtegngekpmpdngaaDoor
open Go.RowKit
noncomputable def totB (l : List Ty) (fs : List Ft) (g : List Nd) : Bool := @decide (Tot l fs g) (Classical.propDecidable _)
theorem totB_yes {l : List Ty} {fs : List Ft} {g : List Nd} (h : Tot l fs g) : totB l fs g = true := @decide_eq_true _ (Classical.propDecidable _) h
theorem totB_no {l : List Ty} {fs : List Ft} {g : List Nd} (h : ¬ Tot l fs g) : totB l fs g = false := @decide_eq_false _ (Classical.propDecidable _) h
noncomputable def totG (l : List Ty) (fs : List Ft) (g : List Nd) : Bool := if (graphF l fs g).1 = 0 then totB l fs g else false
theorem totG_no {l : List Ty} {fs : List Ft} {g : List Nd} (h : ¬ (graphF l fs g).1 = 0) : totG l fs g = false := by unfold totG; rw [if_neg h]
theorem totG_yes {l : List Ty} {fs : List Ft} {g : List Nd} (h : (graphF l fs g).1 = 0) : totG l fs g = totB l fs g := by unfold totG; rw [if_pos h]
theorem ret_tot {l : List Ty} {fs : List Ft} {g : List Nd} {b : Bool} {x y : Int} (h : totG l fs g = b) (hF : graphF l fs g = (x, y)) : Ending.returned (.tuple #[.bool b, .agg #[.int .i64 x, .int .i64 y]]) = .returned (.tuple #[.bool (totG l fs g), .agg #[.int .i64 (graphF l fs g).1, .int .i64 (graphF l fs g).2]]) := by rw [h, hF]
theorem gf_zzT {l : List Ty} {fs : List Ft} {g : List Nd} (h : (graphF l fs g).1 = 0) : graphF l fs g = (0, 0) := by
  have hv := gv_of h
  rw [gf_in hv.h, wi_zero hv.lo hv.t hv.u]
theorem fn35_WTot : callable Tryd.prog 35 = true := by kernel_rfl
set_option maxHeartbeats 2000000 in
theorem total_any (A B G : Option Addr) (c d cg : Nat) (l : List Ty) (fs : List Ft) (gr : List Nd) (w : World) (hTab : TabIn w) (hT : TypesIn w A l) (hF : FeatsIn w B fs) (hG : NodesIn w G gr) : Calls Tryd.prog 21 #[.agg #[.slice A l.length c, .slice B fs.length d], .agg #[.slice G gr.length cg]] w fun e w' => e = .returned (.tuple #[.bool (totG l fs gr), .agg #[.int .i64 (graphF l fs gr).1, .int .i64 (graphF l fs gr).2]]) ∧ Bel w w' := by
 refine enter Tryd.func21 Tryd.ntmps21 rfl (Nat.le_of_ble_eq_true rfl) ?_
 have hB : Bel w w := Below.refl _ _
 refine c_seq (c_region ?_)
 refine wl_bx (v := .agg #[_, _]) (cs := #[_, _]) rfl rfl (fun b2 w1 hb2 hs hr => ?_)
 have lo2 := nLT (Bel.size hB) hr
 replace hB := hB.tr0 hs
 clear hs
 clear hr
 refine wl_bx (v := .agg #[_]) (cs := #[_]) rfl rfl (fun b3 w2 hb3 hs hr => ?_)
 have or_b2_b3 : b2 < b3 := nLL hb2.lt hr
 have lo3 := nLT (Bel.size hB) hr
 replace hB := hB.tr0 hs
 replace hb2 := hb2.tr0 hs
 clear hs
 clear hr
 refine waB rfl ?_
 refine wl_al (cs := #[.int .i64 0, .int .i64 0]) ze35_GLoose rfl (fun b5 w3 hb5 hs hr => ?_)
 have or_b2_b5 : b2 < b5 := nLL hb2.lt hr
 have or_b3_b5 : b3 < b5 := nLL hb3.lt hr
 have lo5 := nLT (Bel.size hB) hr
 replace hB := hB.tr0 hs
 replace hb2 := hb2.tr0 hs
 replace hb3 := hb3.tr0 hs
 clear hs
 clear hr
 refine x_nil (e_S (c_seq (c_seq (c_region (wl (r_ldS U25 rfl rfl hb2.range0 sz25) ?_)))))
 refine wl (r_ldS U28 rfl rfl hb3.range0 sz28_GTgt) ?_
 refine wl_cl fn35_WTot (gval_any A B G c d cg l fs gr _ (hTab.mono hB) (hT.mono hB) (hF.mono hB) (hG.mono hB)) rfl (fun e' w4 hr => ?_)
 obtain ⟨rfl, hs⟩ := hr
 replace hs := Same.of_bel hs
 replace hB := hB.tr0 hs
 replace hb2 := hb2.tr0 hs
 replace hb3 := hb3.tr0 hs
 replace hb5 := hb5.tr0 hs
 clear hs
 refine ⟨_, rfl, ?_⟩
 refine wl_al (cs := #[.int .i64 0, .int .i64 0]) ze35_GLoose rfl (fun b6 w5 hb6 hs hr => ?_)
 have or_b2_b6 : b2 < b6 := nLL hb2.lt hr
 have or_b3_b6 : b3 < b6 := nLL hb3.lt hr
 have or_b5_b6 : b5 < b6 := nLL hb5.lt hr
 have lo6 := nLT (Bel.size hB) hr
 replace hB := hB.tr0 hs
 replace hb2 := hb2.tr0 hs
 replace hb3 := hb3.tr0 hs
 replace hb5 := hb5.tr0 hs
 clear hs
 clear hr
 refine wl_stW hb6 rfl rfl sz35_GLoose rfl oneA (fun w6 hq hs => ?_)
 replace hB := hB.tr1 hs lo6
 replace hb2 := hb2.tr1 hs om
 replace hb3 := hb3.tr1 hs om
 replace hb5 := hb5.tr1 hs om
 clear hs
 replace hb6 := hq
 refine x_nil (e_S (c_seq (c_region (wl (r_fa U35 sz3_GSearch dE rfl rfl rfl) (wl (r_ld1 (v := .int _ _) U3 rfl rfl (hb6.cell rfl)) ?_)))))
 refine wl (r_neq rfl rfl) (x_nil (e_S ?_))
 refine c_ifd rfl (fun c17 => ?_) (fun c17 => ?_)
 ·
  refine c_seq ?_
  refine c_all #[false, false, false] kR (by rfl) (fun w7 hs => ?_)
  replace hB := hB.tr0 hs
  replace hb2 := hb2.tr0 hs
  replace hb3 := hb3.tr0 hs
  replace hb5 := hb5.tr0 hs
  replace hb6 := hb6.tr0 hs
  clear hs
  refine a_step [0, 1] kR rfl ⟨fun o hoq => ?_, fun o hoq => ?_, trivial⟩
  ·
   obtain rfl := sI hoq
   refine wl (r_ldS U35 rfl rfl hb6.range0 sz35_GLoose) (x_nil (e_A (listed' := #[true, false, false]) (by rfl) ?_))
   refine a_step [1] kR rfl ⟨fun o hoq => ?_, trivial⟩
   obtain rfl := sI hoq
   refine waB rfl (x_nil (e_A (listed' := #[true, true, false]) (by rfl) ?_))
   refine a_step [2] kR rfl ⟨fun o hoq => ?_, trivial⟩
   obtain rfl := sI hoq
   refine wl_stW hb5 rfl rfl sz35_GLoose rfl oneA (fun w8 hq hs => ?_)
   replace hB := hB.tr1 hs lo5
   replace hb2 := hb2.tr1 hs om
   replace hb3 := hb3.tr1 hs om
   replace hb6 := hb6.tr1 hs om
   clear hs
   replace hb5 := hq
   refine x_nil (e_A (listed' := #[true, true, true]) (by rfl) (a_end kR (e_S (c_ret (e_Sr ?_)))))
   refine fin2 (.inl rfl) rfl rfl (rr_cell U35 rfl rfl hb5.range0 sz35_GLoose) ?_
   exact ⟨ret_tot (totG_no c17) rfl, hB⟩
  obtain rfl := sI hoq
  refine waB rfl (x_nil (e_A (listed' := #[false, true, false]) (by rfl) ?_))
  refine a_step [0] kR rfl ⟨fun o hoq => ?_, trivial⟩
  obtain rfl := sI hoq
  refine wl (r_ldS U35 rfl rfl hb6.range0 sz35_GLoose) (x_nil (e_A (listed' := #[true, true, false]) (by rfl) ?_))
  refine a_step [2] kR rfl ⟨fun o hoq => ?_, trivial⟩
  obtain rfl := sI hoq
  refine wl_stW hb5 rfl rfl sz35_GLoose rfl oneA (fun w9 hq hs => ?_)
  replace hB := hB.tr1 hs lo5
  replace hb2 := hb2.tr1 hs om
  replace hb3 := hb3.tr1 hs om
  replace hb6 := hb6.tr1 hs om
  clear hs
  replace hb5 := hq
  refine x_nil (e_A (listed' := #[true, true, true]) (by rfl) (a_end kR (e_S (c_ret (e_Sr ?_)))))
  refine fin2 (.inl rfl) rfl rfl (rr_cell U35 rfl rfl hb5.range0 sz35_GLoose) ?_
  exact ⟨ret_tot (totG_no c17) rfl, hB⟩
 have h0 := Decidable.not_not.1 c17
 have hva := gv_of h0
 have hf40 := hva.few
 have h60 := hva.gok.le
 refine c_skip (e_S (c_seq (c_region (wl (r_fa U25 sz22_GLoose dE rfl rfl rfl) (wl (r_ld1 (v := .slice _ _ _) U22 rfl rfl (hb2.cell rfl)) ?_)))))
 refine wl_cl fn48_GVal (tables2_any A c l _ (hT.mono hB) hva.s.vt hva.s.le) rfl (fun e' w10 hr => ?_)
 obtain ⟨⟨bu, bd, rfl, hTI⟩, hs⟩ := hr
 replace hs := Same.of_bel hs
 replace hB := hB.tr0 hs
 replace hb2 := hb2.tr0 hs
 replace hb3 := hb3.tr0 hs
 replace hb5 := hb5.tr0 hs
 replace hb6 := hb6.tr0 hs
 clear hs
 obtain ⟨wT, hwT⟩ : ∃ x, x = w10 := ⟨_, rfl⟩
 have hBT : Bel wT w10 := by rw [hwT]; exact Below.refl _ _
 have hBwT := Bel.size hB
 rw [← hwT] at hTI hBwT
 refine ⟨_, rfl, ?_⟩
 refine wl_al (cs := #[.slice none 0 0, .slice none 0 0]) ze92_SFind rfl (fun b7 w11 hb7 hs hr => ?_)
 have or_b2_b7 : b2 < b7 := nLL hb2.lt hr
 have or_b3_b7 : b3 < b7 := nLL hb3.lt hr
 have or_b5_b7 : b5 < b7 := nLL hb5.lt hr
 have or_b6_b7 : b6 < b7 := nLL hb6.lt hr
 have lo7 := nLT (Bel.size hB) hr
 have lo_hBT_b7 := nLT (Bel.size hBT) hr
 replace hB := hB.tr0 hs
 replace hb2 := hb2.tr0 hs
 replace hb3 := hb3.tr0 hs
 replace hb5 := hb5.tr0 hs
 replace hb6 := hb6.tr0 hs
 replace hBT := hBT.tr0 hs
 clear hs
 clear hr
 refine wl_stW hb7 rfl rfl sz92_GVal rfl oneA (fun w12 hq hs => ?_)
 replace hB := hB.tr1 hs lo7
 replace hb2 := hb2.tr1 hs om
 replace hb3 := hb3.tr1 hs om
 replace hb5 := hb5.tr1 hs om
 replace hb6 := hb6.tr1 hs om
 replace hBT := hBT.tr1 hs lo_hBT_b7
 clear hs
 replace hb7 := hq
 refine x_nil (e_S (c_seq (c_seq (c_region (wl (r_fa U28 sz26_GTgt dE rfl rfl rfl) ?_)))))
 refine wl (r_ld1 (v := .slice _ _ _) U26 rfl rfl (hb3.cell rfl)) (wl (r_len U26 rfl) (wmI rfl (x_nil (e_S (c_block ?_)))))
 refine c_loopS [4, 8, 9, 10, 11, 25, 26, 27, 28, 29, 30, 31, 32, 33, 34, 35, 36, 37, 38, 39, 40, 41, 42, 43, 44, 45, 46, 47, 48, 49, 50, 51, 52, 53] (fun m g w' => ∃ i : Nat, i ≤ gr.length ∧ m = gr.length - i ∧ g 25 = .int .i64 i ∧ DoneP l fs gr i 0 ∧ Bel w w' ∧ Bel wT w' ∧ Blk w' b2 25 #[.slice A l.length c, .slice B fs.length d] ∧ Blk w' b3 28 #[.slice G gr.length cg] ∧ Blk w' b5 35 #[.int .i64 0, .int .i64 0] ∧ Blk w' b7 92 #[.slice (some ⟨bu, 0, none⟩) l.length l.length, .slice (some ⟨bd, 0, none⟩) l.length l.length]) (gr.length) ?_ (fun m g6 w13 hI => ?_)
 ·
  exact ⟨0, Nat.zero_le _, rfl, rfl, DoneP.start, hB, hBT, hb2, hb3, hb5, hb7⟩
 obtain ⟨i, hi, hm, hgi, hdn, hB, hBT, hb2, hb3, hb5, hb7⟩ := hI
 refine c_know 25 (.int .i64 i) hgi nu (c_seq (c_region (wl (r_lss rfl rfl) (x_nil (e_S ?_)))))
 refine c_seq ?_
 refine c_ifd rfl (fun c26 => ?_) (fun c26 => ?_)
 ·
  have hil : i < gr.length := by omega
  obtain ⟨nb, no, LA, lc, rfl, hnb, hnr, _⟩ := hG.at_ (Below.refl _ _ : Bel w w) hil
  obtain ⟨tn, htn, htnl⟩ : ∃ t : Nat, (gr[i]'hil).ty = (t : Int) ∧ t < l.length := by
    have h := hva.gok.ty i hil
    exact ⟨(gr[i]'hil).ty.toNat, by omega, by omega⟩
  have htnd : (nd gr i).ty.toNat = tn := by rw [nd_eq hil, htn]; rfl
  refine c_skip (e_S (c_seq (c_block (c_seq (c_region ?_)))))
  refine wmI rfl (wl (r_ia (i := i) U26 sz33_GTgt rfl rfl hil rfl) (wl (r_ldS U33 rfl rfl (hB.range hnb hnr) sz33_GTgt) ?_))
  refine wl_al (cs := #[.int .i64 0, .slice none 0 0]) ze33_GTgt rfl (fun b9 w14 hb9 hs hr => ?_)
  have or_b2_b9 : b2 < b9 := nLL hb2.lt hr
  have or_b3_b9 : b3 < b9 := nLL hb3.lt hr
  have or_b5_b9 : b5 < b9 := nLL hb5.lt hr
  have or_b7_b9 : b7 < b9 := nLL hb7.lt hr
  have lo9 := nLT (Bel.size hB) hr
  have lo_hBT_b9 := nLT (Bel.size hBT) hr
  replace hB := hB.tr0 hs
  replace hb2 := hb2.tr0 hs
  replace hb3 := hb3.tr0 hs
  replace hb5 := hb5.tr0 hs
  replace hBT := hBT.tr0 hs
  replace hb7 := hb7.tr0 hs
  clear hs
  clear hr
  refine waI rfl ?_
  refine wl_stW hb9 rfl rfl sz33_GTgt rfl oneA (fun w15 hq hs => ?_)
  replace hB := hB.tr1 hs lo9
  replace hb2 := hb2.tr1 hs om
  replace hb3 := hb3.tr1 hs om
  replace hb5 := hb5.tr1 hs om
  replace hBT := hBT.tr1 hs lo_hBT_b9
  replace hb7 := hb7.tr1 hs om
  clear hs
  replace hb9 := hq
  refine x_nil (e_S (c_seq ?_))
  rw [htn] at hb9
  refine c_region (wl (r_fa U25 sz23_GLoose dE rfl rfl rfl) (wl (r_ld1 (v := .slice _ _ _) U23 rfl rfl (hb2.cell rfl)) (wl (r_len U23 rfl) (wmI rfl (x_nil ?_)))))
  refine e_S (c_block ?_)
  refine c_loopS [4, 10, 11, 33, 34, 35, 36, 37, 38, 39, 40, 41, 42, 43, 44, 45, 46, 47, 48, 49, 50, 51, 52] (fun m g w' => ∃ k : Nat, k ≤ fs.length ∧ m = fs.length - k ∧ g 33 = .int .i64 k ∧ DoneP l fs gr i k ∧ Bel w w' ∧ Bel wT w' ∧ Blk w' b2 25 #[.slice A l.length c, .slice B fs.length d] ∧ Blk w' b3 28 #[.slice (some ⟨nb, no, none⟩) gr.length cg] ∧ Blk w' b5 35 #[.int .i64 0, .int .i64 0] ∧ Blk w' b7 92 #[.slice (some ⟨bu, 0, none⟩) l.length l.length, .slice (some ⟨bd, 0, none⟩) l.length l.length] ∧ Blk w' b9 33 #[.int .i64 ((tn : Nat) : Int), .slice LA (gr[i]'hil).ln.length lc]) (fs.length) ?_ (fun m g9 w16 hI => ?_)
  ·
   exact ⟨0, Nat.zero_le _, rfl, rfl, hdn, hB, hBT, hb2, hb3, hb5, hb7, hb9⟩
  obtain ⟨k, hk, hmk, hgk, hdn, hB, hBT, hb2, hb3, hb5, hb7, hb9⟩ := hI
  refine c_know 33 (.int .i64 k) hgk nu (c_seq (c_region (wl (r_lss rfl rfl) (x_nil (e_S ?_)))))
  refine c_seq ?_
  refine c_ifd rfl (fun c34 => ?_) (fun c34 => ?_)
  ·
   have hkl : k < fs.length := by omega
   obtain ⟨fb, fo, rfl, hfb, hfr2⟩ := hF.at_ (Below.refl _ _ : Bel w w) hkl
   have hff := hva.f.at_ k hkl
   obtain ⟨on, hon, honl⟩ : ∃ t : Nat, (fs[k]'hkl).of = (t : Int) ∧ t < l.length := ⟨(fs[k]'hkl).of.toNat, by omega, by omega⟩
   obtain ⟨vn, hvn, hvnl⟩ : ∃ t : Nat, (fs[k]'hkl).val = (t : Int) ∧ t < l.length := ⟨(fs[k]'hkl).val.toNat, by omega, by omega⟩
   have hfa : ftAt fs ((k : Nat) : Int) = fs[k] := by simp [ftAt, List.getD, hkl]
   have hof : (ftAt fs ((k : Nat) : Int)).of.toNat = on := by rw [hfa, hon]; rfl
   have hvl : (ftAt fs ((k : Nat) : Int)).val = (vn : Int) := by rw [hfa, hvn]
   refine c_skip (e_S (c_seq (c_block (c_seq (c_region ?_)))))
   refine wmI rfl (wl (r_ia (i := k) U23 sz63_GVal rfl rfl om rfl) (wl (r_ldS U63 rfl rfl (hB.range hfb hfr2) sz63_GVal) ?_))
   refine wl_al (cs := #[.string ⟨#[]⟩, .int .i64 0, .int .i64 0]) ze63_GVal rfl (fun b11 w17 hb11 hs hr => ?_)
   have or_b2_b11 : b2 < b11 := nLL hb2.lt hr
   have or_b3_b11 : b3 < b11 := nLL hb3.lt hr
   have or_b5_b11 : b5 < b11 := nLL hb5.lt hr
   have or_b7_b11 : b7 < b11 := nLL hb7.lt hr
   have or_b9_b11 : b9 < b11 := nLL hb9.lt hr
   have lo11 := nLT (Bel.size hB) hr
   have lo_hBT_b11 := nLT (Bel.size hBT) hr
   replace hB := hB.tr0 hs
   replace hb2 := hb2.tr0 hs
   replace hb3 := hb3.tr0 hs
   replace hb5 := hb5.tr0 hs
   replace hBT := hBT.tr0 hs
   replace hb7 := hb7.tr0 hs
   replace hb9 := hb9.tr0 hs
   clear hs
   clear hr
   refine waI rfl ?_
   refine wl_stW hb11 rfl rfl sz63_GVal rfl oneA (fun w18 hq hs => ?_)
   replace hB := hB.tr1 hs lo11
   replace hb2 := hb2.tr1 hs om
   replace hb3 := hb3.tr1 hs om
   replace hb5 := hb5.tr1 hs om
   replace hBT := hBT.tr1 hs lo_hBT_b11
   replace hb7 := hb7.tr1 hs om
   replace hb9 := hb9.tr1 hs om
   clear hs
   replace hb11 := hq
   refine x_nil (e_S (c_seq ?_))
   rw [hon, hvn] at hb11
   refine c_cutS [38, 39, 40, 41, 42, 43, 44, 45, 46, 47, 48, 49, 50] (fun g w' => (g 50 = .bool (decide (sub l tn on = true ∧ tgt (gr[i]'hil).ln ((k : Nat) : Int) < 0))) ∧ Same [] w18 w') ?_ (fun g11 w19 hI => ?_)
   ·
    have hZ : SameQ [] w18 w18 := Same.refl _ _
    refine c_region (wl (r_ldS U92 rfl rfl hb7.range0 sz92_GVal) (wl (r_fa U33 sz3_GSearch dE rfl rfl rfl) (wl (r_ld1 (v := .int _ _) U3 rfl rfl (hb9.cell rfl)) (wl (r_fa U63 sz3_GSearch dE rfl rfl rfl) (wl (r_ld1 (v := .int _ _) U3 rfl rfl (hb11.cell rfl)) ?_)))))
    refine wl_cl fn50 (tsub_any l bu bd tn on _ (hTI.mono hBT) hva.s.le htnl honl) rfl (fun e' w20 hr => ?_)
    obtain ⟨rfl, hs⟩ := hr
    replace hs := Same.of_bel hs
    replace hB := hB.tr0 hs
    replace hb2 := hb2.tr0 hs
    replace hb3 := hb3.tr0 hs
    replace hb5 := hb5.tr0 hs
    replace hBT := hBT.tr0 hs
    replace hb7 := hb7.tr0 hs
    replace hb9 := hb9.tr0 hs
    replace hb11 := hb11.tr0 hs
    replace hZ := SameQ.trans hZ hs (by simp)
    clear hs
    refine ⟨_, rfl, ?_⟩
    refine wmB rfl ?_
    refine wl_cases 44 rfl (fun g44 => ?_) (fun g44 => ?_)
    ·
     refine wl_gd 44 rfl rfl (wl (r_ldS U28 rfl rfl hb3.range0 sz28_GTgt) (wl_gd 44 rfl rfl (wmI rfl (wl_gd 44 rfl rfl (wmI rfl ?_)))))
     refine wl_gd 44 rfl rfl ?_
     refine wl_cl fn51 (target_any _ cg fs.length gr i ((k : Nat) : Int) _ (hG.mono hB) hil (loose_ln hva.lo i hil) (by have := hva.gok.few i hil; have := hva.few; omega)) rfl (fun e' w21 hr => ?_)
     obtain ⟨rfl, hs⟩ := hr
     replace hs := Same.of_bel hs
     replace hB := hB.tr0 hs
     replace hb2 := hb2.tr0 hs
     replace hb3 := hb3.tr0 hs
     replace hb5 := hb5.tr0 hs
     replace hBT := hBT.tr0 hs
     replace hb7 := hb7.tr0 hs
     replace hb9 := hb9.tr0 hs
     replace hb11 := hb11.tr0 hs
     replace hZ := SameQ.trans hZ hs (by simp)
     clear hs
     refine ⟨_, rfl, ?_⟩
     refine wl_gd 44 rfl rfl (wl (r_lss rfl rfl) (wl (r_pt (v := .bool _) rfl rfl) (x_nil ?_)))
     refine e_R ⟨agA, ?_⟩
     refine ⟨?_, hZ⟩
     refine congrArg Value.bool ?_
     first
       | exact decide_eq_decide.2 ⟨fun h => ⟨g44, h⟩, fun h => h.2⟩
       | exact (decide_eq_false (fun h => by rw [g44] at h; cases h.1)).symm
    refine wlgn 44 rfl rfl rfl (wlgn 44 rfl rfl rfl (wlgn 44 rfl rfl rfl (wlgn 44 rfl rfl rfl (wlgn 44 rfl rfl rfl (wl (r_pf (v := .bool _) rfl rfl) ?_)))))
    refine x_nil ?_
    refine e_R ⟨agA, ?_⟩
    refine ⟨?_, hZ⟩
    refine congrArg Value.bool ?_
    first
      | exact decide_eq_decide.2 ⟨fun h => ⟨g44, h⟩, fun h => h.2⟩
      | exact (decide_eq_false (fun h => by rw [g44] at h; cases h.1)).symm
   obtain ⟨hgp, hs⟩ := hI
   replace hB := hB.tr0 hs
   replace hb2 := hb2.tr0 hs
   replace hb3 := hb3.tr0 hs
   replace hb5 := hb5.tr0 hs
   replace hBT := hBT.tr0 hs
   replace hb7 := hb7.tr0 hs
   replace hb9 := hb9.tr0 hs
   replace hb11 := hb11.tr0 hs
   clear hs
   refine e_know 50 (.bool (decide (sub l tn on = true ∧ tgt (gr[i]'hil).ln ((k : Nat) : Int) < 0))) hgp nu (e_S ?_)
   refine c_ifd rfl (fun c50 => ?_) (fun c50 => ?_)
   ·
    have hnot : ¬ Tot l fs gr := fun h => by
      have h1 := h i hil k hkl (by rw [htnd, hof]; exact c50.1)
      rw [nd_eq hil] at h1
      have := c50.2
      omega
    refine c_seq (c_region (wl (r_bd (vs := #[]) (cs := #[.int .i64 0, .int .i64 0]) (by simp) kR) (waB rfl ?_)))
    refine wl_stW hb5 rfl rfl sz35_GLoose rfl oneA (fun w22 hq hs => ?_)
    replace hB := hB.tr1 hs lo5
    replace hb2 := hb2.tr1 hs om
    replace hb3 := hb3.tr1 hs om
    replace hb7 := hb7.tr1 hs om
    replace hb9 := hb9.tr1 hs om
    replace hb11 := hb11.tr1 hs om
    clear hs
    replace hb5 := hq
    refine x_nil (e_S (c_ret (e_Br (e_Sr (e_LSr ?_)))))
    refine e_Br (e_Br (e_Sr (e_LSr (e_Br (e_Sr ?_)))))
    refine fin2 (.inl rfl) rfl rfl (rr_cell U35 rfl rfl hb5.range0 sz35_GLoose) ?_
    exact ⟨ret_tot (by rw [totG_yes h0, totB_no hnot]) (gf_zzT h0), hB⟩
   have hcm : CompN l fs gr i k := fun hs => by
     rw [htnd, hof] at hs
     rw [nd_eq hil]
     exact Int.not_lt.1 (fun h => c50 ⟨hs, h⟩)
   refine c_skip (e_B (e_S (c_region (wl (r_add rfl rfl rfl om) (wmI rfl ?_)))))
   refine x_nil (e_LS (fs.length - (k + 1)) om agA ?_)
   exact ⟨k + 1, by omega, rfl, rfl, hdn.skip hcm, hB, hBT, hb2, hb3, hb5, hb7, hb9⟩
  have hke : k = fs.length := by omega
  subst hke
  have hdn2 := hdn.row
  refine c_exit (e_Sx (e_LSx (e_Bx (e_B (e_S ?_)))))
  refine c_region (wl (r_add rfl rfl rfl om) (wmI rfl (x_nil (e_LS (gr.length - (i + 1)) om agA ?_))))
  exact ⟨i + 1, by omega, rfl, rfl, hdn2, hB, hBT, hb2, hb3, hb5, hb7⟩
 have hie : i = gr.length := by omega
 subst hie
 have htt := hdn.tot
 refine c_exit (e_Sx (e_LSx (e_Bx (e_S (c_seq ?_)))))
 refine c_region (wl (r_bd (vs := #[]) (cs := #[.int .i64 0, .int .i64 0]) (by simp) kR) (waB rfl ?_))
 refine wl_stW hb5 rfl rfl sz35_GLoose rfl oneA (fun w23 hq hs => ?_)
 replace hB := hB.tr1 hs lo5
 replace hb2 := hb2.tr1 hs om
 replace hb3 := hb3.tr1 hs om
 replace hb7 := hb7.tr1 hs om
 clear hs
 replace hb5 := hq
 refine x_nil (e_S (c_ret (fin2 (.inl rfl) rfl rfl (rr_cell U35 rfl rfl hb5.range0 sz35_GLoose) ?_)))
 exact ⟨ret_tot (by rw [totG_yes h0, totB_yes htt]) (gf_zzT h0), hB⟩
end Go.Proofs.YtegngekpmpdngaaDoor
namespace Go.Proofs.YtegngekpmpdngaaDoor
open Go.RowKit
theorem shared_tot : Tot pairT pairF sharedG := fun x hx k hk => by
  have hx2 : x < 2 := hx
  have hk2 : k < 2 := hk
  match x, hx2, k, hk2 with
  | 0, _, 0, _ => intro _; decide +kernel
  | 0, _, 1, _ => intro _; decide +kernel
  | 1, _, 0, _ => intro h; exact absurd h (by decide +kernel)
  | 1, _, 1, _ => intro h; exact absurd h (by decide +kernel)
theorem tots_any {w : World} {A B G : Option Addr} (hTab : TabIn w) (hT : TypesIn w A pairT) (hF : FeatsIn w B pairF) (hG : NodesIn w G sharedG) : Calls Tryd.prog 21 #[.agg #[.slice A 4 4, .slice B 2 2], .agg #[.slice G 2 2]] w fun e w' => (∃ x y : Int, e = .returned (.tuple #[.bool true, .agg #[.int .i64 x, .int .i64 y]])) ∧ Bel w w' := by
  refine (total_any A B G 4 2 2 pairT pairF sharedG w hTab hT hF hG).mono fun e w' h => ?_
  obtain ⟨he, hs⟩ := h
  rw [totG_yes shared_ok, totB_yes shared_tot] at he
  exact ⟨⟨_, _, he⟩, hs⟩
theorem uni_val0 {l : List Ty} {fs : List Ft} {ga gb X : List Nd} {ok : Bool} {f : Fl} (ha : (graphF l fs ga).1 = 0) (hb : (graphF l fs gb).1 = 0) (h : UnifyS l fs ga gb ok f X) (hok : ok = true) : (graphF l fs X).1 = 0 ∧ Maps l ga X := by
  subst hok
  rcases h with ⟨_, h, _⟩ | ⟨_, h, _⟩ | ⟨_, h, _⟩ | ⟨_, _, _, h1, h2⟩
  · cases h
  · cases h
  · cases h
  · exact ⟨by rw [uni_valid (gv_of ha) (gv_of hb) h1 h2], (uni_lub (gv_of ha).gx (gv_of hb).gx h1).left⟩
theorem fn10 : callable Tryd.prog 10 = true := by kernel_rfl
theorem fn19 : callable Tryd.prog 19 = true := by kernel_rfl
theorem fn21 : callable Tryd.prog 21 = true := by kernel_rfl
theorem fn24 : callable Tryd.prog 24 = true := by kernel_rfl
theorem fn30 : callable Tryd.prog 30 = true := by kernel_rfl
theorem fn32 : callable Tryd.prog 32 = true := by kernel_rfl
theorem fn33 : callable Tryd.prog 33 = true := by kernel_rfl
theorem fn34 : callable Tryd.prog 34 = true := by kernel_rfl
set_option maxRecDepth 100000 in
set_option maxHeartbeats 8000000 in
theorem law30_any (A B G1 G2 : Option Addr) (c d c1 c2 : Nat) (l : List Ty) (fs : List Ft) (ga gb : List Nd) (w : World) (hTab : TabIn w) (hcl : l.length ≤ c) (hdl : fs.length ≤ d) (hT : TypesIn w A l) (hF : FeatsIn w B fs) (hG1 : NodesIn w G1 ga) (hG2 : NodesIn w G2 gb) : Calls Tryd.prog 8 #[.agg #[.slice A l.length c, .slice B fs.length d], .agg #[.slice G1 ga.length c1], .agg #[.slice G2 gb.length c2]] w fun e w' => e = .returned (.bool true) ∧ Bel w w' := by
 refine enter Tryd.func8 Tryd.ntmps8 rfl (Nat.le_of_ble_eq_true rfl) ?_
 have hB : Bel w w := Below.refl _ _
 refine c_seq (c_region ?_)
 refine wl_bx (v := .agg #[_, _]) (cs := #[_, _]) rfl rfl (fun b3 w1 hb3 hs hr => ?_)
 have lo3 := nLT (Bel.size hB) hr
 replace hB := hB.tr0 hs
 clear hs
 clear hr
 refine wl_bx (v := .agg #[_]) (cs := #[_]) rfl rfl (fun b4 w2 hb4 hs hr => ?_)
 have or_b3_b4 : b3 < b4 := nLL hb3.lt hr
 have lo4 := nLT (Bel.size hB) hr
 replace hB := hB.tr0 hs
 replace hb3 := hb3.tr0 hs
 clear hs
 clear hr
 refine wl_bx (v := .agg #[_]) (cs := #[_]) rfl rfl (fun b5 w3 hb5 hs hr => ?_)
 have or_b3_b5 : b3 < b5 := nLL hb3.lt hr
 have or_b4_b5 : b4 < b5 := nLL hb4.lt hr
 have lo5 := nLT (Bel.size hB) hr
 replace hB := hB.tr0 hs
 replace hb3 := hb3.tr0 hs
 replace hb4 := hb4.tr0 hs
 clear hs
 clear hr
 refine waB rfl (x_nil (e_S (c_seq (c_seq (c_region ?_)))))
 refine wl_cl fn10 (pair_any _) rfl (fun e' w4 hr => ?_)
 obtain ⟨⟨Ap, Bp, rfl, hTp, hFp⟩, hs⟩ := hr
 replace hs := Same.of_bel hs
 replace hB := hB.tr0 hs
 replace hb3 := hb3.tr0 hs
 replace hb4 := hb4.tr0 hs
 replace hb5 := hb5.tr0 hs
 clear hs
 have hB0 : Bel w4 w4 := Below.refl _ _
 refine ⟨_, rfl, ?_⟩
 refine wl_cl fn30 (shared_any _) rfl (fun e' w5 hr => ?_)
 obtain ⟨⟨Gb, rfl, hGb⟩, hs⟩ := hr
 replace hs := Same.of_bel hs
 replace hB := hB.tr0 hs
 replace hb3 := hb3.tr0 hs
 replace hb4 := hb4.tr0 hs
 replace hb5 := hb5.tr0 hs
 replace hB0 := hB0.tr0 hs
 clear hs
 have hB1 : Bel w5 w5 := Below.refl _ _
 refine ⟨_, rfl, ?_⟩
 refine wl_cl fn21 (tots_any (hTab.mono hB) (hTp.mono hB0) (hFp.mono hB0) (hGb.mono hB1)) rfl (fun e' w6 hr => ?_)
 obtain ⟨⟨tx, ty, rfl⟩, hs⟩ := hr
 replace hs := Same.of_bel hs
 replace hB := hB.tr0 hs
 replace hb3 := hb3.tr0 hs
 replace hb4 := hb4.tr0 hs
 replace hb5 := hb5.tr0 hs
 replace hB0 := hB0.tr0 hs
 replace hB1 := hB1.tr0 hs
 clear hs
 refine ⟨_, rfl, ?_⟩
 refine wmT rfl (wl (r_ex (v := _) rfl rfl) (wl (r_ex (v := _) rfl rfl) ?_))
 refine wl_al (cs := #[.int .i64 0, .int .i64 0]) ze35_GLoose rfl (fun b8 w7 hb8 hs hr => ?_)
 have or_b3_b8 : b3 < b8 := nLL hb3.lt hr
 have or_b4_b8 : b4 < b8 := nLL hb4.lt hr
 have or_b5_b8 : b5 < b8 := nLL hb5.lt hr
 have lo8 := nLT (Bel.size hB) hr
 replace hB := hB.tr0 hs
 replace hb3 := hb3.tr0 hs
 replace hb4 := hb4.tr0 hs
 replace hb5 := hb5.tr0 hs
 clear hs
 clear hr
 refine waB rfl ?_
 refine wl_stW hb8 rfl rfl sz35_GLoose rfl oneA (fun w8 hq hs => ?_)
 replace hB := hB.tr1 hs lo8
 replace hb3 := hb3.tr1 hs om
 replace hb4 := hb4.tr1 hs om
 replace hb5 := hb5.tr1 hs om
 clear hs
 replace hb8 := hq
 refine x_nil (e_S (c_seq (c_region (wmB rfl (wl (r_not rfl) ?_)))))
 refine x_nil (e_S ?_)
 refine c_if rfl (fun c28 => ?_) (fun c28 => ?_)
 ·
  exact absurd c28 dE
 refine c_skip (e_S (c_seq (c_seq (c_region (wl (r_ldS U25 rfl rfl hb3.range0 sz25_SFind) ?_)))))
 refine wl (r_ldS U28 rfl rfl hb4.range0 sz28_GTgt) (wl (r_ldS U28 rfl rfl hb5.range0 sz28_GTgt) ?_)
 refine wl_cl fn32 (twof_any A B G1 G2 c d c1 c2 l fs ga gb _ hcl hdl (hT.mono hB) (hF.mono hB) (hG1.mono hB) (hG2.mono hB)) rfl (fun e' w9 hr => ?_)
 obtain ⟨rfl, hs⟩ := hr
 replace hs := Same.of_bel hs
 replace hB := hB.tr0 hs
 replace hb3 := hb3.tr0 hs
 replace hb4 := hb4.tr0 hs
 replace hb5 := hb5.tr0 hs
 replace hb8 := hb8.tr0 hs
 clear hs
 refine ⟨_, rfl, ?_⟩
 refine wl (r_fd1 (v := .int _ _) U35 rfl U3 rfl rfl rfl) (wl (r_neq rfl rfl) (x_nil (e_S ?_)))
 refine c_ifd rfl (fun c34 => ?_) (fun c34 => ?_)
 ·
  refine c_seq (c_region (waB rfl (x_nil (e_S (c_ret ?_)))))
  refine e_Sr (fin1 (.inl rfl) rfl rfl ?_)
  exact ⟨rfl, hB⟩
 have h0 := Decidable.not_not.1 c34
 obtain ⟨⟨hva, hvb⟩, hga0, hgb0⟩ := two_gv h0
 refine c_skip (e_S (c_seq (c_region (wl (r_ldS U25 rfl rfl hb3.range0 sz25_SFind) (wl (r_ldS U28 rfl rfl hb4.range0 sz28_GTgt) ?_)))))
 refine wl_cl fn19 (fill_any A B G1 c d c1 l fs ga _ (hTab.mono hB) (hT.mono hB) (hF.mono hB) (hG1.mono hB)) rfl (fun e' w10 hr => ?_)
 obtain ⟨⟨AX, XX, cX, fX, rfl, hNX, hSX⟩, hs⟩ := hr
 replace hs := Same.of_bel hs
 replace hB := hB.tr0 hs
 replace hb3 := hb3.tr0 hs
 replace hb4 := hb4.tr0 hs
 replace hb5 := hb5.tr0 hs
 replace hb8 := hb8.tr0 hs
 clear hs
 obtain ⟨ZX, hZX⟩ : ∃ z, z = (w9).heap.size := ⟨_, rfl⟩
 rw [← hZX] at hNX 
 obtain ⟨wX, hwX⟩ : ∃ z, z = w10 := ⟨_, rfl⟩
 have hFX : FrSame ZX wX w10 := by rw [hwX]; exact FrSame.refl _ _
 rw [← hwX] at hNX
 refine ⟨_, rfl, ?_⟩
 refine wmT rfl (wl (r_ex (v := _) rfl rfl) (wl (r_ex (v := _) rfl rfl) ?_))
 refine wl_al (cs := #[.slice none 0 0]) ze28 rfl (fun b9 w11 hb9 hs hr => ?_)
 have or_b3_b9 : b3 < b9 := nLL hb3.lt hr
 have or_b4_b9 : b4 < b9 := nLL hb4.lt hr
 have or_b5_b9 : b5 < b9 := nLL hb5.lt hr
 have or_b8_b9 : b8 < b9 := nLL hb8.lt hr
 have or_hFX_b9 := (nLT hFX.size hr)
 have lo9 := nLT (Bel.size hB) hr
 replace hB := hB.tr0 hs
 replace hb3 := hb3.tr0 hs
 replace hb4 := hb4.tr0 hs
 replace hb5 := hb5.tr0 hs
 replace hb8 := hb8.tr0 hs
 replace hFX := hFX.of hs (by simp)
 clear hs
 clear hr
 refine wl_al (cs := #[.int .i64 0, .int .i64 0]) ze35_GLoose rfl (fun b10 w12 hb10 hs hr => ?_)
 have or_b3_b10 : b3 < b10 := nLL hb3.lt hr
 have or_b4_b10 : b4 < b10 := nLL hb4.lt hr
 have or_b5_b10 : b5 < b10 := nLL hb5.lt hr
 have or_b8_b10 : b8 < b10 := nLL hb8.lt hr
 have or_hFX_b10 := (nLT hFX.size hr)
 have or_b9_b10 : b9 < b10 := nLL hb9.lt hr
 have lo10 := nLT (Bel.size hB) hr
 replace hB := hB.tr0 hs
 replace hb3 := hb3.tr0 hs
 replace hb4 := hb4.tr0 hs
 replace hb5 := hb5.tr0 hs
 replace hb8 := hb8.tr0 hs
 replace hFX := hFX.of hs (by simp)
 replace hb9 := hb9.tr0 hs
 clear hs
 clear hr
 refine wl_stW hb9 rfl rfl sz28_GTgt rfl oneA (fun w13 hq hs => ?_)
 replace hB := hB.tr1 hs lo9
 replace hb3 := hb3.tr1 hs om
 replace hb4 := hb4.tr1 hs om
 replace hb5 := hb5.tr1 hs om
 replace hb8 := hb8.tr1 hs om
 replace hFX := hFX.of hs (fun g hg => by rw [List.mem_singleton.1 hg]; omega)
 replace hb10 := hb10.tr1 hs om
 clear hs
 replace hb9 := hq
 refine wl_stW hb10 rfl rfl sz35_GLoose rfl oneA (fun w14 hq hs => ?_)
 replace hB := hB.tr1 hs lo10
 replace hb3 := hb3.tr1 hs om
 replace hb4 := hb4.tr1 hs om
 replace hb5 := hb5.tr1 hs om
 replace hb8 := hb8.tr1 hs om
 replace hFX := hFX.of hs (fun g hg => by rw [List.mem_singleton.1 hg]; omega)
 replace hb9 := hb9.tr1 hs om
 clear hs
 replace hb10 := hq
 refine x_nil (e_S (c_seq (c_seq ?_)))
 obtain ⟨hX17, hX⟩ := fill_says hga0 hSX
 refine c_region (wl (r_fa U35 sz3_GSearch dE rfl rfl rfl) (wl (r_ld1 (v := .int _ _) U3 rfl rfl (hb10.cell rfl)) (wl (r_neq rfl rfl) (x_nil (e_S ?_)))))
 refine c_ifd rfl (fun c43 => ?_) (fun c43 => ?_)
 ·
  refine c_seq (c_region (wl (r_fa U35 sz3_GSearch dE rfl rfl rfl) (wl (r_ld1 (v := .int _ _) U3 rfl rfl (hb10.cell rfl)) (wl (r_eql rfl rfl) (waB rfl ?_)))))
  refine x_nil (e_S (c_ret (e_Sr (fin1 (.inl rfl) rfl rfl ?_))))
  exact ⟨ret_bool (decide_eq_true (hX17 c43)).symm, hB⟩
 have hfX0 := Decidable.not_not.1 c43
 obtain ⟨hX0, hXt, hmX, hleast, hcanX⟩ := hX hfX0
 have hvX := gv_of hX0
 refine c_skip (e_S (c_seq (c_region (wl (r_ldS U25 rfl rfl hb3.range0 sz25_SFind) (wl (r_ldS U28 rfl rfl hb9.range0 sz28_GTgt) ?_)))))
 refine wl_cl fn21 (total_any A B AX c d cX l fs XX _ (hTab.mono hB) (hT.mono hB) (hF.mono hB) (hNX _ hFX)) rfl (fun e' w15 hr => ?_)
 obtain ⟨rfl, hs⟩ := hr
 replace hs := Same.of_bel hs
 replace hB := hB.tr0 hs
 replace hb3 := hb3.tr0 hs
 replace hb4 := hb4.tr0 hs
 replace hb5 := hb5.tr0 hs
 replace hb8 := hb8.tr0 hs
 replace hFX := hFX.of hs (by simp)
 replace hb9 := hb9.tr0 hs
 replace hb10 := hb10.tr0 hs
 clear hs
 refine ⟨_, rfl, ?_⟩
 refine wmT rfl (wl (r_ex (v := _) rfl rfl) (wl (r_ex (v := _) rfl rfl) ?_))
 refine wl_al (cs := #[.int .i64 0, .int .i64 0]) ze35_GLoose rfl (fun b12 w16 hb12 hs hr => ?_)
 have or_b3_b12 : b3 < b12 := nLL hb3.lt hr
 have or_b4_b12 : b4 < b12 := nLL hb4.lt hr
 have or_b5_b12 : b5 < b12 := nLL hb5.lt hr
 have or_b8_b12 : b8 < b12 := nLL hb8.lt hr
 have or_hFX_b12 := (nLT hFX.size hr)
 have or_b9_b12 : b9 < b12 := nLL hb9.lt hr
 have or_b10_b12 : b10 < b12 := nLL hb10.lt hr
 have lo12 := nLT (Bel.size hB) hr
 replace hB := hB.tr0 hs
 replace hb3 := hb3.tr0 hs
 replace hb4 := hb4.tr0 hs
 replace hb5 := hb5.tr0 hs
 replace hb8 := hb8.tr0 hs
 replace hFX := hFX.of hs (by simp)
 replace hb9 := hb9.tr0 hs
 replace hb10 := hb10.tr0 hs
 clear hs
 clear hr
 refine waB rfl ?_
 refine wl_stW hb12 rfl rfl sz35_GLoose rfl oneA (fun w17 hq hs => ?_)
 replace hB := hB.tr1 hs lo12
 replace hb3 := hb3.tr1 hs om
 replace hb4 := hb4.tr1 hs om
 replace hb5 := hb5.tr1 hs om
 replace hb8 := hb8.tr1 hs om
 replace hFX := hFX.of hs (fun g hg => by rw [List.mem_singleton.1 hg]; omega)
 replace hb9 := hb9.tr1 hs om
 replace hb10 := hb10.tr1 hs om
 clear hs
 replace hb12 := hq
 refine x_nil (e_S (c_seq (c_region (wl (r_ldS U25 rfl rfl hb3.range0 sz25_SFind) (wl (r_ldS U28 rfl rfl hb4.range0 sz28_GTgt) ?_)))))
 refine wl (r_ldS U28 rfl rfl hb9.range0 sz28_GTgt) ?_
 refine wl_cl fn33 (subs_any A B G1 AX c d c1 cX l fs ga XX _ (hTab.mono hB) (hT.mono hB) (hF.mono hB) (hG1.mono hB) (hNX _ hFX)) rfl (fun e' w18 hr => ?_)
 obtain ⟨rfl, hs⟩ := hr
 replace hs := Same.of_bel hs
 replace hB := hB.tr0 hs
 replace hb3 := hb3.tr0 hs
 replace hb4 := hb4.tr0 hs
 replace hb5 := hb5.tr0 hs
 replace hb8 := hb8.tr0 hs
 replace hFX := hFX.of hs (by simp)
 replace hb9 := hb9.tr0 hs
 replace hb10 := hb10.tr0 hs
 replace hb12 := hb12.tr0 hs
 clear hs
 refine ⟨_, rfl, ?_⟩
 refine wmT rfl (wl (r_ex (v := _) rfl rfl) (wl (r_ex (v := _) rfl rfl) ?_))
 refine wl_al (cs := #[.int .i64 0, .int .i64 0]) ze35_GLoose rfl (fun b14 w19 hb14 hs hr => ?_)
 have or_b3_b14 : b3 < b14 := nLL hb3.lt hr
 have or_b4_b14 : b4 < b14 := nLL hb4.lt hr
 have or_b5_b14 : b5 < b14 := nLL hb5.lt hr
 have or_b8_b14 : b8 < b14 := nLL hb8.lt hr
 have or_hFX_b14 := (nLT hFX.size hr)
 have or_b9_b14 : b9 < b14 := nLL hb9.lt hr
 have or_b10_b14 : b10 < b14 := nLL hb10.lt hr
 have or_b12_b14 : b12 < b14 := nLL hb12.lt hr
 have lo14 := nLT (Bel.size hB) hr
 replace hB := hB.tr0 hs
 replace hb3 := hb3.tr0 hs
 replace hb4 := hb4.tr0 hs
 replace hb5 := hb5.tr0 hs
 replace hb8 := hb8.tr0 hs
 replace hFX := hFX.of hs (by simp)
 replace hb9 := hb9.tr0 hs
 replace hb10 := hb10.tr0 hs
 replace hb12 := hb12.tr0 hs
 clear hs
 clear hr
 refine waB rfl ?_
 refine wl_stW hb14 rfl rfl sz35_GLoose rfl oneA (fun w20 hq hs => ?_)
 replace hB := hB.tr1 hs lo14
 replace hb3 := hb3.tr1 hs om
 replace hb4 := hb4.tr1 hs om
 replace hb5 := hb5.tr1 hs om
 replace hb8 := hb8.tr1 hs om
 replace hFX := hFX.of hs (fun g hg => by rw [List.mem_singleton.1 hg]; omega)
 replace hb9 := hb9.tr1 hs om
 replace hb10 := hb10.tr1 hs om
 replace hb12 := hb12.tr1 hs om
 clear hs
 replace hb14 := hq
 refine x_nil (e_S (c_seq (c_region (wl (r_ldS U25 rfl rfl hb3.range0 sz25_SFind) (wl (r_ldS U28 rfl rfl hb9.range0 sz28_GTgt) ?_)))))
 have z10Y := hb10.lt
 refine wl_cl fn19 (fill_any A B AX c d cX l fs XX _ (hTab.mono hB) (hT.mono hB) (hF.mono hB) (hNX _ hFX)) rfl (fun e' w21 hr => ?_)
 obtain ⟨⟨AY, XY, cY, fY, rfl, hNY, hSY⟩, hs⟩ := hr
 replace hs := Same.of_bel hs
 replace hB := hB.tr0 hs
 replace hb3 := hb3.tr0 hs
 replace hb4 := hb4.tr0 hs
 replace hb5 := hb5.tr0 hs
 replace hb8 := hb8.tr0 hs
 replace hFX := hFX.of hs (by simp)
 replace hb9 := hb9.tr0 hs
 replace hb10 := hb10.tr0 hs
 replace hb12 := hb12.tr0 hs
 replace hb14 := hb14.tr0 hs
 clear hs
 obtain ⟨ZY, hZY⟩ : ∃ z, z = (w20).heap.size := ⟨_, rfl⟩
 rw [← hZY] at hNY z10Y
 obtain ⟨wY, hwY⟩ : ∃ z, z = w21 := ⟨_, rfl⟩
 have hFY : FrSame ZY wY w21 := by rw [hwY]; exact FrSame.refl _ _
 rw [← hwY] at hNY
 refine ⟨_, rfl, ?_⟩
 refine wmT rfl (wl (r_ex (v := _) rfl rfl) (wl (r_ex (v := _) rfl rfl) ?_))
 refine wl_al (cs := #[.slice none 0 0]) ze28 rfl (fun b15 w22 hb15 hs hr => ?_)
 have or_b3_b15 : b3 < b15 := nLL hb3.lt hr
 have or_b4_b15 : b4 < b15 := nLL hb4.lt hr
 have or_b5_b15 : b5 < b15 := nLL hb5.lt hr
 have or_b8_b15 : b8 < b15 := nLL hb8.lt hr
 have or_hFX_b15 := (nLT hFX.size hr)
 have or_b9_b15 : b9 < b15 := nLL hb9.lt hr
 have or_b10_b15 : b10 < b15 := nLL hb10.lt hr
 have or_b12_b15 : b12 < b15 := nLL hb12.lt hr
 have or_b14_b15 : b14 < b15 := nLL hb14.lt hr
 have or_hFY_b15 := (nLT hFY.size hr)
 have lo15 := nLT (Bel.size hB) hr
 replace hB := hB.tr0 hs
 replace hb3 := hb3.tr0 hs
 replace hb4 := hb4.tr0 hs
 replace hb5 := hb5.tr0 hs
 replace hb8 := hb8.tr0 hs
 replace hFX := hFX.of hs (by simp)
 replace hb9 := hb9.tr0 hs
 replace hb10 := hb10.tr0 hs
 replace hb12 := hb12.tr0 hs
 replace hb14 := hb14.tr0 hs
 replace hFY := hFY.of hs (by simp)
 clear hs
 clear hr
 refine wl_al (cs := #[.int .i64 0, .int .i64 0]) ze35_GLoose rfl (fun b16 w23 hb16 hs hr => ?_)
 have or_b3_b16 : b3 < b16 := nLL hb3.lt hr
 have or_b4_b16 : b4 < b16 := nLL hb4.lt hr
 have or_b5_b16 : b5 < b16 := nLL hb5.lt hr
 have or_b8_b16 : b8 < b16 := nLL hb8.lt hr
 have or_hFX_b16 := (nLT hFX.size hr)
 have or_b9_b16 : b9 < b16 := nLL hb9.lt hr
 have or_b10_b16 : b10 < b16 := nLL hb10.lt hr
 have or_b12_b16 : b12 < b16 := nLL hb12.lt hr
 have or_b14_b16 : b14 < b16 := nLL hb14.lt hr
 have or_hFY_b16 := (nLT hFY.size hr)
 have or_b15_b16 : b15 < b16 := nLL hb15.lt hr
 have lo16 := nLT (Bel.size hB) hr
 replace hB := hB.tr0 hs
 replace hb3 := hb3.tr0 hs
 replace hb4 := hb4.tr0 hs
 replace hb5 := hb5.tr0 hs
 replace hb8 := hb8.tr0 hs
 replace hFX := hFX.of hs (by simp)
 replace hb9 := hb9.tr0 hs
 replace hb10 := hb10.tr0 hs
 replace hb12 := hb12.tr0 hs
 replace hb14 := hb14.tr0 hs
 replace hFY := hFY.of hs (by simp)
 replace hb15 := hb15.tr0 hs
 clear hs
 clear hr
 refine wl_stW hb15 rfl rfl sz28_GTgt rfl oneA (fun w24 hq hs => ?_)
 replace hB := hB.tr1 hs lo15
 replace hb3 := hb3.tr1 hs om
 replace hb4 := hb4.tr1 hs om
 replace hb5 := hb5.tr1 hs om
 replace hb8 := hb8.tr1 hs om
 replace hFX := hFX.of hs (fun g hg => by rw [List.mem_singleton.1 hg]; omega)
 replace hb9 := hb9.tr1 hs om
 replace hb10 := hb10.tr1 hs om
 replace hb12 := hb12.tr1 hs om
 replace hb14 := hb14.tr1 hs om
 replace hFY := hFY.of hs (fun g hg => by rw [List.mem_singleton.1 hg]; omega)
 replace hb16 := hb16.tr1 hs om
 clear hs
 replace hb15 := hq
 refine wl_stW hb16 rfl rfl sz35_GLoose rfl oneA (fun w25 hq hs => ?_)
 replace hB := hB.tr1 hs lo16
 replace hb3 := hb3.tr1 hs om
 replace hb4 := hb4.tr1 hs om
 replace hb5 := hb5.tr1 hs om
 replace hb8 := hb8.tr1 hs om
 replace hFX := hFX.of hs (fun g hg => by rw [List.mem_singleton.1 hg]; omega)
 replace hb9 := hb9.tr1 hs om
 replace hb10 := hb10.tr1 hs om
 replace hb12 := hb12.tr1 hs om
 replace hb14 := hb14.tr1 hs om
 replace hFY := hFY.of hs (fun g hg => by rw [List.mem_singleton.1 hg]; omega)
 replace hb15 := hb15.tr1 hs om
 clear hs
 replace hb16 := hq
 refine x_nil (e_S (c_seq (c_seq ?_)))
 obtain ⟨hfY, oY, hdY, hYX⟩ := fill_tot hX0 hXt hSY
 have hYX2 : XY = XX := hYX.trans (hcanX oY hdY)
 have htot := (totG_yes hX0).trans (totB_yes hXt)
 have hsub := (subB_iff hga0 hX0).2 hmX
 refine c_region (wl (r_mv (v := .bool true) (congrArg Value.bool htot)) (wl (r_not rfl) (wl (r_mv (v := .bool false) rfl) (wl_gd 68 rfl rfl (wl (r_mv (v := .bool true) (congrArg Value.bool hsub)) ?_)))))
 refine wl_gd 68 rfl rfl (wl (r_not rfl) (wl (r_pf (v := .bool _) rfl rfl) (wl (r_mv (v := .bool false) rfl) (wl_gd 72 rfl rfl (wl (r_ldS U28 rfl rfl hb9.range0 sz28_GTgt) ?_)))))
 refine wl_gd 72 rfl rfl (wl (r_ldS U28 rfl rfl hb15.range0 sz28_GTgt) (wl_gd 72 rfl rfl ?_))
 refine wl_cl fn24 (nodesb_any AX AY _ _ cX cY XX XY true _ (hNX _ hFX) (hNY _ hFY) rfl rfl (decide_eq_true hYX2.symm)) rfl (fun e' w26 hr => ?_)
 obtain ⟨rfl, hs⟩ := hr
 replace hs := Same.of_bel hs
 replace hB := hB.tr0 hs
 replace hb3 := hb3.tr0 hs
 replace hb4 := hb4.tr0 hs
 replace hb5 := hb5.tr0 hs
 replace hb8 := hb8.tr0 hs
 replace hFX := hFX.of hs (by simp)
 replace hb9 := hb9.tr0 hs
 replace hb10 := hb10.tr0 hs
 replace hb12 := hb12.tr0 hs
 replace hb14 := hb14.tr0 hs
 replace hFY := hFY.of hs (by simp)
 replace hb15 := hb15.tr0 hs
 replace hb16 := hb16.tr0 hs
 clear hs
 refine ⟨_, rfl, ?_⟩
 refine wl_gd 72 rfl rfl (wl (r_not rfl) (wl (r_pf (v := .bool _) rfl rfl) (x_nil (e_S ?_))))
 refine c_if rfl (fun c77 => ?_) (fun c77 => ?_)
 ·
  exact absurd c77 dE
 refine c_skip (e_S (c_seq (c_region (wl (r_ldS U25 rfl rfl hb3.range0 sz25_SFind) (wl (r_ldS U28 rfl rfl hb4.range0 sz28_GTgt) ?_)))))
 refine wl (r_ldS U28 rfl rfl hb5.range0 sz28_GTgt) ?_
 have z10U := hb10.lt
 refine wl_cl fn34 (unify_any A B G1 G2 c d c1 c2 l fs ga gb _ (hTab.mono hB) (hT.mono hB) (hF.mono hB) (hG1.mono hB) (hG2.mono hB)) rfl (fun e' w27 hr => ?_)
 obtain ⟨⟨AU, XU, okU, fU, rfl, hNU, hSU⟩, hs⟩ := hr
 replace hs := Same.of_bel hs
 replace hB := hB.tr0 hs
 replace hb3 := hb3.tr0 hs
 replace hb4 := hb4.tr0 hs
 replace hb5 := hb5.tr0 hs
 replace hb8 := hb8.tr0 hs
 replace hFX := hFX.of hs (by simp)
 replace hb9 := hb9.tr0 hs
 replace hb10 := hb10.tr0 hs
 replace hb12 := hb12.tr0 hs
 replace hb14 := hb14.tr0 hs
 replace hb15 := hb15.tr0 hs
 replace hb16 := hb16.tr0 hs
 clear hs
 obtain ⟨ZU, hZU⟩ : ∃ z, z = (w26).heap.size := ⟨_, rfl⟩
 rw [← hZU] at hNU z10U
 obtain ⟨wU, hwU⟩ : ∃ z, z = w27 := ⟨_, rfl⟩
 have hFU : FrSame ZU wU w27 := by rw [hwU]; exact FrSame.refl _ _
 rw [← hwU] at hNU
 refine ⟨_, rfl, ?_⟩
 refine wmT rfl (wl (r_ex (v := _) rfl rfl) (wl (r_ex (v := _) rfl rfl) (wl (r_ex (v := _) rfl rfl) ?_)))
 refine wl_al (cs := #[.slice none 0 0]) ze28 rfl (fun b17 w28 hb17 hs hr => ?_)
 have or_b3_b17 : b3 < b17 := nLL hb3.lt hr
 have or_b4_b17 : b4 < b17 := nLL hb4.lt hr
 have or_b5_b17 : b5 < b17 := nLL hb5.lt hr
 have or_b8_b17 : b8 < b17 := nLL hb8.lt hr
 have or_hFX_b17 := (nLT hFX.size hr)
 have or_b9_b17 : b9 < b17 := nLL hb9.lt hr
 have or_b10_b17 : b10 < b17 := nLL hb10.lt hr
 have or_b12_b17 : b12 < b17 := nLL hb12.lt hr
 have or_b14_b17 : b14 < b17 := nLL hb14.lt hr
 have or_b15_b17 : b15 < b17 := nLL hb15.lt hr
 have or_b16_b17 : b16 < b17 := nLL hb16.lt hr
 have or_hFU_b17 := (nLT hFU.size hr)
 have lo17 := nLT (Bel.size hB) hr
 replace hB := hB.tr0 hs
 replace hb3 := hb3.tr0 hs
 replace hb4 := hb4.tr0 hs
 replace hb5 := hb5.tr0 hs
 replace hb8 := hb8.tr0 hs
 replace hFX := hFX.of hs (by simp)
 replace hb9 := hb9.tr0 hs
 replace hb10 := hb10.tr0 hs
 replace hb12 := hb12.tr0 hs
 replace hb14 := hb14.tr0 hs
 replace hb15 := hb15.tr0 hs
 replace hb16 := hb16.tr0 hs
 replace hFU := hFU.of hs (by simp)
 clear hs
 clear hr
 refine wl_stW hb17 rfl rfl sz28_GTgt rfl oneA (fun w29 hq hs => ?_)
 replace hB := hB.tr1 hs lo17
 replace hb3 := hb3.tr1 hs om
 replace hb4 := hb4.tr1 hs om
 replace hb5 := hb5.tr1 hs om
 replace hb8 := hb8.tr1 hs om
 replace hFX := hFX.of hs (fun g hg => by rw [List.mem_singleton.1 hg]; omega)
 replace hb9 := hb9.tr1 hs om
 replace hb10 := hb10.tr1 hs om
 replace hb12 := hb12.tr1 hs om
 replace hb14 := hb14.tr1 hs om
 replace hb15 := hb15.tr1 hs om
 replace hb16 := hb16.tr1 hs om
 replace hFU := hFU.of hs (fun g hg => by rw [List.mem_singleton.1 hg]; omega)
 clear hs
 replace hb17 := hq
 refine waB rfl ?_
 refine wl_stW hb10 rfl rfl sz35_GLoose rfl oneA (fun w30 hq hs => ?_)
 replace hB := hB.tr1 hs lo10
 replace hb3 := hb3.tr1 hs om
 replace hb4 := hb4.tr1 hs om
 replace hb5 := hb5.tr1 hs om
 replace hb8 := hb8.tr1 hs om
 replace hFX := hFX.of hs (fun g hg => by rw [List.mem_singleton.1 hg]; omega)
 replace hb9 := hb9.tr1 hs om
 replace hb12 := hb12.tr1 hs om
 replace hb14 := hb14.tr1 hs om
 replace hb15 := hb15.tr1 hs om
 replace hb16 := hb16.tr1 hs om
 replace hFU := hFU.of hs (fun g hg => by rw [List.mem_singleton.1 hg]; omega)
 replace hb17 := hb17.tr1 hs om
 clear hs
 replace hb10 := hq
 refine x_nil (e_S (c_seq (c_seq ?_)))
 refine c_cut1 [86, 87, 88, 89, 90, 91, 92] 92 (.bool (decide (¬ fU.1 = 0 ∨ ¬ okU = true))) nu ?_ (fun gq => ?_)
 ·
  refine c_region (wl (r_fa U35 sz3_GSearch dE rfl rfl rfl) (wl (r_ld1 (v := .int _ _) U3 rfl rfl (hb10.cell rfl)) (wl (r_neq rfl rfl) (wmB rfl ?_))))
  refine wl_casesd 89 rfl (fun g89 => ?_) (fun g89 => ?_)
  ·
   refine wlgn 89 rfl rfl rfl (wlgn 89 rfl rfl rfl (wl (r_pt (v := .bool _) rfl rfl) ?_))
   refine x_nil (e_R ⟨rfl, agA, ?_⟩)
   show Value.bool _ = Value.bool _
   first
    | exact congrArg Value.bool (decide_eq_true (Or.inl (by first | assumption | exact g89))).symm
    | (cases okU <;> simp [g89])
  refine wl_gd 89 rfl rfl (wmB rfl (wl_gd 89 rfl rfl (wl (r_not rfl) (wl (r_pf (v := .bool _) rfl rfl) ?_))))
  refine x_nil (e_R ⟨rfl, agA, ?_⟩)
  show Value.bool _ = Value.bool _
  first
   | exact congrArg Value.bool (decide_eq_true (Or.inl (by first | assumption | exact g89))).symm
   | (cases okU <;> simp [g89])
 refine e_S ?_
 refine c_ifd rfl (fun c92 => ?_) (fun c92 => ?_)
 ·
  refine c_seq (c_region (waB rfl (x_nil (e_S (c_ret ?_)))))
  refine e_Sr (fin1 (.inl rfl) rfl rfl ?_)
  exact ⟨rfl, hB⟩
 have hokU : okU = true := Decidable.not_not.1 (fun h => c92 (.inr h))
 obtain ⟨hU0, hmU⟩ := uni_val0 hga0 hgb0 hSU hokU
 have hvU := gv_of hU0
 refine c_skip (e_S (c_seq (c_region (wl (r_ldS U25 rfl rfl hb3.range0 sz25_SFind) (wl (r_ldS U28 rfl rfl hb17.range0 sz28_GTgt) ?_)))))
 have z10T := hb10.lt
 refine wl_cl fn19 (fill_any A B AU c d _ l fs XU _ (hTab.mono hB) (hT.mono hB) (hF.mono hB) (hNU _ hFU)) rfl (fun e' w31 hr => ?_)
 obtain ⟨⟨AT, XT, cT, fT, rfl, hNT, hST⟩, hs⟩ := hr
 replace hs := Same.of_bel hs
 replace hB := hB.tr0 hs
 replace hb3 := hb3.tr0 hs
 replace hb4 := hb4.tr0 hs
 replace hb5 := hb5.tr0 hs
 replace hb8 := hb8.tr0 hs
 replace hFX := hFX.of hs (by simp)
 replace hb9 := hb9.tr0 hs
 replace hb10 := hb10.tr0 hs
 replace hb12 := hb12.tr0 hs
 replace hb14 := hb14.tr0 hs
 replace hb15 := hb15.tr0 hs
 replace hb16 := hb16.tr0 hs
 replace hFU := hFU.of hs (by simp)
 replace hb17 := hb17.tr0 hs
 clear hs
 obtain ⟨ZT, hZT⟩ : ∃ z, z = (w30).heap.size := ⟨_, rfl⟩
 rw [← hZT] at hNT z10T
 obtain ⟨wT, hwT⟩ : ∃ z, z = w31 := ⟨_, rfl⟩
 have hFT : FrSame ZT wT w31 := by rw [hwT]; exact FrSame.refl _ _
 rw [← hwT] at hNT
 refine ⟨_, rfl, ?_⟩
 refine wmT rfl (wl (r_ex (v := _) rfl rfl) (wl (r_ex (v := _) rfl rfl) ?_))
 refine wl_al (cs := #[.slice none 0 0]) ze28 rfl (fun b19 w32 hb19 hs hr => ?_)
 have or_b3_b19 : b3 < b19 := nLL hb3.lt hr
 have or_b4_b19 : b4 < b19 := nLL hb4.lt hr
 have or_b5_b19 : b5 < b19 := nLL hb5.lt hr
 have or_b8_b19 : b8 < b19 := nLL hb8.lt hr
 have or_hFX_b19 := (nLT hFX.size hr)
 have or_b9_b19 : b9 < b19 := nLL hb9.lt hr
 have or_b10_b19 : b10 < b19 := nLL hb10.lt hr
 have or_b12_b19 : b12 < b19 := nLL hb12.lt hr
 have or_b14_b19 : b14 < b19 := nLL hb14.lt hr
 have or_b15_b19 : b15 < b19 := nLL hb15.lt hr
 have or_b16_b19 : b16 < b19 := nLL hb16.lt hr
 have or_hFU_b19 := (nLT hFU.size hr)
 have or_b17_b19 : b17 < b19 := nLL hb17.lt hr
 have or_hFT_b19 := (nLT hFT.size hr)
 have lo19 := nLT (Bel.size hB) hr
 replace hB := hB.tr0 hs
 replace hb3 := hb3.tr0 hs
 replace hb4 := hb4.tr0 hs
 replace hb5 := hb5.tr0 hs
 replace hb8 := hb8.tr0 hs
 replace hFX := hFX.of hs (by simp)
 replace hb9 := hb9.tr0 hs
 replace hb10 := hb10.tr0 hs
 replace hb12 := hb12.tr0 hs
 replace hb14 := hb14.tr0 hs
 replace hb15 := hb15.tr0 hs
 replace hb16 := hb16.tr0 hs
 replace hFU := hFU.of hs (by simp)
 replace hb17 := hb17.tr0 hs
 replace hFT := hFT.of hs (by simp)
 clear hs
 clear hr
 refine wl_stW hb19 rfl rfl sz28_GTgt rfl oneA (fun w33 hq hs => ?_)
 replace hB := hB.tr1 hs lo19
 replace hb3 := hb3.tr1 hs om
 replace hb4 := hb4.tr1 hs om
 replace hb5 := hb5.tr1 hs om
 replace hb8 := hb8.tr1 hs om
 replace hFX := hFX.of hs (fun g hg => by rw [List.mem_singleton.1 hg]; omega)
 replace hb9 := hb9.tr1 hs om
 replace hb10 := hb10.tr1 hs om
 replace hb12 := hb12.tr1 hs om
 replace hb14 := hb14.tr1 hs om
 replace hb15 := hb15.tr1 hs om
 replace hb16 := hb16.tr1 hs om
 replace hFU := hFU.of hs (fun g hg => by rw [List.mem_singleton.1 hg]; omega)
 replace hb17 := hb17.tr1 hs om
 replace hFT := hFT.of hs (fun g hg => by rw [List.mem_singleton.1 hg]; omega)
 clear hs
 replace hb19 := hq
 refine wl_stW hb10 rfl rfl sz35_GLoose rfl oneA (fun w34 hq hs => ?_)
 replace hB := hB.tr1 hs lo10
 replace hb3 := hb3.tr1 hs om
 replace hb4 := hb4.tr1 hs om
 replace hb5 := hb5.tr1 hs om
 replace hb8 := hb8.tr1 hs om
 replace hFX := hFX.of hs (fun g hg => by rw [List.mem_singleton.1 hg]; omega)
 replace hb9 := hb9.tr1 hs om
 replace hb12 := hb12.tr1 hs om
 replace hb14 := hb14.tr1 hs om
 replace hb15 := hb15.tr1 hs om
 replace hb16 := hb16.tr1 hs om
 replace hb17 := hb17.tr1 hs om
 replace hFT := hFT.of hs (fun g hg => by rw [List.mem_singleton.1 hg]; omega)
 replace hb19 := hb19.tr1 hs om
 clear hs
 replace hb10 := hq
 refine x_nil (e_S (c_seq (c_seq ?_)))
 obtain ⟨_, hT_⟩ := fill_says hU0 hST
 refine c_region (wl (r_fa U35 sz3_GSearch dE rfl rfl rfl) (wl (r_ld1 (v := .int _ _) U3 rfl rfl (hb10.cell rfl)) (wl (r_neq rfl rfl) (x_nil (e_S ?_)))))
 refine c_ifd rfl (fun c101 => ?_) (fun c101 => ?_)
 ·
  refine c_seq (c_region (waB rfl (x_nil (e_S (c_ret ?_)))))
  refine e_Sr (fin1 (.inl rfl) rfl rfl ?_)
  exact ⟨rfl, hB⟩
 have hfT0 := Decidable.not_not.1 c101
 obtain ⟨hT0, hTt, hmT, _, _⟩ := hT_ hfT0
 have hsb := (subB_iff hX0 hT0).2 (hleast XT (gv_of hT0) hTt (hmU.comp hva.s.vt hmT))
 have h2z := two_mk hX0 hT0
 refine c_skip (e_S (c_seq (c_region (wl (r_ldS U25 rfl rfl hb3.range0 sz25_SFind) (wl (r_ldS U28 rfl rfl hb9.range0 sz28_GTgt) ?_)))))
 refine wl (r_ldS U28 rfl rfl hb19.range0 sz28_GTgt) ?_
 refine wl_cl fn33 (subs_any A B AX AT c d cX cT l fs XX XT _ (hTab.mono hB) (hT.mono hB) (hF.mono hB) (hNX _ hFX) (hNT _ hFT)) rfl (fun e' w35 hr => ?_)
 obtain ⟨rfl, hs⟩ := hr
 replace hs := Same.of_bel hs
 replace hB := hB.tr0 hs
 replace hb3 := hb3.tr0 hs
 replace hb4 := hb4.tr0 hs
 replace hb5 := hb5.tr0 hs
 replace hb8 := hb8.tr0 hs
 replace hFX := hFX.of hs (by simp)
 replace hb9 := hb9.tr0 hs
 replace hb10 := hb10.tr0 hs
 replace hb12 := hb12.tr0 hs
 replace hb14 := hb14.tr0 hs
 replace hb15 := hb15.tr0 hs
 replace hb16 := hb16.tr0 hs
 replace hb17 := hb17.tr0 hs
 replace hFT := hFT.of hs (by simp)
 replace hb19 := hb19.tr0 hs
 clear hs
 refine ⟨_, rfl, ?_⟩
 refine wmT rfl (wl (r_ex (v := _) rfl rfl) (wl (r_ex (v := _) rfl rfl) (waB rfl ?_)))
 refine wl_stW hb10 rfl rfl sz35_GLoose rfl oneA (fun w36 hq hs => ?_)
 replace hB := hB.tr1 hs lo10
 replace hb3 := hb3.tr1 hs om
 replace hb4 := hb4.tr1 hs om
 replace hb5 := hb5.tr1 hs om
 replace hb8 := hb8.tr1 hs om
 replace hb9 := hb9.tr1 hs om
 replace hb12 := hb12.tr1 hs om
 replace hb14 := hb14.tr1 hs om
 replace hb15 := hb15.tr1 hs om
 replace hb16 := hb16.tr1 hs om
 replace hb17 := hb17.tr1 hs om
 replace hb19 := hb19.tr1 hs om
 clear hs
 replace hb10 := hq
 refine x_nil (e_S (c_seq (c_region (wl (r_fa U35 sz3_GSearch dE rfl rfl rfl) (wl (r_ld1 (v := .int _ _) U3 rfl rfl (hb10.cell rfl)) ?_)))))
 refine wl (r_eql rfl rfl) (wl (r_mv (v := .bool true) (congrArg Value.bool (decide_eq_true h2z))) (wl_gd 112 rfl rfl (wl (r_mv (v := .bool true) (congrArg Value.bool hsb)) (wl (r_pt (v := .bool _) rfl rfl) (waB rfl ?_)))))
 refine x_nil (e_S (c_ret (fin1 (.inl rfl) rfl rfl ?_)))
 exact ⟨rfl, hB⟩
end Go.Proofs.YtegngekpmpdngaaDoor
