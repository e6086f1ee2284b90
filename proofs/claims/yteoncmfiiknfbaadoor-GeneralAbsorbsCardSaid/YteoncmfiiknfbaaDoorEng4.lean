/- What these functions of the program compute, at every world: glosswright/subsume.Both, glosswright/subsume.Find, glosswright/subsume.Subsumes, glosswright/glosswrightlaw3.twoFault. The engine's third part: cap, append of nothing, append of zeros to the nil slice. The engine's fourth part: a check of a pointer, a slice that owns its cells opened and closed again, rows of cells told by a list. -/
import Derived.Test.YteoncmfiiknfbaaDoorU
import Derived.Test.YteoncmfiiknfbaaDoorGTgt
import Derived.Test.YteoncmfiiknfbaaDoorOrd
import Derived.Test.YteoncmfiiknfbaaDoorEng2
import Derived.Lib.AppendZerosOnto
namespace Go.Proofs.YteoncmfiiknfbaaDoor
open Go.RowKit
noncomputable def twoG (l : List Ty) (fs : List Ft) (ga gb : List Nd) : Fl := if ¬ (graphF l fs ga).1 = 0 then graphF l fs ga else withinF l fs gb
theorem two_hier {l : List Ty} {fs : List Ft} {ga gb : List Nd} (h : ¬ (hierFault l fs).1 = 0) : twoG l fs ga gb = ((hierFault l fs).1, (hierFault l fs).2) := by
  unfold twoG; rw [gf_hier h, if_pos h]
theorem two_one {l : List Ty} {fs : List Ft} {ga gb : List Nd} (h : (hierFault l fs).1 = 0) (h1 : ¬ (withinF l fs ga).1 = 0) : twoG l fs ga gb = ((withinF l fs ga).1, (withinF l fs ga).2) := by
  unfold twoG; rw [gf_in h, if_pos h1]
theorem two_two {l : List Ty} {fs : List Ft} {ga gb : List Nd} (h : (hierFault l fs).1 = 0) (h1 : (withinF l fs ga).1 = 0) : twoG l fs ga gb = ((withinF l fs gb).1, (withinF l fs gb).2) := by
  unfold twoG; rw [gf_in h, if_neg (fun k => k h1)]
theorem two_gv {l : List Ty} {fs : List Ft} {ga gb : List Nd} (h : (twoG l fs ga gb).1 = 0) : (GV l fs ga ∧ GV l fs gb) ∧ (graphF l fs ga).1 = 0 ∧ (graphF l fs gb).1 = 0 := by
  unfold twoG at h
  by_cases h1 : (graphF l fs ga).1 = 0
  · rw [if_neg (fun k => k h1)] at h
    have ha := gv_of h1
    have h2 : (graphF l fs gb).1 = 0 := by rw [gf_in ha.h]; exact h
    exact ⟨⟨ha, gv_of h2⟩, h1, h2⟩
  · rw [if_pos h1] at h; exact absurd h h1
theorem two_zz {l : List Ty} {fs : List Ft} {ga gb : List Nd} (h : (twoG l fs ga gb).1 = 0) : twoG l fs ga gb = (0, 0) := by
  obtain ⟨⟨_, hb⟩, h1, h2⟩ := two_gv h
  unfold twoG
  rw [if_neg (fun k => k h1), wi_zero hb.lo hb.t hb.u]
def BothR (l : List Ty) (fs : List Ft) (ga gb : List Nd) (e : Ending) (w : World) : Prop := ∃ (U D : Option Addr) (n1 k1 n2 k2 : Nat), e = .returned (.tuple #[.agg #[.slice U n1 k1, .slice D n2 k2], .agg #[.int .i64 (twoG l fs ga gb).1, .int .i64 (twoG l fs ga gb).2]]) ∧ ((twoG l fs ga gb).1 = 0 → ∃ bu bd, (U = some ⟨bu, 0, none⟩ ∧ n1 = l.length ∧ k1 = l.length ∧ D = some ⟨bd, 0, none⟩ ∧ n2 = l.length ∧ k2 = l.length) ∧ TableIn w l bu bd)
theorem both_no {l : List Ty} {fs : List Ft} {ga gb : List Nd} {w : World} {U D : Option Addr} {n1 k1 n2 k2 : Nat} (F : Fl) (hF : twoG l fs ga gb = F) (h : ¬ F.1 = 0) : BothR l fs ga gb (.returned (.tuple #[.agg #[.slice U n1 k1, .slice D n2 k2], .agg #[.int .i64 F.1, .int .i64 F.2]])) w :=
  ⟨U, D, n1, k1, n2, k2, by rw [hF], fun h2 => absurd (by rw [← hF]; exact h2) h⟩
theorem both_yes {l : List Ty} {fs : List Ft} {ga gb : List Nd} {w : World} {bu bd : Nat} (hF : twoG l fs ga gb = (0, 0)) (h : TableIn w l bu bd) : BothR l fs ga gb (.returned (.tuple #[.agg #[.slice (some ⟨bu, 0, none⟩) l.length l.length, .slice (some ⟨bd, 0, none⟩) l.length l.length], .agg #[.int .i64 0, .int .i64 0]])) w :=
  ⟨_, _, _, _, _, _, by rw [hF], fun _ => ⟨bu, bd, ⟨rfl, rfl, rfl, rfl, rfl, rfl⟩, h⟩⟩
theorem tables2_any (A : Option Addr) (c : Nat) (l : List Ty) (w : World) (hT : TypesIn w A l) (hv : VT l) (h60 : l.length ≤ 60) : Calls Tryd.prog 25 #[.slice A l.length c] w fun e w' => (∃ bu bd, e = .returned (.agg #[.slice (some ⟨bu, 0, none⟩) l.length l.length, .slice (some ⟨bd, 0, none⟩) l.length l.length]) ∧ TableIn w' l bu bd) ∧ Bel w w' :=
  (tables_any A c l w hT hv h60).mono fun _ _ ⟨bu, bd, h1, h2, h3⟩ => ⟨⟨bu, bd, h1, h2⟩, h3⟩
noncomputable def subB (l : List Ty) (fs : List Ft) (ga gb : List Nd) : Bool := if (twoG l fs ga gb).1 = 0 then decide (Maps l ga gb) else false
theorem subB_yes {l : List Ty} {fs : List Ft} {ga gb : List Nd} (h : (twoG l fs ga gb).1 = 0) : subB l fs ga gb = decide (Maps l ga gb) := by unfold subB; rw [if_pos h]
theorem fn15_SFind : callable Tryd.prog 15 = true := by kernel_rfl
theorem fn24 : callable Tryd.prog 24 = true := by kernel_rfl
theorem fn25_SFind : callable Tryd.prog 25 = true := by kernel_rfl
theorem fn26 : callable Tryd.prog 26 = true := by kernel_rfl
theorem fn32 : callable Tryd.prog 32 = true := by kernel_rfl
theorem fn36 : callable Tryd.prog 36 = true := by kernel_rfl
theorem in3_SFind : (Tryd.prog.info? 3).map (fun i => (i.zero, i.size, i.bytes)) = some (some (.int .i64 0), 1, 8) := by kernel_rfl
theorem sz22_SFind : (Tryd.prog.info? 22).map (·.size) = some 1 := by kernel_rfl
theorem sz25_SFind : (Tryd.prog.info? 25).map (·.size) = some 2 := by kernel_rfl
theorem sz30_SFind : (Tryd.prog.info? 30).map (·.size) = some 2 := by kernel_rfl
theorem sz60_SFind : (Tryd.prog.info? 60).map (·.size) = some 2 := by kernel_rfl
theorem ze3_SFind : (Tryd.prog.info? 3).map (·.zero) = some (some (.int .i64 0)) := by kernel_rfl
theorem ze30_SFind : (Tryd.prog.info? 30).map (·.zero) = some (some (.agg #[.int .i64 0, .int .i64 0])) := by kernel_rfl
theorem ze60_SFind : (Tryd.prog.info? 60).map (·.zero) = some (some (.agg #[.slice none 0 0, .slice none 0 0])) := by kernel_rfl
set_option maxHeartbeats 1000000 in
theorem both_any (A B G1 G2 : Option Addr) (c d c1 c2 : Nat) (l : List Ty) (fs : List Ft) (ga gb : List Nd) (w : World) (hTab : TabIn w) (hT : TypesIn w A l) (hF : FeatsIn w B fs) (hG1 : NodesIn w G1 ga) (hG2 : NodesIn w G2 gb) : Calls Tryd.prog 36 #[.agg #[.slice A l.length c, .slice B fs.length d], .agg #[.slice G1 ga.length c1], .agg #[.slice G2 gb.length c2]] w fun e w' => BothR l fs ga gb e w' ∧ Bel w w' := by
 refine enter Tryd.func36 Tryd.ntmps36 rfl (Nat.le_of_ble_eq_true rfl) ?_
 have hB : Bel w w := Below.refl _ _
 refine c_seq (c_region ?_)
 refine wl_bx (v := .agg #[_, _]) (cs := #[_, _]) rfl rfl (fun b3 w1 hb3 hs hr => ?_)
 have lo3 := nLT (Bel.size hB) hr
 replace hB := hB.tr0 hs
 clear hs
 clear hr
 refine wl_bx (v := .agg #[_]) (cs := #[_]) rfl rfl (fun b4 w2 hb4 hs hr => ?_)
 have or_b3_b4 : b3 < b4 := nLL hb3.lt hr
 have lo4 := nLT (Bel.size hB) hr
 replace hB := hB.tr0 hs
 replace hb3 := hb3.tr0 hs
 clear hs
 clear hr
 refine wl_bx (v := .agg #[_]) (cs := #[_]) rfl rfl (fun b5 w3 hb5 hs hr => ?_)
 have or_b3_b5 : b3 < b5 := nLL hb3.lt hr
 have or_b4_b5 : b4 < b5 := nLL hb4.lt hr
 have lo5 := nLT (Bel.size hB) hr
 replace hB := hB.tr0 hs
 replace hb3 := hb3.tr0 hs
 replace hb4 := hb4.tr0 hs
 clear hs
 clear hr
 refine wl_al (cs := #[.slice none 0 0, .slice none 0 0]) ze60_SFind rfl (fun b6 w4 hb6 hs hr => ?_)
 have or_b3_b6 : b3 < b6 := nLL hb3.lt hr
 have or_b4_b6 : b4 < b6 := nLL hb4.lt hr
 have or_b5_b6 : b5 < b6 := nLL hb5.lt hr
 have lo6 := nLT (Bel.size hB) hr
 replace hB := hB.tr0 hs
 replace hb3 := hb3.tr0 hs
 replace hb4 := hb4.tr0 hs
 replace hb5 := hb5.tr0 hs
 clear hs
 clear hr
 refine wl_al (cs := #[.int .i64 0, .int .i64 0]) ze30_SFind rfl (fun b7 w5 hb7 hs hr => ?_)
 have or_b3_b7 : b3 < b7 := nLL hb3.lt hr
 have or_b4_b7 : b4 < b7 := nLL hb4.lt hr
 have or_b5_b7 : b5 < b7 := nLL hb5.lt hr
 have or_b6_b7 : b6 < b7 := nLL hb6.lt hr
 have lo7 := nLT (Bel.size hB) hr
 replace hB := hB.tr0 hs
 replace hb3 := hb3.tr0 hs
 replace hb4 := hb4.tr0 hs
 replace hb5 := hb5.tr0 hs
 replace hb6 := hb6.tr0 hs
 clear hs
 clear hr
 refine x_nil (e_S (c_seq (c_seq (c_region (wl (r_ldS U25 rfl rfl hb3.range0 sz25_SFind) ?_)))))
 refine wl_cl fn24 (validate_any A B c d l fs _ (hTab.mono hB) (hT.mono hB) (hF.mono hB)) rfl (fun e' w6 hr => ?_)
 obtain ⟨rfl, hs⟩ := hr
 replace hs := Same.of_bel hs
 replace hB := hB.tr0 hs
 replace hb3 := hb3.tr0 hs
 replace hb4 := hb4.tr0 hs
 replace hb5 := hb5.tr0 hs
 replace hb6 := hb6.tr0 hs
 replace hb7 := hb7.tr0 hs
 clear hs
 refine ⟨_, rfl, ?_⟩
 refine wl_al (cs := #[.int .i64 0, .int .i64 0]) ze30_SFind rfl (fun b8 w7 hb8 hs hr => ?_)
 have or_b3_b8 : b3 < b8 := nLL hb3.lt hr
 have or_b4_b8 : b4 < b8 := nLL hb4.lt hr
 have or_b5_b8 : b5 < b8 := nLL hb5.lt hr
 have or_b6_b8 : b6 < b8 := nLL hb6.lt hr
 have or_b7_b8 : b7 < b8 := nLL hb7.lt hr
 have lo8 := nLT (Bel.size hB) hr
 replace hB := hB.tr0 hs
 replace hb3 := hb3.tr0 hs
 replace hb4 := hb4.tr0 hs
 replace hb5 := hb5.tr0 hs
 replace hb6 := hb6.tr0 hs
 replace hb7 := hb7.tr0 hs
 clear hs
 clear hr
 refine wl_stW hb8 rfl rfl sz30_SFind rfl oneA (fun w8 hq hs => ?_)
 replace hB := hB.tr1 hs lo8
 replace hb3 := hb3.tr1 hs om
 replace hb4 := hb4.tr1 hs om
 replace hb5 := hb5.tr1 hs om
 replace hb6 := hb6.tr1 hs om
 replace hb7 := hb7.tr1 hs om
 clear hs
 replace hb8 := hq
 refine x_nil (e_S (c_seq (c_region (wl (r_fa U30 sz3_GSearch dE rfl rfl rfl) (wl (r_ld1 (v := .int _ _) U3 rfl rfl (hb8.cell rfl)) ?_)))))
 refine wl (r_neq rfl rfl) (x_nil (e_S ?_))
 refine c_ifd rfl (fun c17 => ?_) (fun c17 => ?_)
 ·
  refine c_seq ?_
  refine c_all #[false, false, false, false] kR (by rfl) (fun w9 hs => ?_)
  replace hB := hB.tr0 hs
  replace hb3 := hb3.tr0 hs
  replace hb4 := hb4.tr0 hs
  replace hb5 := hb5.tr0 hs
  replace hb6 := hb6.tr0 hs
  replace hb7 := hb7.tr0 hs
  replace hb8 := hb8.tr0 hs
  clear hs
  refine a_step [0, 1] kR rfl ⟨fun o hoq => ?_, fun o hoq => ?_, trivial⟩
  ·
   obtain rfl := sI hoq
   refine wl (r_bd (vs := #[]) (cs := #[.slice none 0 0, .slice none 0 0]) (by simp) kR) (x_nil (e_A (listed' := #[true, false, false, false]) (by rfl) ?_))
   refine a_step [1, 2] kR rfl ⟨fun o hoq => ?_, fun o hoq => ?_, trivial⟩
   ·
    obtain rfl := sI hoq
    refine wl (r_ldS U30 rfl rfl hb8.range0 sz30_SFind) (x_nil (e_A (listed' := #[true, true, false, false]) (by rfl) ?_))
    refine a_step [2] kR rfl ⟨fun o hoq => ?_, trivial⟩
    obtain rfl := sI hoq
    refine wl_stW hb6 rfl rfl sz60_SFind rfl oneA (fun w10 hq hs => ?_)
    replace hB := hB.tr1 hs lo6
    replace hb3 := hb3.tr1 hs om
    replace hb4 := hb4.tr1 hs om
    replace hb5 := hb5.tr1 hs om
    replace hb7 := hb7.tr1 hs om
    replace hb8 := hb8.tr1 hs om
    clear hs
    replace hb6 := hq
    refine x_nil (e_A (listed' := #[true, true, true, false]) (by rfl) ?_)
    refine a_step [3] kR rfl ⟨fun o hoq => ?_, trivial⟩
    obtain rfl := sI hoq
    refine wl_stW hb7 rfl rfl sz30_SFind rfl oneA (fun w11 hq hs => ?_)
    replace hB := hB.tr1 hs lo7
    replace hb3 := hb3.tr1 hs om
    replace hb4 := hb4.tr1 hs om
    replace hb5 := hb5.tr1 hs om
    replace hb6 := hb6.tr1 hs om
    replace hb8 := hb8.tr1 hs om
    clear hs
    replace hb7 := hq
    refine x_nil (e_A (listed' := #[true, true, true, true]) (by rfl) (a_end kR (e_S (c_ret (e_Sr ?_)))))
    refine fin2 (.inl rfl) rfl (rr_cell U60 rfl rfl hb6.range0 sz60_SFind) (rr_cell U30 rfl rfl hb7.range0 sz30_SFind) ?_
    exact ⟨both_no (hierFault l fs) (two_hier c17) c17, hB⟩
   obtain rfl := sI hoq
   refine wl_stW hb6 rfl rfl sz60_SFind rfl oneA (fun w12 hq hs => ?_)
   replace hB := hB.tr1 hs lo6
   replace hb3 := hb3.tr1 hs om
   replace hb4 := hb4.tr1 hs om
   replace hb5 := hb5.tr1 hs om
   replace hb7 := hb7.tr1 hs om
   replace hb8 := hb8.tr1 hs om
   clear hs
   replace hb6 := hq
   refine x_nil (e_A (listed' := #[true, false, true, false]) (by rfl) ?_)
   refine a_step [1] kR rfl ⟨fun o hoq => ?_, trivial⟩
   obtain rfl := sI hoq
   refine wl (r_ldS U30 rfl rfl hb8.range0 sz30_SFind) (x_nil (e_A (listed' := #[true, true, true, false]) (by rfl) ?_))
   refine a_step [3] kR rfl ⟨fun o hoq => ?_, trivial⟩
   obtain rfl := sI hoq
   refine wl_stW hb7 rfl rfl sz30_SFind rfl oneA (fun w13 hq hs => ?_)
   replace hB := hB.tr1 hs lo7
   replace hb3 := hb3.tr1 hs om
   replace hb4 := hb4.tr1 hs om
   replace hb5 := hb5.tr1 hs om
   replace hb6 := hb6.tr1 hs om
   replace hb8 := hb8.tr1 hs om
   clear hs
   replace hb7 := hq
   refine x_nil (e_A (listed' := #[true, true, true, true]) (by rfl) (a_end kR (e_S (c_ret (e_Sr ?_)))))
   refine fin2 (.inl rfl) rfl (rr_cell U60 rfl rfl hb6.range0 sz60_SFind) (rr_cell U30 rfl rfl hb7.range0 sz30_SFind) ?_
   exact ⟨both_no (hierFault l fs) (two_hier c17) c17, hB⟩
  obtain rfl := sI hoq
  refine wl (r_ldS U30 rfl rfl hb8.range0 sz30_SFind) (x_nil (e_A (listed' := #[false, true, false, false]) (by rfl) ?_))
  refine a_step [0] kR rfl ⟨fun o hoq => ?_, trivial⟩
  obtain rfl := sI hoq
  refine wl (r_bd (vs := #[]) (cs := #[.slice none 0 0, .slice none 0 0]) (by simp) kR) (x_nil (e_A (listed' := #[true, true, false, false]) (by rfl) ?_))
  refine a_step [2] kR rfl ⟨fun o hoq => ?_, trivial⟩
  obtain rfl := sI hoq
  refine wl_stW hb6 rfl rfl sz60_SFind rfl oneA (fun w14 hq hs => ?_)
  replace hB := hB.tr1 hs lo6
  replace hb3 := hb3.tr1 hs om
  replace hb4 := hb4.tr1 hs om
  replace hb5 := hb5.tr1 hs om
  replace hb7 := hb7.tr1 hs om
  replace hb8 := hb8.tr1 hs om
  clear hs
  replace hb6 := hq
  refine x_nil (e_A (listed' := #[true, true, true, false]) (by rfl) ?_)
  refine a_step [3] kR rfl ⟨fun o hoq => ?_, trivial⟩
  obtain rfl := sI hoq
  refine wl_stW hb7 rfl rfl sz30_SFind rfl oneA (fun w15 hq hs => ?_)
  replace hB := hB.tr1 hs lo7
  replace hb3 := hb3.tr1 hs om
  replace hb4 := hb4.tr1 hs om
  replace hb5 := hb5.tr1 hs om
  replace hb6 := hb6.tr1 hs om
  replace hb8 := hb8.tr1 hs om
  clear hs
  replace hb7 := hq
  refine x_nil (e_A (listed' := #[true, true, true, true]) (by rfl) (a_end kR (e_S (c_ret (e_Sr ?_)))))
  refine fin2 (.inl rfl) rfl (rr_cell U60 rfl rfl hb6.range0 sz60_SFind) (rr_cell U30 rfl rfl hb7.range0 sz30_SFind) ?_
  exact ⟨both_no (hierFault l fs) (two_hier c17) c17, hB⟩
 have h0 := Decidable.not_not.1 c17
 have hS := sound_of h0
 have hfo := fok_of h0
 refine c_skip (e_S (c_seq (c_region (wl (r_fa U25 sz22_SFind dE rfl rfl rfl) (wl (r_ld1 (v := .slice _ _ _) U22 rfl rfl (hb3.cell rfl)) ?_)))))
 refine wl_cl fn25_SFind (tables2_any A c l _ (hT.mono hB) hS.vt hS.le) rfl (fun e' w16 hr => ?_)
 obtain ⟨⟨bu, bd, rfl, ⟨hbu, hbd⟩⟩, hs⟩ := hr
 replace hs := Same.of_bel hs
 replace hB := hB.tr0 hs
 replace hb3 := hb3.tr0 hs
 replace hb4 := hb4.tr0 hs
 replace hb5 := hb5.tr0 hs
 replace hb6 := hb6.tr0 hs
 replace hb7 := hb7.tr0 hs
 replace hb8 := hb8.tr0 hs
 clear hs
 have h6u : b6 ≠ bu := fun h => absurd (blk_type (h ▸ hb6) hbu) dE
 have h6d : b6 ≠ bd := fun h => absurd (blk_type (h ▸ hb6) hbd) dE
 have h7u : b7 ≠ bu := fun h => absurd (blk_type (h ▸ hb7) hbu) dE
 have h7d : b7 ≠ bd := fun h => absurd (blk_type (h ▸ hb7) hbd) dE
 refine ⟨_, rfl, ?_⟩
 refine wl_al (cs := #[.slice none 0 0, .slice none 0 0]) ze60_SFind rfl (fun b9 w17 hb9 hs hr => ?_)
 have or_b3_b9 : b3 < b9 := nLL hb3.lt hr
 have or_b4_b9 : b4 < b9 := nLL hb4.lt hr
 have or_b5_b9 : b5 < b9 := nLL hb5.lt hr
 have or_b6_b9 : b6 < b9 := nLL hb6.lt hr
 have or_b7_b9 : b7 < b9 := nLL hb7.lt hr
 have or_b8_b9 : b8 < b9 := nLL hb8.lt hr
 have or_bu_b9 : bu < b9 := nLL hbu.lt hr
 have or_bd_b9 : bd < b9 := nLL hbd.lt hr
 have lo9 := nLT (Bel.size hB) hr
 replace hB := hB.tr0 hs
 replace hb3 := hb3.tr0 hs
 replace hb4 := hb4.tr0 hs
 replace hb5 := hb5.tr0 hs
 replace hb6 := hb6.tr0 hs
 replace hb7 := hb7.tr0 hs
 replace hb8 := hb8.tr0 hs
 replace hbu := hbu.tr0 hs
 replace hbd := hbd.tr0 hs
 clear hs
 clear hr
 refine wl_stW hb9 rfl rfl sz60_SFind rfl oneA (fun w18 hq hs => ?_)
 replace hB := hB.tr1 hs lo9
 replace hb3 := hb3.tr1 hs om
 replace hb4 := hb4.tr1 hs om
 replace hb5 := hb5.tr1 hs om
 replace hb6 := hb6.tr1 hs om
 replace hb7 := hb7.tr1 hs om
 replace hb8 := hb8.tr1 hs om
 replace hbu := hbu.tr1 hs om
 replace hbd := hbd.tr1 hs om
 clear hs
 replace hb9 := hq
 refine x_nil (e_S (c_seq (c_seq (c_region (wl (r_ldS U28 rfl rfl hb4.range0 sz28_GTgt) ?_)))))
 refine wl (r_ldS U28 rfl rfl hb5.range0 sz28_GTgt) ?_
 refine wl_bs (cs := #[_, _]) [(0, .agg _), (1, .agg _)] rfl Tryd.underlying35 sz28_GTgt ze28_GTgt dE dE kR rfl (fun b25 w19 hb25 hs hr => ?_)
 have or_b3_b25 : b3 < b25 := nLL hb3.lt hr
 have or_b4_b25 : b4 < b25 := nLL hb4.lt hr
 have or_b5_b25 : b5 < b25 := nLL hb5.lt hr
 have or_b6_b25 : b6 < b25 := nLL hb6.lt hr
 have or_b7_b25 : b7 < b25 := nLL hb7.lt hr
 have or_b8_b25 : b8 < b25 := nLL hb8.lt hr
 have or_bu_b25 : bu < b25 := nLL hbu.lt hr
 have or_bd_b25 : bd < b25 := nLL hbd.lt hr
 have or_b9_b25 : b9 < b25 := nLL hb9.lt hr
 have lo25 := nLT (Bel.size hB) hr
 replace hB := hB.tr0 hs
 replace hb3 := hb3.tr0 hs
 replace hb4 := hb4.tr0 hs
 replace hb5 := hb5.tr0 hs
 replace hb6 := hb6.tr0 hs
 replace hb7 := hb7.tr0 hs
 replace hb8 := hb8.tr0 hs
 replace hbu := hbu.tr0 hs
 replace hbd := hbd.tr0 hs
 replace hb9 := hb9.tr0 hs
 clear hs
 clear hr
 refine wl (r_len Tryd.underlying35 rfl) (wmI rfl (x_nil (e_S (c_block ?_))))
 refine c_loopS [11, 12, 27, 28, 29, 30, 31, 32, 33, 34, 35, 36, 37, 38, 39, 40] (fun m g w' => ∃ k : Nat, k ≤ 2 ∧ m = 2 - k ∧ g 27 = .int .i64 k ∧ Bel w w' ∧ Blk w' bu 101 (rU l.length (upN l)) ∧ Blk w' bd 101 (rU l.length (downN l)) ∧ Blk w' b3 25 #[.slice A l.length c, .slice B fs.length d] ∧ Blk w' b6 60 #[.slice none 0 0, .slice none 0 0] ∧ Blk w' b7 30 #[.int .i64 0, .int .i64 0] ∧ Blk w' b9 60 #[.slice (some ⟨bu, 0, none⟩) l.length l.length, .slice (some ⟨bd, 0, none⟩) l.length l.length] ∧ Blk w' b25 28 #[.slice G1 ga.length c1, .slice G2 gb.length c2] ∧ (1 ≤ k → (withinF l fs ga).1 = 0) ∧ (2 ≤ k → (withinF l fs gb).1 = 0)) (2) ?_ (fun m g6 w20 hI => ?_)
 ·
  exact ⟨0, Nat.zero_le _, rfl, rfl, hB, hbu, hbd, hb3, hb6, hb7, hb9, hb25, fun h => absurd h dE, fun h => absurd h dE⟩
 obtain ⟨k, hk, hm, h27, hB, hbu, hbd, hb3, hb6, hb7, hb9, hb25, hq1, hq2⟩ := hI
 refine c_know 27 (.int .i64 k) h27 nu (c_seq (c_region (wl (r_lss rfl rfl) (x_nil (e_S ?_)))))
 refine c_seq ?_
 refine c_ifd rfl (fun c28 => ?_) (fun c28 => ?_)
 ·
  have hlt : k < 2 := by omega
  obtain ⟨Gx, cx, gx, hGx, hcx, hx0, hx1⟩ : ∃ (Gx : Option Addr) (cx : Nat) (gx : List Nd), NodesIn w Gx gx ∧ (w20).cell? ⟨b25, 0 + k * 1, none⟩ = some (.slice Gx gx.length cx) ∧ (k = 0 → gx = ga) ∧ (k = 1 → gx = gb) := by
    match k, hlt with
    | 0, _ => exact ⟨G1, c1, ga, hG1, hb25.cell rfl, fun _ => rfl, fun h => by cases h⟩
    | 1, _ => exact ⟨G2, c2, gb, hG2, hb25.cell rfl, fun h => (by cases h), fun _ => rfl⟩
  have htw : ¬ (withinF l fs gx).1 = 0 → twoG l fs ga gb = ((withinF l fs gx).1, (withinF l fs gx).2) := fun h => by
    by_cases e : k = 0
    · have hx := hx0 e
      subst hx
      exact two_one h0 h
    · have hx := hx1 om
      subst hx
      exact two_two h0 (hq1 om)
  have hrg : (w20).rangeAt b25 (0 + k * 1) [.slice Gx gx.length cx] := fun j v hj => by
    match j, hj with
    | 0, hj => cases hj; exact hcx
    | _ + 1, hj => cases hj
  refine c_skip (e_S (c_seq (c_block (c_seq (c_region ?_)))))
  refine wl (r_ia (i := k) Tryd.underlying35 sz28_GTgt rfl rfl om rfl) (wl (r_ldS U28 rfl rfl hrg sz28_GTgt) ?_)
  refine wl_al (cs := #[.slice none 0 0]) ze28_GTgt rfl (fun b11 w21 hb11 hs hr => ?_)
  have or_b3_b11 : b3 < b11 := nLL hb3.lt hr
  have or_b6_b11 : b6 < b11 := nLL hb6.lt hr
  have or_b7_b11 : b7 < b11 := nLL hb7.lt hr
  have or_bu_b11 : bu < b11 := nLL hbu.lt hr
  have or_bd_b11 : bd < b11 := nLL hbd.lt hr
  have or_b9_b11 : b9 < b11 := nLL hb9.lt hr
  have or_b25_b11 : b25 < b11 := nLL hb25.lt hr
  have lo11 := nLT (Bel.size hB) hr
  replace hB := hB.tr0 hs
  replace hb3 := hb3.tr0 hs
  replace hb6 := hb6.tr0 hs
  replace hb7 := hb7.tr0 hs
  replace hbu := hbu.tr0 hs
  replace hbd := hbd.tr0 hs
  replace hb9 := hb9.tr0 hs
  replace hb25 := hb25.tr0 hs
  clear hs
  clear hr
  refine wl_stW hb11 rfl rfl sz28_GTgt rfl oneA (fun w22 hq hs => ?_)
  replace hB := hB.tr1 hs lo11
  replace hb3 := hb3.tr1 hs om
  replace hb6 := hb6.tr1 hs om
  replace hb7 := hb7.tr1 hs om
  replace hbu := hbu.tr1 hs om
  replace hbd := hbd.tr1 hs om
  replace hb9 := hb9.tr1 hs om
  replace hb25 := hb25.tr1 hs om
  clear hs
  replace hb11 := hq
  refine x_nil (e_S (c_seq (c_region (wl (r_ldS U25 rfl rfl hb3.range0 sz25_SFind) (wl (r_ldS U60 rfl rfl hb9.range0 sz60_SFind) ?_)))))
  refine wl (r_ldS U28 rfl rfl hb11.range0 sz28_GTgt) ?_
  refine wl_cl fn26 (within_any A B Gx c d cx bu bd l fs gx _ ⟨hbu, hbd⟩ hS.le (hF.mono hB) (hGx.mono hB) hfo) rfl (fun e' w23 hr => ?_)
  obtain ⟨rfl, hs⟩ := hr
  replace hs := Same.of_bel hs
  replace hB := hB.tr0 hs
  replace hb3 := hb3.tr0 hs
  replace hb6 := hb6.tr0 hs
  replace hb7 := hb7.tr0 hs
  replace hbu := hbu.tr0 hs
  replace hbd := hbd.tr0 hs
  replace hb9 := hb9.tr0 hs
  replace hb25 := hb25.tr0 hs
  replace hb11 := hb11.tr0 hs
  clear hs
  refine ⟨_, rfl, ?_⟩
  refine wl_al (cs := #[.int .i64 0, .int .i64 0]) ze30_SFind rfl (fun b12 w24 hb12 hs hr => ?_)
  have or_b3_b12 : b3 < b12 := nLL hb3.lt hr
  have or_b6_b12 : b6 < b12 := nLL hb6.lt hr
  have or_b7_b12 : b7 < b12 := nLL hb7.lt hr
  have or_bu_b12 : bu < b12 := nLL hbu.lt hr
  have or_bd_b12 : bd < b12 := nLL hbd.lt hr
  have or_b9_b12 : b9 < b12 := nLL hb9.lt hr
  have or_b25_b12 : b25 < b12 := nLL hb25.lt hr
  have or_b11_b12 : b11 < b12 := nLL hb11.lt hr
  have lo12 := nLT (Bel.size hB) hr
  replace hB := hB.tr0 hs
  replace hb3 := hb3.tr0 hs
  replace hb6 := hb6.tr0 hs
  replace hb7 := hb7.tr0 hs
  replace hbu := hbu.tr0 hs
  replace hbd := hbd.tr0 hs
  replace hb9 := hb9.tr0 hs
  replace hb25 := hb25.tr0 hs
  replace hb11 := hb11.tr0 hs
  clear hs
  clear hr
  refine wl_stW hb12 rfl rfl sz30_SFind rfl oneA (fun w25 hq hs => ?_)
  replace hB := hB.tr1 hs lo12
  replace hb3 := hb3.tr1 hs om
  replace hb6 := hb6.tr1 hs om
  replace hb7 := hb7.tr1 hs om
  replace hbu := hbu.tr1 hs om
  replace hbd := hbd.tr1 hs om
  replace hb9 := hb9.tr1 hs om
  replace hb25 := hb25.tr1 hs om
  replace hb11 := hb11.tr1 hs om
  clear hs
  replace hb12 := hq
  refine x_nil (e_S (c_seq (c_region (wl (r_fa U30 sz3_GSearch dE rfl rfl rfl) (wl (r_ld1 (v := .int _ _) U3 rfl rfl (hb12.cell rfl)) ?_)))))
  refine wl (r_neq rfl rfl) (x_nil (e_S ?_))
  refine c_ifd rfl (fun c37 => ?_) (fun c37 => ?_)
  ·
   refine c_seq ?_
   refine c_all #[false, false, false, false] kR (by rfl) (fun w26 hs => ?_)
   replace hB := hB.tr0 hs
   replace hb3 := hb3.tr0 hs
   replace hb6 := hb6.tr0 hs
   replace hb7 := hb7.tr0 hs
   replace hbu := hbu.tr0 hs
   replace hbd := hbd.tr0 hs
   replace hb9 := hb9.tr0 hs
   replace hb25 := hb25.tr0 hs
   replace hb11 := hb11.tr0 hs
   replace hb12 := hb12.tr0 hs
   clear hs
   refine a_step [0, 1] kR rfl ⟨fun o hoq => ?_, fun o hoq => ?_, trivial⟩
   ·
    obtain rfl := sI hoq
    refine wl (r_ldS U60 rfl rfl hb9.range0 sz60_SFind) (x_nil (e_A (listed' := #[true, false, false, false]) (by rfl) ?_))
    refine a_step [1, 2] kR rfl ⟨fun o hoq => ?_, fun o hoq => ?_, trivial⟩
    ·
     obtain rfl := sI hoq
     refine wl (r_ldS U30 rfl rfl hb12.range0 sz30_SFind) (x_nil (e_A (listed' := #[true, true, false, false]) (by rfl) ?_))
     refine a_step [2] kR rfl ⟨fun o hoq => ?_, trivial⟩
     obtain rfl := sI hoq
     refine wl_stW hb6 rfl rfl sz60_SFind rfl oneA (fun w27 hq hs => ?_)
     replace hB := hB.tr1 hs lo6
     replace hb3 := hb3.tr1 hs om
     replace hb7 := hb7.tr1 hs om
     replace hbu := hbu.tr1 hs om
     replace hbd := hbd.tr1 hs om
     replace hb9 := hb9.tr1 hs om
     replace hb25 := hb25.tr1 hs om
     replace hb11 := hb11.tr1 hs om
     replace hb12 := hb12.tr1 hs om
     clear hs
     replace hb6 := hq
     refine x_nil (e_A (listed' := #[true, true, true, false]) (by rfl) ?_)
     refine a_step [3] kR rfl ⟨fun o hoq => ?_, trivial⟩
     obtain rfl := sI hoq
     refine wl_stW hb7 rfl rfl sz30_SFind rfl oneA (fun w28 hq hs => ?_)
     replace hB := hB.tr1 hs lo7
     replace hb3 := hb3.tr1 hs om
     replace hb6 := hb6.tr1 hs om
     replace hbu := hbu.tr1 hs om
     replace hbd := hbd.tr1 hs om
     replace hb9 := hb9.tr1 hs om
     replace hb25 := hb25.tr1 hs om
     replace hb11 := hb11.tr1 hs om
     replace hb12 := hb12.tr1 hs om
     clear hs
     replace hb7 := hq
     refine x_nil (e_A (listed' := #[true, true, true, true]) (by rfl) (a_end kR (e_S (c_ret (e_Br ?_)))))
     refine e_Sr (e_LSr (e_Br (e_Sr (fin2 (.inl rfl) rfl (rr_cell U60 rfl rfl hb6.range0 sz60_SFind) (rr_cell U30 rfl rfl hb7.range0 sz30_SFind) ?_))))
     exact ⟨both_no (withinF l fs gx) (htw c37) c37, hB⟩
    obtain rfl := sI hoq
    refine wl_stW hb6 rfl rfl sz60_SFind rfl oneA (fun w29 hq hs => ?_)
    replace hB := hB.tr1 hs lo6
    replace hb3 := hb3.tr1 hs om
    replace hb7 := hb7.tr1 hs om
    replace hbu := hbu.tr1 hs om
    replace hbd := hbd.tr1 hs om
    replace hb9 := hb9.tr1 hs om
    replace hb25 := hb25.tr1 hs om
    replace hb11 := hb11.tr1 hs om
    replace hb12 := hb12.tr1 hs om
    clear hs
    replace hb6 := hq
    refine x_nil (e_A (listed' := #[true, false, true, false]) (by rfl) ?_)
    refine a_step [1] kR rfl ⟨fun o hoq => ?_, trivial⟩
    obtain rfl := sI hoq
    refine wl (r_ldS U30 rfl rfl hb12.range0 sz30_SFind) (x_nil (e_A (listed' := #[true, true, true, false]) (by rfl) ?_))
    refine a_step [3] kR rfl ⟨fun o hoq => ?_, trivial⟩
    obtain rfl := sI hoq
    refine wl_stW hb7 rfl rfl sz30_SFind rfl oneA (fun w30 hq hs => ?_)
    replace hB := hB.tr1 hs lo7
    replace hb3 := hb3.tr1 hs om
    replace hb6 := hb6.tr1 hs om
    replace hbu := hbu.tr1 hs om
    replace hbd := hbd.tr1 hs om
    replace hb9 := hb9.tr1 hs om
    replace hb25 := hb25.tr1 hs om
    replace hb11 := hb11.tr1 hs om
    replace hb12 := hb12.tr1 hs om
    clear hs
    replace hb7 := hq
    refine x_nil (e_A (listed' := #[true, true, true, true]) (by rfl) (a_end kR (e_S (c_ret (e_Br ?_)))))
    refine e_Sr (e_LSr (e_Br (e_Sr (fin2 (.inl rfl) rfl (rr_cell U60 rfl rfl hb6.range0 sz60_SFind) (rr_cell U30 rfl rfl hb7.range0 sz30_SFind) ?_))))
    exact ⟨both_no (withinF l fs gx) (htw c37) c37, hB⟩
   obtain rfl := sI hoq
   refine wl (r_ldS U30 rfl rfl hb12.range0 sz30_SFind) (x_nil (e_A (listed' := #[false, true, false, false]) (by rfl) ?_))
   refine a_step [0] kR rfl ⟨fun o hoq => ?_, trivial⟩
   obtain rfl := sI hoq
   refine wl (r_ldS U60 rfl rfl hb9.range0 sz60_SFind) (x_nil (e_A (listed' := #[true, true, false, false]) (by rfl) ?_))
   refine a_step [2] kR rfl ⟨fun o hoq => ?_, trivial⟩
   obtain rfl := sI hoq
   refine wl_stW hb6 rfl rfl sz60_SFind rfl oneA (fun w31 hq hs => ?_)
   replace hB := hB.tr1 hs lo6
   replace hb3 := hb3.tr1 hs om
   replace hb7 := hb7.tr1 hs om
   replace hbu := hbu.tr1 hs om
   replace hbd := hbd.tr1 hs om
   replace hb9 := hb9.tr1 hs om
   replace hb25 := hb25.tr1 hs om
   replace hb11 := hb11.tr1 hs om
   replace hb12 := hb12.tr1 hs om
   clear hs
   replace hb6 := hq
   refine x_nil (e_A (listed' := #[true, true, true, false]) (by rfl) ?_)
   refine a_step [3] kR rfl ⟨fun o hoq => ?_, trivial⟩
   obtain rfl := sI hoq
   refine wl_stW hb7 rfl rfl sz30_SFind rfl oneA (fun w32 hq hs => ?_)
   replace hB := hB.tr1 hs lo7
   replace hb3 := hb3.tr1 hs om
   replace hb6 := hb6.tr1 hs om
   replace hbu := hbu.tr1 hs om
   replace hbd := hbd.tr1 hs om
   replace hb9 := hb9.tr1 hs om
   replace hb25 := hb25.tr1 hs om
   replace hb11 := hb11.tr1 hs om
   replace hb12 := hb12.tr1 hs om
   clear hs
   replace hb7 := hq
   refine x_nil (e_A (listed' := #[true, true, true, true]) (by rfl) (a_end kR (e_S (c_ret (e_Br ?_)))))
   refine e_Sr (e_LSr (e_Br (e_Sr (fin2 (.inl rfl) rfl (rr_cell U60 rfl rfl hb6.range0 sz60_SFind) (rr_cell U30 rfl rfl hb7.range0 sz30_SFind) ?_))))
   exact ⟨both_no (withinF l fs gx) (htw c37) c37, hB⟩
  refine c_skip (e_B (e_S (c_region (wl (r_add rfl rfl rfl om) (wmI rfl ?_)))))
  refine x_nil (e_LS (2 - (k + 1)) om agA ?_)
  exact ⟨k + 1, by omega, rfl, rfl, hB, hbu, hbd, hb3, hb6, hb7, hb9, hb25, (fun h => by
    by_cases e : k = 0
    · rw [hx0 e] at c37; exact Decidable.not_not.1 c37
    · exact hq1 om), fun h => by
    rw [hx1 om] at c37; exact Decidable.not_not.1 c37⟩
 have hke : k = 2 := by omega
 have hz : twoG l fs ga gb = (0, 0) := by
   rw [two_two h0 (hq1 om)]
   have h2 := hq2 om
   have h3 : (graphF l fs gb).1 = 0 := by rw [gf_in h0]; exact h2
   have hgb := gv_of h3
   rw [wi_zero hgb.lo hgb.t hgb.u]
 refine c_exit (e_Sx (e_LSx (e_Bx (e_S (c_seq ?_)))))
 refine c_region (wl (r_ldS U60 rfl rfl hb9.range0 sz60_SFind) (wl (r_bd (vs := #[]) (cs := #[.int .i64 0, .int .i64 0]) (by simp) kR) ?_))
 refine wl_stW hb6 rfl rfl sz60_SFind rfl oneA (fun w33 hq hs => ?_)
 replace hB := hB.tr1 hs lo6
 replace hb3 := hb3.tr1 hs om
 replace hb7 := hb7.tr1 hs om
 replace hbu := hbu.tr1 hs om
 replace hbd := hbd.tr1 hs om
 replace hb9 := hb9.tr1 hs om
 replace hb25 := hb25.tr1 hs om
 clear hs
 replace hb6 := hq
 refine wl_stW hb7 rfl rfl sz30_SFind rfl oneA (fun w34 hq hs => ?_)
 replace hB := hB.tr1 hs lo7
 replace hb3 := hb3.tr1 hs om
 replace hb6 := hb6.tr1 hs om
 replace hbu := hbu.tr1 hs om
 replace hbd := hbd.tr1 hs om
 replace hb9 := hb9.tr1 hs om
 replace hb25 := hb25.tr1 hs om
 clear hs
 replace hb7 := hq
 refine x_nil (e_S (c_ret (fin2 (.inl rfl) rfl (rr_cell U60 rfl rfl hb6.range0 sz60_SFind) (rr_cell U30 rfl rfl hb7.range0 sz30_SFind) ?_)))
 exact ⟨both_yes hz ⟨hbu, hbd⟩, hB⟩
theorem twof_any (A B G1 G2 : Option Addr) (c d c1 c2 : Nat) (l : List Ty) (fs : List Ft) (ga gb : List Nd) (w : World) (hcl : l.length ≤ c) (hdl : fs.length ≤ d) (hT : TypesIn w A l) (hF : FeatsIn w B fs) (hG1 : NodesIn w G1 ga) (hG2 : NodesIn w G2 gb) : Calls Tryd.prog 14 #[.agg #[.slice A l.length c, .slice B fs.length d], .agg #[.slice G1 ga.length c1], .agg #[.slice G2 gb.length c2]] w fun e w' => e = .returned (.agg #[.int .i64 (twoG l fs ga gb).1, .int .i64 (twoG l fs ga gb).2]) ∧ Bel w w' := by
 refine enter Tryd.func14 Tryd.ntmps14 rfl (Nat.le_of_ble_eq_true rfl) ?_
 have hB : Bel w w := Below.refl _ _
 refine c_seq (c_region ?_)
 refine wl_bx (v := .agg #[_, _]) (cs := #[_, _]) rfl rfl (fun b3 w1 hb3 hs hr => ?_)
 have lo3 := nLT (Bel.size hB) hr
 replace hB := hB.tr0 hs
 clear hs
 clear hr
 refine wl_bx (v := .agg #[_]) (cs := #[_]) rfl rfl (fun b4 w2 hb4 hs hr => ?_)
 have or_b3_b4 : b3 < b4 := nLL hb3.lt hr
 have lo4 := nLT (Bel.size hB) hr
 replace hB := hB.tr0 hs
 replace hb3 := hb3.tr0 hs
 clear hs
 clear hr
 refine wl_bx (v := .agg #[_]) (cs := #[_]) rfl rfl (fun b5 w3 hb5 hs hr => ?_)
 have or_b3_b5 : b3 < b5 := nLL hb3.lt hr
 have or_b4_b5 : b4 < b5 := nLL hb4.lt hr
 have lo5 := nLT (Bel.size hB) hr
 replace hB := hB.tr0 hs
 replace hb3 := hb3.tr0 hs
 replace hb4 := hb4.tr0 hs
 clear hs
 clear hr
 refine wl_al (cs := #[.int .i64 0, .int .i64 0]) ze30_SFind rfl (fun b6 w4 hb6 hs hr => ?_)
 have or_b3_b6 : b3 < b6 := nLL hb3.lt hr
 have or_b4_b6 : b4 < b6 := nLL hb4.lt hr
 have or_b5_b6 : b5 < b6 := nLL hb5.lt hr
 have lo6 := nLT (Bel.size hB) hr
 replace hB := hB.tr0 hs
 replace hb3 := hb3.tr0 hs
 replace hb4 := hb4.tr0 hs
 replace hb5 := hb5.tr0 hs
 clear hs
 clear hr
 refine x_nil (e_S (c_seq (c_seq (c_region (wl (r_ldS U25 rfl rfl hb3.range0 sz25_SFind) ?_)))))
 refine wl (r_ldS U28 rfl rfl hb4.range0 sz28_GTgt) ?_
 refine wl_cl fn32 (gfau_any A B G1 c d c1 l fs ga _ hcl hdl (hT.mono hB) (hF.mono hB) (hG1.mono hB)) rfl (fun e' w5 hr => ?_)
 obtain ⟨rfl, hs⟩ := hr
 replace hs := Same.of_bel hs
 replace hB := hB.tr0 hs
 replace hb3 := hb3.tr0 hs
 replace hb4 := hb4.tr0 hs
 replace hb5 := hb5.tr0 hs
 replace hb6 := hb6.tr0 hs
 clear hs
 refine ⟨_, rfl, ?_⟩
 refine wl_al (cs := #[.int .i64 0, .int .i64 0]) ze30_SFind rfl (fun b7 w6 hb7 hs hr => ?_)
 have or_b3_b7 : b3 < b7 := nLL hb3.lt hr
 have or_b4_b7 : b4 < b7 := nLL hb4.lt hr
 have or_b5_b7 : b5 < b7 := nLL hb5.lt hr
 have or_b6_b7 : b6 < b7 := nLL hb6.lt hr
 have lo7 := nLT (Bel.size hB) hr
 replace hB := hB.tr0 hs
 replace hb3 := hb3.tr0 hs
 replace hb4 := hb4.tr0 hs
 replace hb5 := hb5.tr0 hs
 replace hb6 := hb6.tr0 hs
 clear hs
 clear hr
 refine wl_stW hb7 rfl rfl sz30_SFind rfl oneA (fun w7 hq hs => ?_)
 replace hB := hB.tr1 hs lo7
 replace hb3 := hb3.tr1 hs om
 replace hb4 := hb4.tr1 hs om
 replace hb5 := hb5.tr1 hs om
 replace hb6 := hb6.tr1 hs om
 clear hs
 replace hb7 := hq
 refine x_nil (e_S (c_seq (c_region (wl (r_fa U30 sz3_GSearch dE rfl rfl rfl) (wl (r_ld1 (v := .int _ _) U3 rfl rfl (hb7.cell rfl)) ?_)))))
 refine wl (r_neq rfl rfl) (x_nil (e_S ?_))
 refine c_ifd rfl (fun c13 => ?_) (fun c13 => ?_)
 ·
  refine c_seq (c_region (wl (r_ldS U30 rfl rfl hb7.range0 sz30_SFind) ?_))
  refine wl_stW hb6 rfl rfl sz30_SFind rfl oneA (fun w8 hq hs => ?_)
  replace hB := hB.tr1 hs lo6
  replace hb3 := hb3.tr1 hs om
  replace hb4 := hb4.tr1 hs om
  replace hb5 := hb5.tr1 hs om
  replace hb7 := hb7.tr1 hs om
  clear hs
  replace hb6 := hq
  refine x_nil (e_S (c_ret (e_Sr (fin1 (.inl rfl) rfl (rr_cell U30 rfl rfl hb6.range0 sz30_SFind) ?_))))
  exact ⟨by unfold twoG; rw [if_pos c13], hB⟩
 have h0 := Decidable.not_not.1 c13
 have hgv := gv_of h0
 have e2 : twoG l fs ga gb = withinF l fs gb := by unfold twoG; rw [if_neg (fun k => k h0)]
 refine c_skip (e_S (c_seq (c_region (wl (r_ldS U25 rfl rfl hb3.range0 sz25_SFind) (wl (r_ldS U28 rfl rfl hb5.range0 sz28_GTgt) ?_)))))
 refine wl_cl fn15_SFind (inh_any A B G2 c d c2 l fs gb _ (hT.mono hB) hgv.s.vt hgv.s.le (hF.mono hB) (hG2.mono hB) hgv.f) rfl (fun e' w9 hr => ?_)
 obtain ⟨rfl, hs⟩ := hr
 replace hs := Same.of_bel hs
 replace hB := hB.tr0 hs
 replace hb3 := hb3.tr0 hs
 replace hb4 := hb4.tr0 hs
 replace hb5 := hb5.tr0 hs
 replace hb6 := hb6.tr0 hs
 replace hb7 := hb7.tr0 hs
 clear hs
 refine ⟨_, rfl, ?_⟩
 refine wl_stW hb6 rfl rfl sz30_SFind rfl oneA (fun w10 hq hs => ?_)
 replace hB := hB.tr1 hs lo6
 replace hb3 := hb3.tr1 hs om
 replace hb4 := hb4.tr1 hs om
 replace hb5 := hb5.tr1 hs om
 replace hb7 := hb7.tr1 hs om
 clear hs
 replace hb6 := hq
 refine x_nil (e_S (c_ret (fin1 (.inl rfl) rfl (rr_cell U30 rfl rfl hb6.range0 sz30_SFind) ?_)))
 exact ⟨by rw [e2], hB⟩
end Go.Proofs.YteoncmfiiknfbaaDoor
namespace Go.Proofs.YteoncmfiiknfbaaDoor
open Go.RowKit
section eng3
variable {P : Program} {Q : Exit → Act → World → Prop} {n : Nat} {f : Fr} {w : World} {ops : Array Oper} {rest : List Oper} {d : Tmp} {ty t e : TypeId} {pos : String} {af : Array Edge} {x y : Operand}
theorem r_cap {dst : Option Tmp} {gd : Option (Nat × Bool)} {A : Option Addr} {m c : Nat} (hu : P.underlying t = some (.slice e)) (hx : ev n f x = .slice A m c) :
    RV P n f w ⟨dst, .call { callee := .builtin .cap, args := #[x], argTypes := #[t] }, ty, pos, af, gd⟩ (.int .i64 (c : Int)) w := by
  simp [RV, execOp, resolve, invoke, builtin, hx, Builtin.cap_, run_underlying hu, goInt]
theorem run_app0 {A B : Option Addr} {k cap c sz : Nat} (hu : P.underlying t = some (.slice e)) (hs : (P.info? e).map (·.size) = some sz) (hk : k ≤ cap) :
    (Builtin.append_ #[t, t] ty #[.slice A k cap, .slice B 0 c]).run P w = .ok (.slice A k cap) w := by
  cases hq : P.info? e with
  | none => simp [hq] at hs
  | some i =>
    simp only [hq, Option.map_some, Option.some.injEq] at hs
    have hz : (Go.sizeOf e).run P w = .ok sz w := by simp [Go.sizeOf, typeInfo, hq, hs]
    have h0 : (Builtin.firstCells sz 0 (.slice B 0 c)).run P w = .ok #[] w := by
      cases B with
      | none => simp [Builtin.firstCells]
      | some b => simp [Builtin.firstCells, loadCells, loadCellsFrom]
    cases A with
    | none => simp [Builtin.append_, run_underlying hu, hz, Builtin.lenOf, hk, h0]
    | some a => simp [Builtin.append_, run_underlying hu, hz, Builtin.lenOf, hk, h0, storeCells]
theorem r_app0 {dst : Option Tmp} {gd : Option (Nat × Bool)} {A B : Option Addr} {k cap c sz : Nat} (hu : P.underlying t = some (.slice e)) (hs : (P.info? e).map (·.size) = some sz) (hk : k ≤ cap) (hx : ev n f x = .slice A k cap) (hy : ev n f y = .slice B 0 c) :
    RV P n f w ⟨dst, .call { callee := .builtin .append, args := #[x, y], argTypes := #[t, t] }, ty, pos, af, gd⟩ (.slice A k cap) w := by
  have hr := run_app0 (P := P) (w := w) (ty := ty) (A := A) (B := B) (c := c) hu hs hk
  simp only [RV, execOp, resolve, invoke, builtin, Sem.run_bind, Sem.run_pure, Result.andThen_ok, List.map_toArray, List.map_cons, List.map_nil, hx, hy, hr]
theorem wl_appZ {tn : TypeId} {zv : Value} {sz by' k : Nat} (hu : P.underlying t = some (.slice e)) (hn : P.underlying tn = some (.int .i64)) (hi : (P.info? e).map (fun i => (i.zero, i.size, i.bytes)) = some (some zv, sz, by')) (hz : zv.cells.size = sz) (h0 : 0 < k) (hs : 0 < sz) (hb : k * by' ≤ 140737488355328) (h63 : k ≤ 4611686018427387904)
    (hx : ev n f x = .slice none 0 0) (hy : ev n f y = .int .i64 (k : Int))
    (K : ∀ b cap w1, Own w1 w.heap.size e sz (some ⟨b, 0, none⟩) 0 cap [] → Same [] w w1 → w.heap.size ≤ b → k ≤ cap → cap ≤ 9223372036854775807 → WL P ops Q rest n (upd f d (.slice (some ⟨b, 0, none⟩) k cap)) w1) :
    WL P ops Q (⟨some d, .call { callee := .builtin .append, args := #[x, y], argTypes := #[t, tn] }, ty, pos, af, none⟩ :: rest) n f w := by
  obtain ⟨i, hq, hzz⟩ := Option.map_eq_some_iff.1 hi
  simp only [Prod.mk.injEq] at hzz
  obtain ⟨z1, z2, z3⟩ := hzz
  have hold : (Builtin.firstCells i.size 0 (.slice none 0 0)).run P w.drew = .ok ([] : List Value).toArray w.drew := by simp [Builtin.firstCells]
  have hfit := growslice_fits (need := 0 + k) (old := 0) (bytes := i.bytes) om (by rw [Nat.zero_add, z3]; exact hb)
  have hr := Lib.run_append_grow_zeros w t tn ty e i zv .i64 .i64 hu hn hq z1 none 0 0 [] hold k h0 om om om (by rw [z3]; omega) hfit
  rw [Nat.zero_add] at hr
  have hge := grownCap_ge w k 0 e
  have hle := grownCap_le_maxLen w k 0 e (by unfold maxLen; omega)
  generalize grownCap w k 0 e = C at hr hge hle
  refine wl (v := .slice (some ⟨w.heap.size, 0, none⟩) k C) (w' := w.drew.alloc (.cells (#[] ++ Builtin.zeroCells zv.cells k ++ Builtin.zeroCells zv.cells (C - k)) e)) ?_ (K _ _ _ ?_ ?_ (Nat.le_refl _) hge (by unfold maxLen at hle; omega))
  · simp only [RV, execOp, resolve, invoke, builtin, Sem.run_bind, Sem.run_pure, Result.andThen_ok, List.map_toArray, List.map_cons, List.map_nil, hx, hy, hr]
  · refine ⟨by simp, .inr ⟨w.heap.size, C, _, rfl, Nat.le_refl _, heap_alloc_new w.drew _, Nat.zero_le _, hle, ?_, by simp⟩⟩
    simp only [Array.size_append, Builtin.zeroCells, Array.size_map, Array.size_range, hz]
    simp only [List.size_toArray, List.length_nil, Nat.zero_add, ← Nat.add_mul]
    rw [show k + (C - k) = C by omega]
  · have hd : Same [] w w.drew := ⟨rfl, rfl, rfl, Nat.le_refl _, fun _ _ _ => rfl⟩
    exact hd.trans (same_alloc w.drew _)
theorem wl_appL {zv : Value} {base sz by' k cap m c : Nat} {A B : Option Addr} {xs news : List Value} (hu : P.underlying t = some (.slice e)) (hi : (P.info? e).map (fun i => (i.zero, i.size, i.bytes)) = some (some zv, sz, by')) (hzs : zv.cells.size = sz) (hsz : 0 < sz)
    (hown : Own w base e sz A k cap xs) (hx : ev n f x = .slice A k cap) (hy : ev n f y = .slice B m c) (hn : 0 < m → ∃ b o', B = some ⟨b, o', none⟩ ∧ ∀ j u, news[j]? = some u → w.cell? ⟨b, o' + j, none⟩ = some u) (hl : news.length = m * sz) (h1 : news.all (·.oneCell') = true) (h63 : k + m ≤ 9223372036854775807) (hbytes : (k + m) * by' ≤ 140737488355328) (hbase : base ≤ w.heap.size)
    (K : ∀ A' cap' w1, Own w1 base e sz A' (k + m) cap' (xs ++ news) → Same (aL A) w w1 → (∀ g ∈ aL A', g ∈ aL A ∨ w.heap.size ≤ g) → WL P ops Q rest n (upd f d (.slice A' (k + m) cap')) w1) :
    WL P ops Q (⟨some d, .call { callee := .builtin .append, args := #[x, y], argTypes := #[t, t] }, ty, pos, af, none⟩ :: rest) n f w := by
  by_cases hm : 0 < m
  · obtain ⟨b, o', rfl, hc⟩ := hn hm
    refine wl_appC hu hi hzs hsz hown hx hy hc hl h1 hm h63 hbytes hbase (fun g cap' w1 ho hs hg => K _ _ _ ho hs (fun g' hg' => ?_))
    have e1 : g' = g := List.mem_singleton.1 hg'
    subst e1
    rcases hg with hg | hg
    · exact .inl (by rw [hg]; simp)
    · exact .inr hg
  · obtain rfl : m = 0 := by omega
    obtain rfl : news = [] := List.length_eq_zero_iff.1 (by simpa using hl)
    have hs : (P.info? e).map (·.size) = some sz := by
      obtain ⟨i, hq, hzz⟩ := Option.map_eq_some_iff.1 hi
      simp only [Prod.mk.injEq] at hzz
      simp [hq, hzz.2.1]
    refine wl (r_app0 hu hs hown.cap_le hx hy) ?_
    exact K A cap w (by simpa using hown) (Same.refl _ _) (fun g hg => .inl hg)
end eng3
end Go.Proofs.YteoncmfiiknfbaaDoor
namespace Go.Proofs.YteoncmfiiknfbaaDoor
open Go.RowKit
section eng4
variable {P : Program} {Q : Exit → Act → World → Prop} {n : Nat} {f : Fr} {w w' : World} {ops : Array Oper} {rest : List Oper} {d : Tmp} {ty t e : TypeId} {pos : String} {af : Array Edge} {x y : Operand}
theorem r_nc {dst : Option Tmp} {gd : Option (Nat × Bool)} {a : Addr} (hx : ev n f x = .pointer (some a)) :
    RV P n f w ⟨dst, .nilCheck x, ty, pos, af, gd⟩ (.pointer (some a)) w := by simp [RV, execOp, hx]
variable {base sz k cap : Nat} {A : Option Addr} {xs : List Value}
theorem Own.open_ (h : Own w base e sz A k cap xs) (hk : 0 < k) : ∃ (g : Nat) (cur : Array Value), A = some ⟨g, 0, none⟩ ∧ base ≤ g ∧ Blk w g e cur ∧ k * sz ≤ cur.size ∧ (∀ j, j < k * sz → cur[j]? = xs[j]?) ∧ ∀ w1 o v, Blk w1 g e (cur.setIfInBounds o v) → Own w1 base e sz (some ⟨g, 0, none⟩) k cap (xs.set o v) := by
  rcases h.2 with ⟨_, hn⟩ | ⟨g, c, cur, hv, hb, hg, hkc, hm, hs, ht⟩
  · omega
  · cases hv
    have hle : k * sz ≤ cap * sz := Nat.mul_le_mul_right sz hkc
    refine ⟨g, cur, rfl, hb, hg, by omega, fun j hj => ?_, fun w1 o v hw => ⟨by rw [List.length_set]; exact h.1, .inr ⟨g, cap, _, rfl, hb, hw, hkc, hm, by rw [Array.size_setIfInBounds]; exact hs, ?_⟩⟩⟩
    · rw [← ht, List.getElem?_take_of_lt hj]; simp
    · rw [Array.toList_setIfInBounds, List.take_set, ht]
theorem own_ne {b1 b2 s1 s2 k1 k2 c1 c2 : Nat} {e1 e2 : TypeId} {A1 A2 : Option Addr} {x1 x2 : List Value} (h : Own w b1 e1 s1 A1 k1 c1 x1) (k : Own w b2 e2 s2 A2 k2 c2 x2) (hne : e1 ≠ e2) : ∀ g ∈ aL A1, ¬ g ∈ aL A2 := fun g h1 h2 => by
  have ht : ∀ {b s k c : Nat} {e : TypeId} {A : Option Addr} {x : List Value}, Own w b e s A k c x → g ∈ aL A → ∃ cs, Blk w g e cs := fun h hg => by
    rcases h.2 with ⟨hv, _⟩ | ⟨g', c', cur, hv, _, hb, _⟩
    · cases hv; cases hg
    · cases hv
      simp only [aL, List.mem_singleton] at hg
      subst hg; exact ⟨cur, hb⟩
  obtain ⟨c1, q1⟩ := ht h h1
  obtain ⟨c2, q2⟩ := ht k h2
  exact hne (blk_type q1 q2)
def rowL (n : Nat) (g : Nat → Value) : List Value := (List.range n).map g
theorem rowL_len (n : Nat) (g : Nat → Value) : (rowL n g).length = n := by simp [rowL]
theorem rowL_get {n j : Nat} {g : Nat → Value} (h : j < n) : (rowL n g)[j]? = some (g j) := by simp [rowL, h]
theorem rowL_congr {n : Nat} {g g' : Nat → Value} (h : ∀ j, j < n → g j = g' j) : rowL n g = rowL n g' := List.map_congr_left (fun j hj => h j (List.mem_range.1 hj))
theorem rowL_set {n i : Nat} {g : Nat → Value} {v : Value} : (rowL n g).set i v = rowL n (fun x => if x = i then v else g x) := by
  refine List.ext_getElem (by simp [rowL]) (fun j h1 h2 => ?_)
  simp only [rowL, List.getElem_set, List.getElem_map, List.getElem_range]
  by_cases e : i = j
  · subst e; simp
  · rw [if_neg e, if_neg (fun h => e h.symm)]
theorem rowL_snoc {n : Nat} {g : Nat → Value} {v : Value} : rowL n g ++ [v] = rowL (n + 1) (fun x => if x < n then g x else v) := by
  unfold rowL
  rw [List.range_succ, List.map_append, List.map_cons, List.map_nil, if_neg (Nat.lt_irrefl n)]
  refine congrArg (· ++ [v]) (List.map_congr_left (fun j hj => ?_))
  rw [if_pos (List.mem_range.1 hj)]
theorem Own.rowc {g : Nat → Value} {m : Nat} (h : Own w base e 1 A m cap (rowL m g)) {j : Nat} (hj : j < m) : ∃ q, A = some ⟨q, 0, none⟩ ∧ base ≤ q ∧ q < w.heap.size ∧ w.cell? ⟨q, 0 + j * 1, none⟩ = some (g j) := by
  have hne : rowL m g ≠ [] := fun e => by have := congrArg List.length e; rw [rowL_len] at this; simp at this; omega
  obtain ⟨q, h1, h2, h3, h4⟩ := h.cell hne
  have e0 : 0 + j * 1 = j := by omega
  exact ⟨q, h1, h2, h3, by rw [e0]; exact h4 j _ (rowL_get hj)⟩
end eng4
end Go.Proofs.YteoncmfiiknfbaaDoor
