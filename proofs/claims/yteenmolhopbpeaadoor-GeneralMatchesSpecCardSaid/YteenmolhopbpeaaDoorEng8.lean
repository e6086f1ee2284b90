/- What these functions of the program compute, at every world: glosswright/graph.Target. What these functions of the program compute, at every world: glosswright/subsume.Both, glosswright/subsume.Find, glosswright/subsume.Subsumes, glosswright/glosswrightlaw3.twoFault. The engine's eighth part: maps whose keys are two numbers and whose values count the keys. -/
import Derived.Test.YteenmolhopbpeaaDoorU
import Derived.Test.YteenmolhopbpeaaDoorGSearch
import Derived.Test.YteenmolhopbpeaaDoorCanon
import Derived.Test.YteenmolhopbpeaaDoorDfs
namespace Go.Proofs.YteenmolhopbpeaaDoor
open Go.RowKit
theorem fn30 : callable Tryd.prog 30 = true := by kernel_rfl
theorem sz26_GTgt : (Tryd.prog.info? 26).map (·.size) = some 1 := by kernel_rfl
theorem sz37_GTgt : (Tryd.prog.info? 37).map (·.size) = some 1 := by kernel_rfl
theorem sz39_GTgt : (Tryd.prog.info? 39).map (·.size) = some 2 := by kernel_rfl
theorem target_any (G : Option Addr) (cg nf : Nat) (gr : List Nd) (i : Nat) (f : Int) (w : World) (hG : NodesIn w G gr) (hi : i < gr.length) (hl : lnFault nf gr.length (-1) (gr[i]'hi).ln = 0) (hw : (gr[i]'hi).ln.length ≤ 1000) : Calls Tryd.prog 17 #[.agg #[.slice G gr.length cg], .int .i64 i, .int .i64 f] w fun e w' => e = .returned (.int .i64 (tgt (gr[i]'hi).ln f)) ∧ Bel w w' := by
 obtain ⟨nb, no, LA, lc, rfl, hnb, hnr, hln⟩ := hG.at_ (Below.refl _ _ : Bel w w) hi
 have hso := (ln_sorted hl).2
 refine enter Tryd.func17 Tryd.ntmps17 rfl (Nat.le_of_ble_eq_true rfl) ?_
 have hB : Bel w w := Below.refl _ _
 refine c_seq (c_region ?_)
 refine wl_bx (v := .agg #[_]) (cs := #[_]) rfl rfl (fun b3 w1 hb3 hs hr => ?_)
 have lo3 := nLT (Bel.size hB) hr
 replace hB := hB.tr0 hs
 clear hs
 clear hr
 refine waI rfl (x_nil (e_S (c_seq (c_region (wl (r_fa U28 sz26_GTgt dE rfl rfl rfl) ?_)))))
 refine wl (r_ld1 (v := .slice _ _ _) U26 rfl rfl (hb3.cell rfl)) (wmI rfl (wl (r_ia (i := i) U26 sz39_GTgt rfl rfl hi rfl) (wl (r_fa U39 sz37_GTgt dE rfl rfl rfl) (wl (r_ld1 (v := .slice _ _ _) U37 rfl rfl (hB.cell hnb (hnr 1 _ rfl))) (wmI rfl ?_)))))
 refine wl_cl fn30 (bsf_any LA lc (gr[i]'hi).ln f _ (hln.mono hB) hw (fun x y hx hy hxy => by
       by_cases e : x = y
       · subst e; exact Int.le_refl _
       · exact Int.le_of_lt (hso x y hx hy om))) rfl (fun e' w2 hr => ?_)
 obtain ⟨⟨ix, b, hix, rfl, hlo, hhi, hbt⟩, hs⟩ := hr
 replace hs := Same.of_bel hs
 replace hB := hB.tr0 hs
 replace hb3 := hb3.tr0 hs
 clear hs
 obtain ⟨hy, hn⟩ := tgt_bs hl hlo hhi
 refine ⟨_, rfl, ?_⟩
 refine wmT rfl (wl (r_ex (v := .int _ _) rfl rfl) (wl (r_ex (v := .bool _) rfl rfl) (waI rfl (waB rfl (x_nil ?_)))))
 refine e_S (c_seq (c_seq (c_region (wmB rfl (wl (r_not rfl) ?_)))))
 refine x_nil (e_S ?_)
 refine c_if rfl (fun c21 => ?_) (fun c21 => ?_)
 ·
  have hbf : ¬ b = true := by simpa using c21
  have hno := hn (fun h => hbf (hbt.2 h))
  refine c_seq (c_region (waI rfl (x_nil (e_S (c_ret ?_)))))
  refine e_Sr (fin1 (.inl rfl) rfl rfl ?_)
  exact ⟨ret_int hno, hB⟩
 have hbt2 : b = true := by simpa using c21
 obtain ⟨hxl, hxe⟩ := hbt.1 hbt2
 have hyes := hy hxl hxe
 obtain ⟨lb, lof, rfl, hlb, hlr⟩ := hln.at_ hB hxl
 refine c_skip (e_S (c_seq (c_region (wl (r_fa U28 sz26_GTgt dE rfl rfl rfl) (wl (r_ld1 (v := .slice _ _ _) U26 rfl rfl (hb3.cell rfl)) ?_)))))
 refine wmI rfl (wl (r_ia (i := i) U26 sz39_GTgt rfl rfl hi rfl) (wl (r_fa U39 sz37_GTgt dE rfl rfl rfl) (wl (r_ld1 (v := .slice _ _ _) U37 rfl rfl (hB.cell hnb (hnr 1 _ rfl))) (wmI rfl (wl (r_ia (i := ix) U37 sz36_GSearch rfl rfl om rfl) ?_)))))
 refine wl (r_fa U36 sz3_GSearch dE rfl rfl rfl) (wl (r_ld1 (v := .int _ _) U3 rfl rfl (hlr 1 _ rfl)) (waI rfl (x_nil (e_S (c_ret ?_)))))
 refine fin1 (.inl rfl) rfl rfl ?_
 exact ⟨ret_int hyes, hB⟩
end Go.Proofs.YteenmolhopbpeaaDoor
namespace Go.Proofs.YteenmolhopbpeaaDoor
open Go.RowKit
noncomputable def twoG (l : List Ty) (fs : List Ft) (ga gb : List Nd) : Fl := if ¬ (graphF l fs ga).1 = 0 then graphF l fs ga else withinF l fs gb
theorem two_hier {l : List Ty} {fs : List Ft} {ga gb : List Nd} (h : ¬ (hierFault l fs).1 = 0) : twoG l fs ga gb = ((hierFault l fs).1, (hierFault l fs).2) := by
  unfold twoG; rw [gf_hier h, if_pos h]
theorem two_one {l : List Ty} {fs : List Ft} {ga gb : List Nd} (h : (hierFault l fs).1 = 0) (h1 : ¬ (withinF l fs ga).1 = 0) : twoG l fs ga gb = ((withinF l fs ga).1, (withinF l fs ga).2) := by
  unfold twoG; rw [gf_in h, if_pos h1]
theorem two_two {l : List Ty} {fs : List Ft} {ga gb : List Nd} (h : (hierFault l fs).1 = 0) (h1 : (withinF l fs ga).1 = 0) : twoG l fs ga gb = ((withinF l fs gb).1, (withinF l fs gb).2) := by
  unfold twoG; rw [gf_in h, if_neg (fun k => k h1)]
theorem two_gv {l : List Ty} {fs : List Ft} {ga gb : List Nd} (h : (twoG l fs ga gb).1 = 0) : (GV l fs ga ∧ GV l fs gb) ∧ (graphF l fs ga).1 = 0 ∧ (graphF l fs gb).1 = 0 := by
  unfold twoG at h
  by_cases h1 : (graphF l fs ga).1 = 0
  · rw [if_neg (fun k => k h1)] at h
    have ha := gv_of h1
    have h2 : (graphF l fs gb).1 = 0 := by rw [gf_in ha.h]; exact h
    exact ⟨⟨ha, gv_of h2⟩, h1, h2⟩
  · rw [if_pos h1] at h; exact absurd h h1
theorem two_zz {l : List Ty} {fs : List Ft} {ga gb : List Nd} (h : (twoG l fs ga gb).1 = 0) : twoG l fs ga gb = (0, 0) := by
  obtain ⟨⟨_, hb⟩, h1, h2⟩ := two_gv h
  unfold twoG
  rw [if_neg (fun k => k h1), wi_zero hb.lo hb.t hb.u]
def BothR (l : List Ty) (fs : List Ft) (ga gb : List Nd) (e : Ending) (w : World) : Prop := ∃ (U D : Option Addr) (n1 k1 n2 k2 : Nat), e = .returned (.tuple #[.agg #[.slice U n1 k1, .slice D n2 k2], .agg #[.int .i64 (twoG l fs ga gb).1, .int .i64 (twoG l fs ga gb).2]]) ∧ ((twoG l fs ga gb).1 = 0 → ∃ bu bd, (U = some ⟨bu, 0, none⟩ ∧ n1 = l.length ∧ k1 = l.length ∧ D = some ⟨bd, 0, none⟩ ∧ n2 = l.length ∧ k2 = l.length) ∧ TableIn w l bu bd)
theorem both_no {l : List Ty} {fs : List Ft} {ga gb : List Nd} {w : World} {U D : Option Addr} {n1 k1 n2 k2 : Nat} (F : Fl) (hF : twoG l fs ga gb = F) (h : ¬ F.1 = 0) : BothR l fs ga gb (.returned (.tuple #[.agg #[.slice U n1 k1, .slice D n2 k2], .agg #[.int .i64 F.1, .int .i64 F.2]])) w :=
  ⟨U, D, n1, k1, n2, k2, by rw [hF], fun h2 => absurd (by rw [← hF]; exact h2) h⟩
theorem both_yes {l : List Ty} {fs : List Ft} {ga gb : List Nd} {w : World} {bu bd : Nat} (hF : twoG l fs ga gb = (0, 0)) (h : TableIn w l bu bd) : BothR l fs ga gb (.returned (.tuple #[.agg #[.slice (some ⟨bu, 0, none⟩) l.length l.length, .slice (some ⟨bd, 0, none⟩) l.length l.length], .agg #[.int .i64 0, .int .i64 0]])) w :=
  ⟨_, _, _, _, _, _, by rw [hF], fun _ => ⟨bu, bd, ⟨rfl, rfl, rfl, rfl, rfl, rfl⟩, h⟩⟩
theorem tables2_any (A : Option Addr) (c : Nat) (l : List Ty) (w : World) (hT : TypesIn w A l) (hv : VT l) (h60 : l.length ≤ 60) : Calls Tryd.prog 27 #[.slice A l.length c] w fun e w' => (∃ bu bd, e = .returned (.agg #[.slice (some ⟨bu, 0, none⟩) l.length l.length, .slice (some ⟨bd, 0, none⟩) l.length l.length]) ∧ TableIn w' l bu bd) ∧ Bel w w' :=
  (tables_any A c l w hT hv h60).mono fun _ _ ⟨bu, bd, h1, h2, h3⟩ => ⟨⟨bu, bd, h1, h2⟩, h3⟩
theorem fn12_SFind : callable Tryd.prog 12 = true := by kernel_rfl
theorem fn18 : callable Tryd.prog 18 = true := by kernel_rfl
theorem fn26 : callable Tryd.prog 26 = true := by kernel_rfl
theorem fn27_SFind : callable Tryd.prog 27 = true := by kernel_rfl
theorem fn28 : callable Tryd.prog 28 = true := by kernel_rfl
theorem sz22_SFind : (Tryd.prog.info? 22).map (·.size) = some 1 := by kernel_rfl
theorem sz25_SFind : (Tryd.prog.info? 25).map (·.size) = some 2 := by kernel_rfl
theorem sz28_SFind : (Tryd.prog.info? 28).map (·.size) = some 1 := by kernel_rfl
theorem sz30_SFind : (Tryd.prog.info? 30).map (·.size) = some 2 := by kernel_rfl
theorem sz49_SFind : (Tryd.prog.info? 49).map (·.size) = some 2 := by kernel_rfl
theorem ze28_SFind : (Tryd.prog.info? 28).map (·.zero) = some (some (.agg #[.slice none 0 0])) := by kernel_rfl
theorem ze30_SFind : (Tryd.prog.info? 30).map (·.zero) = some (some (.agg #[.int .i64 0, .int .i64 0])) := by kernel_rfl
theorem ze36_SFind : (Tryd.prog.info? 36).map (·.zero) = some (some (.agg #[.int .i64 0, .int .i64 0])) := by kernel_rfl
theorem ze49_SFind : (Tryd.prog.info? 49).map (·.zero) = some (some (.agg #[.slice none 0 0, .slice none 0 0])) := by kernel_rfl
set_option maxHeartbeats 1000000 in
theorem both_any (A B G1 G2 : Option Addr) (c d c1 c2 : Nat) (l : List Ty) (fs : List Ft) (ga gb : List Nd) (w : World) (hTab : TabIn w) (hT : TypesIn w A l) (hF : FeatsIn w B fs) (hG1 : NodesIn w G1 ga) (hG2 : NodesIn w G2 gb) : Calls Tryd.prog 14 #[.agg #[.slice A l.length c, .slice B fs.length d], .agg #[.slice G1 ga.length c1], .agg #[.slice G2 gb.length c2]] w fun e w' => BothR l fs ga gb e w' ∧ Bel w w' := by
 refine enter Tryd.func14 Tryd.ntmps14 rfl (Nat.le_of_ble_eq_true rfl) ?_
 have hB : Bel w w := Below.refl _ _
 refine c_seq (c_region ?_)
 refine wl_bx (v := .agg #[_, _]) (cs := #[_, _]) rfl rfl (fun b3 w1 hb3 hs hr => ?_)
 have lo3 := nLT (Bel.size hB) hr
 replace hB := hB.tr0 hs
 clear hs
 clear hr
 refine wl_bx (v := .agg #[_]) (cs := #[_]) rfl rfl (fun b4 w2 hb4 hs hr => ?_)
 have or_b3_b4 : b3 < b4 := nLL hb3.lt hr
 have lo4 := nLT (Bel.size hB) hr
 replace hB := hB.tr0 hs
 replace hb3 := hb3.tr0 hs
 clear hs
 clear hr
 refine wl_bx (v := .agg #[_]) (cs := #[_]) rfl rfl (fun b5 w3 hb5 hs hr => ?_)
 have or_b3_b5 : b3 < b5 := nLL hb3.lt hr
 have or_b4_b5 : b4 < b5 := nLL hb4.lt hr
 have lo5 := nLT (Bel.size hB) hr
 replace hB := hB.tr0 hs
 replace hb3 := hb3.tr0 hs
 replace hb4 := hb4.tr0 hs
 clear hs
 clear hr
 refine wl_al (cs := #[.slice none 0 0, .slice none 0 0]) ze49_SFind rfl (fun b6 w4 hb6 hs hr => ?_)
 have or_b3_b6 : b3 < b6 := nLL hb3.lt hr
 have or_b4_b6 : b4 < b6 := nLL hb4.lt hr
 have or_b5_b6 : b5 < b6 := nLL hb5.lt hr
 have lo6 := nLT (Bel.size hB) hr
 replace hB := hB.tr0 hs
 replace hb3 := hb3.tr0 hs
 replace hb4 := hb4.tr0 hs
 replace hb5 := hb5.tr0 hs
 clear hs
 clear hr
 refine wl_al (cs := #[.int .i64 0, .int .i64 0]) ze30_SFind rfl (fun b7 w5 hb7 hs hr => ?_)
 have or_b3_b7 : b3 < b7 := nLL hb3.lt hr
 have or_b4_b7 : b4 < b7 := nLL hb4.lt hr
 have or_b5_b7 : b5 < b7 := nLL hb5.lt hr
 have or_b6_b7 : b6 < b7 := nLL hb6.lt hr
 have lo7 := nLT (Bel.size hB) hr
 replace hB := hB.tr0 hs
 replace hb3 := hb3.tr0 hs
 replace hb4 := hb4.tr0 hs
 replace hb5 := hb5.tr0 hs
 replace hb6 := hb6.tr0 hs
 clear hs
 clear hr
 refine x_nil (e_S (c_seq (c_seq (c_region (wl (r_ldS U25 rfl rfl hb3.range0 sz25_SFind) ?_)))))
 refine wl_cl fn26 (validate_any A B c d l fs _ (hTab.mono hB) (hT.mono hB) (hF.mono hB)) rfl (fun e' w6 hr => ?_)
 obtain ⟨rfl, hs⟩ := hr
 replace hs := Same.of_bel hs
 replace hB := hB.tr0 hs
 replace hb3 := hb3.tr0 hs
 replace hb4 := hb4.tr0 hs
 replace hb5 := hb5.tr0 hs
 replace hb6 := hb6.tr0 hs
 replace hb7 := hb7.tr0 hs
 clear hs
 refine ⟨_, rfl, ?_⟩
 refine wl_al (cs := #[.int .i64 0, .int .i64 0]) ze30_SFind rfl (fun b8 w7 hb8 hs hr => ?_)
 have or_b3_b8 : b3 < b8 := nLL hb3.lt hr
 have or_b4_b8 : b4 < b8 := nLL hb4.lt hr
 have or_b5_b8 : b5 < b8 := nLL hb5.lt hr
 have or_b6_b8 : b6 < b8 := nLL hb6.lt hr
 have or_b7_b8 : b7 < b8 := nLL hb7.lt hr
 have lo8 := nLT (Bel.size hB) hr
 replace hB := hB.tr0 hs
 replace hb3 := hb3.tr0 hs
 replace hb4 := hb4.tr0 hs
 replace hb5 := hb5.tr0 hs
 replace hb6 := hb6.tr0 hs
 replace hb7 := hb7.tr0 hs
 clear hs
 clear hr
 refine wl_stW hb8 rfl rfl sz30_SFind rfl oneA (fun w8 hq hs => ?_)
 replace hB := hB.tr1 hs lo8
 replace hb3 := hb3.tr1 hs om
 replace hb4 := hb4.tr1 hs om
 replace hb5 := hb5.tr1 hs om
 replace hb6 := hb6.tr1 hs om
 replace hb7 := hb7.tr1 hs om
 clear hs
 replace hb8 := hq
 refine x_nil (e_S (c_seq (c_region (wl (r_fa U30 sz3_GSearch dE rfl rfl rfl) (wl (r_ld1 (v := .int _ _) U3 rfl rfl (hb8.cell rfl)) ?_)))))
 refine wl (r_neq rfl rfl) (x_nil (e_S ?_))
 refine c_ifd rfl (fun c17 => ?_) (fun c17 => ?_)
 ·
  refine c_seq ?_
  refine c_all #[false, false, false, false] kR (by rfl) (fun w9 hs => ?_)
  replace hB := hB.tr0 hs
  replace hb3 := hb3.tr0 hs
  replace hb4 := hb4.tr0 hs
  replace hb5 := hb5.tr0 hs
  replace hb6 := hb6.tr0 hs
  replace hb7 := hb7.tr0 hs
  replace hb8 := hb8.tr0 hs
  clear hs
  refine a_step [0, 1] kR rfl ⟨fun o hoq => ?_, fun o hoq => ?_, trivial⟩
  ·
   obtain rfl := sI hoq
   refine wl (r_bd (vs := #[]) (cs := #[.slice none 0 0, .slice none 0 0]) (by simp) kR) (x_nil (e_A (listed' := #[true, false, false, false]) (by rfl) ?_))
   refine a_step [1, 2] kR rfl ⟨fun o hoq => ?_, fun o hoq => ?_, trivial⟩
   ·
    obtain rfl := sI hoq
    refine wl (r_ldS U30 rfl rfl hb8.range0 sz30_SFind) (x_nil (e_A (listed' := #[true, true, false, false]) (by rfl) ?_))
    refine a_step [2] kR rfl ⟨fun o hoq => ?_, trivial⟩
    obtain rfl := sI hoq
    refine wl_stW hb6 rfl rfl sz49_SFind rfl oneA (fun w10 hq hs => ?_)
    replace hB := hB.tr1 hs lo6
    replace hb3 := hb3.tr1 hs om
    replace hb4 := hb4.tr1 hs om
    replace hb5 := hb5.tr1 hs om
    replace hb7 := hb7.tr1 hs om
    replace hb8 := hb8.tr1 hs om
    clear hs
    replace hb6 := hq
    refine x_nil (e_A (listed' := #[true, true, true, false]) (by rfl) ?_)
    refine a_step [3] kR rfl ⟨fun o hoq => ?_, trivial⟩
    obtain rfl := sI hoq
    refine wl_stW hb7 rfl rfl sz30_SFind rfl oneA (fun w11 hq hs => ?_)
    replace hB := hB.tr1 hs lo7
    replace hb3 := hb3.tr1 hs om
    replace hb4 := hb4.tr1 hs om
    replace hb5 := hb5.tr1 hs om
    replace hb6 := hb6.tr1 hs om
    replace hb8 := hb8.tr1 hs om
    clear hs
    replace hb7 := hq
    refine x_nil (e_A (listed' := #[true, true, true, true]) (by rfl) (a_end kR (e_S (c_ret (e_Sr ?_)))))
    refine fin2 (.inl rfl) rfl (rr_cell U49 rfl rfl hb6.range0 sz49_SFind) (rr_cell U30 rfl rfl hb7.range0 sz30_SFind) ?_
    exact ⟨both_no (hierFault l fs) (two_hier c17) c17, hB⟩
   obtain rfl := sI hoq
   refine wl_stW hb6 rfl rfl sz49_SFind rfl oneA (fun w12 hq hs => ?_)
   replace hB := hB.tr1 hs lo6
   replace hb3 := hb3.tr1 hs om
   replace hb4 := hb4.tr1 hs om
   replace hb5 := hb5.tr1 hs om
   replace hb7 := hb7.tr1 hs om
   replace hb8 := hb8.tr1 hs om
   clear hs
   replace hb6 := hq
   refine x_nil (e_A (listed' := #[true, false, true, false]) (by rfl) ?_)
   refine a_step [1] kR rfl ⟨fun o hoq => ?_, trivial⟩
   obtain rfl := sI hoq
   refine wl (r_ldS U30 rfl rfl hb8.range0 sz30_SFind) (x_nil (e_A (listed' := #[true, true, true, false]) (by rfl) ?_))
   refine a_step [3] kR rfl ⟨fun o hoq => ?_, trivial⟩
   obtain rfl := sI hoq
   refine wl_stW hb7 rfl rfl sz30_SFind rfl oneA (fun w13 hq hs => ?_)
   replace hB := hB.tr1 hs lo7
   replace hb3 := hb3.tr1 hs om
   replace hb4 := hb4.tr1 hs om
   replace hb5 := hb5.tr1 hs om
   replace hb6 := hb6.tr1 hs om
   replace hb8 := hb8.tr1 hs om
   clear hs
   replace hb7 := hq
   refine x_nil (e_A (listed' := #[true, true, true, true]) (by rfl) (a_end kR (e_S (c_ret (e_Sr ?_)))))
   refine fin2 (.inl rfl) rfl (rr_cell U49 rfl rfl hb6.range0 sz49_SFind) (rr_cell U30 rfl rfl hb7.range0 sz30_SFind) ?_
   exact ⟨both_no (hierFault l fs) (two_hier c17) c17, hB⟩
  obtain rfl := sI hoq
  refine wl (r_ldS U30 rfl rfl hb8.range0 sz30_SFind) (x_nil (e_A (listed' := #[false, true, false, false]) (by rfl) ?_))
  refine a_step [0] kR rfl ⟨fun o hoq => ?_, trivial⟩
  obtain rfl := sI hoq
  refine wl (r_bd (vs := #[]) (cs := #[.slice none 0 0, .slice none 0 0]) (by simp) kR) (x_nil (e_A (listed' := #[true, true, false, false]) (by rfl) ?_))
  refine a_step [2] kR rfl ⟨fun o hoq => ?_, trivial⟩
  obtain rfl := sI hoq
  refine wl_stW hb6 rfl rfl sz49_SFind rfl oneA (fun w14 hq hs => ?_)
  replace hB := hB.tr1 hs lo6
  replace hb3 := hb3.tr1 hs om
  replace hb4 := hb4.tr1 hs om
  replace hb5 := hb5.tr1 hs om
  replace hb7 := hb7.tr1 hs om
  replace hb8 := hb8.tr1 hs om
  clear hs
  replace hb6 := hq
  refine x_nil (e_A (listed' := #[true, true, true, false]) (by rfl) ?_)
  refine a_step [3] kR rfl ⟨fun o hoq => ?_, trivial⟩
  obtain rfl := sI hoq
  refine wl_stW hb7 rfl rfl sz30_SFind rfl oneA (fun w15 hq hs => ?_)
  replace hB := hB.tr1 hs lo7
  replace hb3 := hb3.tr1 hs om
  replace hb4 := hb4.tr1 hs om
  replace hb5 := hb5.tr1 hs om
  replace hb6 := hb6.tr1 hs om
  replace hb8 := hb8.tr1 hs om
  clear hs
  replace hb7 := hq
  refine x_nil (e_A (listed' := #[true, true, true, true]) (by rfl) (a_end kR (e_S (c_ret (e_Sr ?_)))))
  refine fin2 (.inl rfl) rfl (rr_cell U49 rfl rfl hb6.range0 sz49_SFind) (rr_cell U30 rfl rfl hb7.range0 sz30_SFind) ?_
  exact ⟨both_no (hierFault l fs) (two_hier c17) c17, hB⟩
 have h0 := Decidable.not_not.1 c17
 have hS := sound_of h0
 have hfo := fok_of h0
 refine c_skip (e_S (c_seq (c_region (wl (r_fa U25 sz22_SFind dE rfl rfl rfl) (wl (r_ld1 (v := .slice _ _ _) U22 rfl rfl (hb3.cell rfl)) ?_)))))
 refine wl_cl fn27_SFind (tables2_any A c l _ (hT.mono hB) hS.vt hS.le) rfl (fun e' w16 hr => ?_)
 obtain ⟨⟨bu, bd, rfl, ⟨hbu, hbd⟩⟩, hs⟩ := hr
 replace hs := Same.of_bel hs
 replace hB := hB.tr0 hs
 replace hb3 := hb3.tr0 hs
 replace hb4 := hb4.tr0 hs
 replace hb5 := hb5.tr0 hs
 replace hb6 := hb6.tr0 hs
 replace hb7 := hb7.tr0 hs
 replace hb8 := hb8.tr0 hs
 clear hs
 have h6u : b6 ≠ bu := fun h => absurd (blk_type (h ▸ hb6) hbu) dE
 have h6d : b6 ≠ bd := fun h => absurd (blk_type (h ▸ hb6) hbd) dE
 have h7u : b7 ≠ bu := fun h => absurd (blk_type (h ▸ hb7) hbu) dE
 have h7d : b7 ≠ bd := fun h => absurd (blk_type (h ▸ hb7) hbd) dE
 refine ⟨_, rfl, ?_⟩
 refine wl_al (cs := #[.slice none 0 0, .slice none 0 0]) ze49_SFind rfl (fun b9 w17 hb9 hs hr => ?_)
 have or_b3_b9 : b3 < b9 := nLL hb3.lt hr
 have or_b4_b9 : b4 < b9 := nLL hb4.lt hr
 have or_b5_b9 : b5 < b9 := nLL hb5.lt hr
 have or_b6_b9 : b6 < b9 := nLL hb6.lt hr
 have or_b7_b9 : b7 < b9 := nLL hb7.lt hr
 have or_b8_b9 : b8 < b9 := nLL hb8.lt hr
 have or_bu_b9 : bu < b9 := nLL hbu.lt hr
 have or_bd_b9 : bd < b9 := nLL hbd.lt hr
 have lo9 := nLT (Bel.size hB) hr
 replace hB := hB.tr0 hs
 replace hb3 := hb3.tr0 hs
 replace hb4 := hb4.tr0 hs
 replace hb5 := hb5.tr0 hs
 replace hb6 := hb6.tr0 hs
 replace hb7 := hb7.tr0 hs
 replace hb8 := hb8.tr0 hs
 replace hbu := hbu.tr0 hs
 replace hbd := hbd.tr0 hs
 clear hs
 clear hr
 refine wl_stW hb9 rfl rfl sz49_SFind rfl oneA (fun w18 hq hs => ?_)
 replace hB := hB.tr1 hs lo9
 replace hb3 := hb3.tr1 hs om
 replace hb4 := hb4.tr1 hs om
 replace hb5 := hb5.tr1 hs om
 replace hb6 := hb6.tr1 hs om
 replace hb7 := hb7.tr1 hs om
 replace hb8 := hb8.tr1 hs om
 replace hbu := hbu.tr1 hs om
 replace hbd := hbd.tr1 hs om
 clear hs
 replace hb9 := hq
 refine x_nil (e_S (c_seq (c_seq (c_region (wl (r_ldS U28 rfl rfl hb4.range0 sz28_SFind) ?_)))))
 refine wl (r_ldS U28 rfl rfl hb5.range0 sz28_SFind) ?_
 refine wl_bs (cs := #[_, _]) [(0, .agg _), (1, .agg _)] rfl Tryd.underlying73 sz28_SFind ze28_SFind dE dE kR rfl (fun b25 w19 hb25 hs hr => ?_)
 have or_b3_b25 : b3 < b25 := nLL hb3.lt hr
 have or_b4_b25 : b4 < b25 := nLL hb4.lt hr
 have or_b5_b25 : b5 < b25 := nLL hb5.lt hr
 have or_b6_b25 : b6 < b25 := nLL hb6.lt hr
 have or_b7_b25 : b7 < b25 := nLL hb7.lt hr
 have or_b8_b25 : b8 < b25 := nLL hb8.lt hr
 have or_bu_b25 : bu < b25 := nLL hbu.lt hr
 have or_bd_b25 : bd < b25 := nLL hbd.lt hr
 have or_b9_b25 : b9 < b25 := nLL hb9.lt hr
 have lo25 := nLT (Bel.size hB) hr
 replace hB := hB.tr0 hs
 replace hb3 := hb3.tr0 hs
 replace hb4 := hb4.tr0 hs
 replace hb5 := hb5.tr0 hs
 replace hb6 := hb6.tr0 hs
 replace hb7 := hb7.tr0 hs
 replace hb8 := hb8.tr0 hs
 replace hbu := hbu.tr0 hs
 replace hbd := hbd.tr0 hs
 replace hb9 := hb9.tr0 hs
 clear hs
 clear hr
 refine wl (r_len Tryd.underlying73 rfl) (wmI rfl (x_nil (e_S (c_block ?_))))
 refine c_loopS [11, 12, 27, 28, 29, 30, 31, 32, 33, 34, 35, 36, 37, 38, 39, 40] (fun m g w' => ∃ k : Nat, k ≤ 2 ∧ m = 2 - k ∧ g 27 = .int .i64 k ∧ Bel w w' ∧ Blk w' bu 75 (rU l.length (upN l)) ∧ Blk w' bd 75 (rU l.length (downN l)) ∧ Blk w' b3 25 #[.slice A l.length c, .slice B fs.length d] ∧ Blk w' b6 49 #[.slice none 0 0, .slice none 0 0] ∧ Blk w' b7 30 #[.int .i64 0, .int .i64 0] ∧ Blk w' b9 49 #[.slice (some ⟨bu, 0, none⟩) l.length l.length, .slice (some ⟨bd, 0, none⟩) l.length l.length] ∧ Blk w' b25 28 #[.slice G1 ga.length c1, .slice G2 gb.length c2] ∧ (1 ≤ k → (withinF l fs ga).1 = 0) ∧ (2 ≤ k → (withinF l fs gb).1 = 0)) (2) ?_ (fun m g6 w20 hI => ?_)
 ·
  exact ⟨0, Nat.zero_le _, rfl, rfl, hB, hbu, hbd, hb3, hb6, hb7, hb9, hb25, fun h => absurd h dE, fun h => absurd h dE⟩
 obtain ⟨k, hk, hm, h27, hB, hbu, hbd, hb3, hb6, hb7, hb9, hb25, hq1, hq2⟩ := hI
 refine c_know 27 (.int .i64 k) h27 nu (c_seq (c_region (wl (r_lss rfl rfl) (x_nil (e_S ?_)))))
 refine c_seq ?_
 refine c_ifd rfl (fun c28 => ?_) (fun c28 => ?_)
 ·
  have hlt : k < 2 := by omega
  obtain ⟨Gx, cx, gx, hGx, hcx, hx0, hx1⟩ : ∃ (Gx : Option Addr) (cx : Nat) (gx : List Nd), NodesIn w Gx gx ∧ (w20).cell? ⟨b25, 0 + k * 1, none⟩ = some (.slice Gx gx.length cx) ∧ (k = 0 → gx = ga) ∧ (k = 1 → gx = gb) := by
    match k, hlt with
    | 0, _ => exact ⟨G1, c1, ga, hG1, hb25.cell rfl, fun _ => rfl, fun h => by cases h⟩
    | 1, _ => exact ⟨G2, c2, gb, hG2, hb25.cell rfl, fun h => (by cases h), fun _ => rfl⟩
  have htw : ¬ (withinF l fs gx).1 = 0 → twoG l fs ga gb = ((withinF l fs gx).1, (withinF l fs gx).2) := fun h => by
    by_cases e : k = 0
    · have hx := hx0 e
      subst hx
      exact two_one h0 h
    · have hx := hx1 om
      subst hx
      exact two_two h0 (hq1 om)
  have hrg : (w20).rangeAt b25 (0 + k * 1) [.slice Gx gx.length cx] := fun j v hj => by
    match j, hj with
    | 0, hj => cases hj; exact hcx
    | _ + 1, hj => cases hj
  refine c_skip (e_S (c_seq (c_block (c_seq (c_region ?_)))))
  refine wl (r_ia (i := k) Tryd.underlying73 sz28_SFind rfl rfl om rfl) (wl (r_ldS U28 rfl rfl hrg sz28_SFind) ?_)
  refine wl_al (cs := #[.slice none 0 0]) ze28_SFind rfl (fun b11 w21 hb11 hs hr => ?_)
  have or_b3_b11 : b3 < b11 := nLL hb3.lt hr
  have or_b6_b11 : b6 < b11 := nLL hb6.lt hr
  have or_b7_b11 : b7 < b11 := nLL hb7.lt hr
  have or_bu_b11 : bu < b11 := nLL hbu.lt hr
  have or_bd_b11 : bd < b11 := nLL hbd.lt hr
  have or_b9_b11 : b9 < b11 := nLL hb9.lt hr
  have or_b25_b11 : b25 < b11 := nLL hb25.lt hr
  have lo11 := nLT (Bel.size hB) hr
  replace hB := hB.tr0 hs
  replace hb3 := hb3.tr0 hs
  replace hb6 := hb6.tr0 hs
  replace hb7 := hb7.tr0 hs
  replace hbu := hbu.tr0 hs
  replace hbd := hbd.tr0 hs
  replace hb9 := hb9.tr0 hs
  replace hb25 := hb25.tr0 hs
  clear hs
  clear hr
  refine wl_stW hb11 rfl rfl sz28_SFind rfl oneA (fun w22 hq hs => ?_)
  replace hB := hB.tr1 hs lo11
  replace hb3 := hb3.tr1 hs om
  replace hb6 := hb6.tr1 hs om
  replace hb7 := hb7.tr1 hs om
  replace hbu := hbu.tr1 hs om
  replace hbd := hbd.tr1 hs om
  replace hb9 := hb9.tr1 hs om
  replace hb25 := hb25.tr1 hs om
  clear hs
  replace hb11 := hq
  refine x_nil (e_S (c_seq (c_region (wl (r_ldS U25 rfl rfl hb3.range0 sz25_SFind) (wl (r_ldS U49 rfl rfl hb9.range0 sz49_SFind) ?_)))))
  refine wl (r_ldS U28 rfl rfl hb11.range0 sz28_SFind) ?_
  refine wl_cl fn28 (within_any A B Gx c d cx bu bd l fs gx _ ⟨hbu, hbd⟩ hS.le (hF.mono hB) (hGx.mono hB) hfo) rfl (fun e' w23 hr => ?_)
  obtain ⟨rfl, hs⟩ := hr
  replace hs := Same.of_bel hs
  replace hB := hB.tr0 hs
  replace hb3 := hb3.tr0 hs
  replace hb6 := hb6.tr0 hs
  replace hb7 := hb7.tr0 hs
  replace hbu := hbu.tr0 hs
  replace hbd := hbd.tr0 hs
  replace hb9 := hb9.tr0 hs
  replace hb25 := hb25.tr0 hs
  replace hb11 := hb11.tr0 hs
  clear hs
  refine ⟨_, rfl, ?_⟩
  refine wl_al (cs := #[.int .i64 0, .int .i64 0]) ze30_SFind rfl (fun b12 w24 hb12 hs hr => ?_)
  have or_b3_b12 : b3 < b12 := nLL hb3.lt hr
  have or_b6_b12 : b6 < b12 := nLL hb6.lt hr
  have or_b7_b12 : b7 < b12 := nLL hb7.lt hr
  have or_bu_b12 : bu < b12 := nLL hbu.lt hr
  have or_bd_b12 : bd < b12 := nLL hbd.lt hr
  have or_b9_b12 : b9 < b12 := nLL hb9.lt hr
  have or_b25_b12 : b25 < b12 := nLL hb25.lt hr
  have or_b11_b12 : b11 < b12 := nLL hb11.lt hr
  have lo12 := nLT (Bel.size hB) hr
  replace hB := hB.tr0 hs
  replace hb3 := hb3.tr0 hs
  replace hb6 := hb6.tr0 hs
  replace hb7 := hb7.tr0 hs
  replace hbu := hbu.tr0 hs
  replace hbd := hbd.tr0 hs
  replace hb9 := hb9.tr0 hs
  replace hb25 := hb25.tr0 hs
  replace hb11 := hb11.tr0 hs
  clear hs
  clear hr
  refine wl_stW hb12 rfl rfl sz30_SFind rfl oneA (fun w25 hq hs => ?_)
  replace hB := hB.tr1 hs lo12
  replace hb3 := hb3.tr1 hs om
  replace hb6 := hb6.tr1 hs om
  replace hb7 := hb7.tr1 hs om
  replace hbu := hbu.tr1 hs om
  replace hbd := hbd.tr1 hs om
  replace hb9 := hb9.tr1 hs om
  replace hb25 := hb25.tr1 hs om
  replace hb11 := hb11.tr1 hs om
  clear hs
  replace hb12 := hq
  refine x_nil (e_S (c_seq (c_region (wl (r_fa U30 sz3_GSearch dE rfl rfl rfl) (wl (r_ld1 (v := .int _ _) U3 rfl rfl (hb12.cell rfl)) ?_)))))
  refine wl (r_neq rfl rfl) (x_nil (e_S ?_))
  refine c_ifd rfl (fun c37 => ?_) (fun c37 => ?_)
  ·
   refine c_seq ?_
   refine c_all #[false, false, false, false] kR (by rfl) (fun w26 hs => ?_)
   replace hB := hB.tr0 hs
   replace hb3 := hb3.tr0 hs
   replace hb6 := hb6.tr0 hs
   replace hb7 := hb7.tr0 hs
   replace hbu := hbu.tr0 hs
   replace hbd := hbd.tr0 hs
   replace hb9 := hb9.tr0 hs
   replace hb25 := hb25.tr0 hs
   replace hb11 := hb11.tr0 hs
   replace hb12 := hb12.tr0 hs
   clear hs
   refine a_step [0, 1] kR rfl ⟨fun o hoq => ?_, fun o hoq => ?_, trivial⟩
   ·
    obtain rfl := sI hoq
    refine wl (r_ldS U49 rfl rfl hb9.range0 sz49_SFind) (x_nil (e_A (listed' := #[true, false, false, false]) (by rfl) ?_))
    refine a_step [1, 2] kR rfl ⟨fun o hoq => ?_, fun o hoq => ?_, trivial⟩
    ·
     obtain rfl := sI hoq
     refine wl (r_ldS U30 rfl rfl hb12.range0 sz30_SFind) (x_nil (e_A (listed' := #[true, true, false, false]) (by rfl) ?_))
     refine a_step [2] kR rfl ⟨fun o hoq => ?_, trivial⟩
     obtain rfl := sI hoq
     refine wl_stW hb6 rfl rfl sz49_SFind rfl oneA (fun w27 hq hs => ?_)
     replace hB := hB.tr1 hs lo6
     replace hb3 := hb3.tr1 hs om
     replace hb7 := hb7.tr1 hs om
     replace hbu := hbu.tr1 hs om
     replace hbd := hbd.tr1 hs om
     replace hb9 := hb9.tr1 hs om
     replace hb25 := hb25.tr1 hs om
     replace hb11 := hb11.tr1 hs om
     replace hb12 := hb12.tr1 hs om
     clear hs
     replace hb6 := hq
     refine x_nil (e_A (listed' := #[true, true, true, false]) (by rfl) ?_)
     refine a_step [3] kR rfl ⟨fun o hoq => ?_, trivial⟩
     obtain rfl := sI hoq
     refine wl_stW hb7 rfl rfl sz30_SFind rfl oneA (fun w28 hq hs => ?_)
     replace hB := hB.tr1 hs lo7
     replace hb3 := hb3.tr1 hs om
     replace hb6 := hb6.tr1 hs om
     replace hbu := hbu.tr1 hs om
     replace hbd := hbd.tr1 hs om
     replace hb9 := hb9.tr1 hs om
     replace hb25 := hb25.tr1 hs om
     replace hb11 := hb11.tr1 hs om
     replace hb12 := hb12.tr1 hs om
     clear hs
     replace hb7 := hq
     refine x_nil (e_A (listed' := #[true, true, true, true]) (by rfl) (a_end kR (e_S (c_ret (e_Br ?_)))))
     refine e_Sr (e_LSr (e_Br (e_Sr (fin2 (.inl rfl) rfl (rr_cell U49 rfl rfl hb6.range0 sz49_SFind) (rr_cell U30 rfl rfl hb7.range0 sz30_SFind) ?_))))
     exact ⟨both_no (withinF l fs gx) (htw c37) c37, hB⟩
    obtain rfl := sI hoq
    refine wl_stW hb6 rfl rfl sz49_SFind rfl oneA (fun w29 hq hs => ?_)
    replace hB := hB.tr1 hs lo6
    replace hb3 := hb3.tr1 hs om
    replace hb7 := hb7.tr1 hs om
    replace hbu := hbu.tr1 hs om
    replace hbd := hbd.tr1 hs om
    replace hb9 := hb9.tr1 hs om
    replace hb25 := hb25.tr1 hs om
    replace hb11 := hb11.tr1 hs om
    replace hb12 := hb12.tr1 hs om
    clear hs
    replace hb6 := hq
    refine x_nil (e_A (listed' := #[true, false, true, false]) (by rfl) ?_)
    refine a_step [1] kR rfl ⟨fun o hoq => ?_, trivial⟩
    obtain rfl := sI hoq
    refine wl (r_ldS U30 rfl rfl hb12.range0 sz30_SFind) (x_nil (e_A (listed' := #[true, true, true, false]) (by rfl) ?_))
    refine a_step [3] kR rfl ⟨fun o hoq => ?_, trivial⟩
    obtain rfl := sI hoq
    refine wl_stW hb7 rfl rfl sz30_SFind rfl oneA (fun w30 hq hs => ?_)
    replace hB := hB.tr1 hs lo7
    replace hb3 := hb3.tr1 hs om
    replace hb6 := hb6.tr1 hs om
    replace hbu := hbu.tr1 hs om
    replace hbd := hbd.tr1 hs om
    replace hb9 := hb9.tr1 hs om
    replace hb25 := hb25.tr1 hs om
    replace hb11 := hb11.tr1 hs om
    replace hb12 := hb12.tr1 hs om
    clear hs
    replace hb7 := hq
    refine x_nil (e_A (listed' := #[true, true, true, true]) (by rfl) (a_end kR (e_S (c_ret (e_Br ?_)))))
    refine e_Sr (e_LSr (e_Br (e_Sr (fin2 (.inl rfl) rfl (rr_cell U49 rfl rfl hb6.range0 sz49_SFind) (rr_cell U30 rfl rfl hb7.range0 sz30_SFind) ?_))))
    exact ⟨both_no (withinF l fs gx) (htw c37) c37, hB⟩
   obtain rfl := sI hoq
   refine wl (r_ldS U30 rfl rfl hb12.range0 sz30_SFind) (x_nil (e_A (listed' := #[false, true, false, false]) (by rfl) ?_))
   refine a_step [0] kR rfl ⟨fun o hoq => ?_, trivial⟩
   obtain rfl := sI hoq
   refine wl (r_ldS U49 rfl rfl hb9.range0 sz49_SFind) (x_nil (e_A (listed' := #[true, true, false, false]) (by rfl) ?_))
   refine a_step [2] kR rfl ⟨fun o hoq => ?_, trivial⟩
   obtain rfl := sI hoq
   refine wl_stW hb6 rfl rfl sz49_SFind rfl oneA (fun w31 hq hs => ?_)
   replace hB := hB.tr1 hs lo6
   replace hb3 := hb3.tr1 hs om
   replace hb7 := hb7.tr1 hs om
   replace hbu := hbu.tr1 hs om
   replace hbd := hbd.tr1 hs om
   replace hb9 := hb9.tr1 hs om
   replace hb25 := hb25.tr1 hs om
   replace hb11 := hb11.tr1 hs om
   replace hb12 := hb12.tr1 hs om
   clear hs
   replace hb6 := hq
   refine x_nil (e_A (listed' := #[true, true, true, false]) (by rfl) ?_)
   refine a_step [3] kR rfl ⟨fun o hoq => ?_, trivial⟩
   obtain rfl := sI hoq
   refine wl_stW hb7 rfl rfl sz30_SFind rfl oneA (fun w32 hq hs => ?_)
   replace hB := hB.tr1 hs lo7
   replace hb3 := hb3.tr1 hs om
   replace hb6 := hb6.tr1 hs om
   replace hbu := hbu.tr1 hs om
   replace hbd := hbd.tr1 hs om
   replace hb9 := hb9.tr1 hs om
   replace hb25 := hb25.tr1 hs om
   replace hb11 := hb11.tr1 hs om
   replace hb12 := hb12.tr1 hs om
   clear hs
   replace hb7 := hq
   refine x_nil (e_A (listed' := #[true, true, true, true]) (by rfl) (a_end kR (e_S (c_ret (e_Br ?_)))))
   refine e_Sr (e_LSr (e_Br (e_Sr (fin2 (.inl rfl) rfl (rr_cell U49 rfl rfl hb6.range0 sz49_SFind) (rr_cell U30 rfl rfl hb7.range0 sz30_SFind) ?_))))
   exact ⟨both_no (withinF l fs gx) (htw c37) c37, hB⟩
  refine c_skip (e_B (e_S (c_region (wl (r_add rfl rfl rfl om) (wmI rfl ?_)))))
  refine x_nil (e_LS (2 - (k + 1)) om agA ?_)
  exact ⟨k + 1, by omega, rfl, rfl, hB, hbu, hbd, hb3, hb6, hb7, hb9, hb25, (fun h => by
    by_cases e : k = 0
    · rw [hx0 e] at c37; exact Decidable.not_not.1 c37
    · exact hq1 om), fun h => by
    rw [hx1 om] at c37; exact Decidable.not_not.1 c37⟩
 have hke : k = 2 := by omega
 have hz : twoG l fs ga gb = (0, 0) := by
   rw [two_two h0 (hq1 om)]
   have h2 := hq2 om
   have h3 : (graphF l fs gb).1 = 0 := by rw [gf_in h0]; exact h2
   have hgb := gv_of h3
   rw [wi_zero hgb.lo hgb.t hgb.u]
 refine c_exit (e_Sx (e_LSx (e_Bx (e_S (c_seq ?_)))))
 refine c_region (wl (r_ldS U49 rfl rfl hb9.range0 sz49_SFind) (wl (r_bd (vs := #[]) (cs := #[.int .i64 0, .int .i64 0]) (by simp) kR) ?_))
 refine wl_stW hb6 rfl rfl sz49_SFind rfl oneA (fun w33 hq hs => ?_)
 replace hB := hB.tr1 hs lo6
 replace hb3 := hb3.tr1 hs om
 replace hb7 := hb7.tr1 hs om
 replace hbu := hbu.tr1 hs om
 replace hbd := hbd.tr1 hs om
 replace hb9 := hb9.tr1 hs om
 replace hb25 := hb25.tr1 hs om
 clear hs
 replace hb6 := hq
 refine wl_stW hb7 rfl rfl sz30_SFind rfl oneA (fun w34 hq hs => ?_)
 replace hB := hB.tr1 hs lo7
 replace hb3 := hb3.tr1 hs om
 replace hb6 := hb6.tr1 hs om
 replace hbu := hbu.tr1 hs om
 replace hbd := hbd.tr1 hs om
 replace hb9 := hb9.tr1 hs om
 replace hb25 := hb25.tr1 hs om
 clear hs
 replace hb7 := hq
 refine x_nil (e_S (c_ret (fin2 (.inl rfl) rfl (rr_cell U49 rfl rfl hb6.range0 sz49_SFind) (rr_cell U30 rfl rfl hb7.range0 sz30_SFind) ?_)))
 exact ⟨both_yes hz ⟨hbu, hbd⟩, hB⟩
theorem twof_any (A B G1 G2 : Option Addr) (c d c1 c2 : Nat) (l : List Ty) (fs : List Ft) (ga gb : List Nd) (w : World) (hcl : l.length ≤ c) (hdl : fs.length ≤ d) (hT : TypesIn w A l) (hF : FeatsIn w B fs) (hG1 : NodesIn w G1 ga) (hG2 : NodesIn w G2 gb) : Calls Tryd.prog 8 #[.agg #[.slice A l.length c, .slice B fs.length d], .agg #[.slice G1 ga.length c1], .agg #[.slice G2 gb.length c2]] w fun e w' => e = .returned (.agg #[.int .i64 (twoG l fs ga gb).1, .int .i64 (twoG l fs ga gb).2]) ∧ Bel w w' := by
 refine enter Tryd.func8 Tryd.ntmps8 rfl (Nat.le_of_ble_eq_true rfl) ?_
 have hB : Bel w w := Below.refl _ _
 refine c_seq (c_region ?_)
 refine wl_bx (v := .agg #[_, _]) (cs := #[_, _]) rfl rfl (fun b3 w1 hb3 hs hr => ?_)
 have lo3 := nLT (Bel.size hB) hr
 replace hB := hB.tr0 hs
 clear hs
 clear hr
 refine wl_bx (v := .agg #[_]) (cs := #[_]) rfl rfl (fun b4 w2 hb4 hs hr => ?_)
 have or_b3_b4 : b3 < b4 := nLL hb3.lt hr
 have lo4 := nLT (Bel.size hB) hr
 replace hB := hB.tr0 hs
 replace hb3 := hb3.tr0 hs
 clear hs
 clear hr
 refine wl_bx (v := .agg #[_]) (cs := #[_]) rfl rfl (fun b5 w3 hb5 hs hr => ?_)
 have or_b3_b5 : b3 < b5 := nLL hb3.lt hr
 have or_b4_b5 : b4 < b5 := nLL hb4.lt hr
 have lo5 := nLT (Bel.size hB) hr
 replace hB := hB.tr0 hs
 replace hb3 := hb3.tr0 hs
 replace hb4 := hb4.tr0 hs
 clear hs
 clear hr
 refine wl_al (cs := #[.int .i64 0, .int .i64 0]) ze30_SFind rfl (fun b6 w4 hb6 hs hr => ?_)
 have or_b3_b6 : b3 < b6 := nLL hb3.lt hr
 have or_b4_b6 : b4 < b6 := nLL hb4.lt hr
 have or_b5_b6 : b5 < b6 := nLL hb5.lt hr
 have lo6 := nLT (Bel.size hB) hr
 replace hB := hB.tr0 hs
 replace hb3 := hb3.tr0 hs
 replace hb4 := hb4.tr0 hs
 replace hb5 := hb5.tr0 hs
 clear hs
 clear hr
 refine x_nil (e_S (c_seq (c_seq (c_region (wl (r_ldS U25 rfl rfl hb3.range0 sz25_SFind) ?_)))))
 refine wl (r_ldS U28 rfl rfl hb4.range0 sz28_SFind) ?_
 refine wl_cl fn18 (gfau_any A B G1 c d c1 l fs ga _ hcl hdl (hT.mono hB) (hF.mono hB) (hG1.mono hB)) rfl (fun e' w5 hr => ?_)
 obtain ⟨rfl, hs⟩ := hr
 replace hs := Same.of_bel hs
 replace hB := hB.tr0 hs
 replace hb3 := hb3.tr0 hs
 replace hb4 := hb4.tr0 hs
 replace hb5 := hb5.tr0 hs
 replace hb6 := hb6.tr0 hs
 clear hs
 refine ⟨_, rfl, ?_⟩
 refine wl_al (cs := #[.int .i64 0, .int .i64 0]) ze30_SFind rfl (fun b7 w6 hb7 hs hr => ?_)
 have or_b3_b7 : b3 < b7 := nLL hb3.lt hr
 have or_b4_b7 : b4 < b7 := nLL hb4.lt hr
 have or_b5_b7 : b5 < b7 := nLL hb5.lt hr
 have or_b6_b7 : b6 < b7 := nLL hb6.lt hr
 have lo7 := nLT (Bel.size hB) hr
 replace hB := hB.tr0 hs
 replace hb3 := hb3.tr0 hs
 replace hb4 := hb4.tr0 hs
 replace hb5 := hb5.tr0 hs
 replace hb6 := hb6.tr0 hs
 clear hs
 clear hr
 refine wl_stW hb7 rfl rfl sz30_SFind rfl oneA (fun w7 hq hs => ?_)
 replace hB := hB.tr1 hs lo7
 replace hb3 := hb3.tr1 hs om
 replace hb4 := hb4.tr1 hs om
 replace hb5 := hb5.tr1 hs om
 replace hb6 := hb6.tr1 hs om
 clear hs
 replace hb7 := hq
 refine x_nil (e_S (c_seq (c_region (wl (r_fa U30 sz3_GSearch dE rfl rfl rfl) (wl (r_ld1 (v := .int _ _) U3 rfl rfl (hb7.cell rfl)) ?_)))))
 refine wl (r_neq rfl rfl) (x_nil (e_S ?_))
 refine c_ifd rfl (fun c13 => ?_) (fun c13 => ?_)
 ·
  refine c_seq (c_region (wl (r_ldS U30 rfl rfl hb7.range0 sz30_SFind) ?_))
  refine wl_stW hb6 rfl rfl sz30_SFind rfl oneA (fun w8 hq hs => ?_)
  replace hB := hB.tr1 hs lo6
  replace hb3 := hb3.tr1 hs om
  replace hb4 := hb4.tr1 hs om
  replace hb5 := hb5.tr1 hs om
  replace hb7 := hb7.tr1 hs om
  clear hs
  replace hb6 := hq
  refine x_nil (e_S (c_ret (e_Sr (fin1 (.inl rfl) rfl (rr_cell U30 rfl rfl hb6.range0 sz30_SFind) ?_))))
  exact ⟨by unfold twoG; rw [if_pos c13], hB⟩
 have h0 := Decidable.not_not.1 c13
 have hgv := gv_of h0
 have e2 : twoG l fs ga gb = withinF l fs gb := by unfold twoG; rw [if_neg (fun k => k h0)]
 refine c_skip (e_S (c_seq (c_region (wl (r_ldS U25 rfl rfl hb3.range0 sz25_SFind) (wl (r_ldS U28 rfl rfl hb5.range0 sz28_SFind) ?_)))))
 refine wl_cl fn12_SFind (inh_any A B G2 c d c2 l fs gb _ (hT.mono hB) hgv.s.vt hgv.s.le (hF.mono hB) (hG2.mono hB) hgv.f) rfl (fun e' w9 hr => ?_)
 obtain ⟨rfl, hs⟩ := hr
 replace hs := Same.of_bel hs
 replace hB := hB.tr0 hs
 replace hb3 := hb3.tr0 hs
 replace hb4 := hb4.tr0 hs
 replace hb5 := hb5.tr0 hs
 replace hb6 := hb6.tr0 hs
 replace hb7 := hb7.tr0 hs
 clear hs
 refine ⟨_, rfl, ?_⟩
 refine wl_stW hb6 rfl rfl sz30_SFind rfl oneA (fun w10 hq hs => ?_)
 replace hB := hB.tr1 hs lo6
 replace hb3 := hb3.tr1 hs om
 replace hb4 := hb4.tr1 hs om
 replace hb5 := hb5.tr1 hs om
 replace hb7 := hb7.tr1 hs om
 clear hs
 replace hb6 := hq
 refine x_nil (e_S (c_ret (fin1 (.inl rfl) rfl (rr_cell U30 rfl rfl hb6.range0 sz30_SFind) ?_)))
 exact ⟨by rw [e2], hB⟩
end Go.Proofs.YteenmolhopbpeaaDoor
namespace Go.Proofs.YteenmolhopbpeaaDoor
open Go.RowKit
section mapkeys
variable {P : Program} {Q : Exit → Act → World → Prop} {n : Nat} {f : Fr} {w : World} {x y z : Operand} {t kt et ti : TypeId} {ops : Array Oper} {rest : List Oper}
def kOf (m z : Nat) : Value := .agg #[.int .i64 ((z / m : Nat) : Int), .int .i64 ((z % m : Nat) : Int)]
def kvL (m : Nat) : List Nat → Nat → List (Value × Value)
  | [], _ => []
  | z :: r, k => (kOf m z, .int .i64 (k : Int)) :: kvL m r (k + 1)
def MapN (w : World) (b m : Nat) (o : List Nat) : Prop :=
  ∃ es clock, w.heap[b]? = some (.map es clock) ∧ es.toList.map (fun e => (e.key, e.val)) = kvL m o 0
theorem MapN.lt {b m : Nat} {o : List Nat} (h : MapN w b m o) : b < w.heap.size := by obtain ⟨_, _, h, _⟩ := h; exact lt_of_heap h
theorem MapN.tr {X : List Nat} {w' : World} {b m : Nat} {o : List Nat} (h : MapN w b m o) (hs : Same X w w') (hx : b ∉ X) : MapN w' b m o := by
  obtain ⟨es, c, h, hm⟩ := h
  exact ⟨es, c, (hs.blk b (lt_of_heap h) hx).trans h, hm⟩
theorem MapN.tr0 {w' : World} {b m : Nat} {o : List Nat} (h : MapN w b m o) (hs : Same [] w w') : MapN w' b m o := h.tr hs (by simp)
theorem MapN.tr1 {c : Nat} {w' : World} {b m : Nat} {o : List Nat} (h : MapN w b m o) (hs : Same [c] w w') (hne : b ≠ c) : MapN w' b m o := h.tr hs (by simpa using hne)
theorem kvL_snoc (m z : Nat) : ∀ (o : List Nat) (k : Nat), kvL m (o ++ [z]) k = kvL m o k ++ [(kOf m z, .int .i64 ((k + o.length : Nat) : Int))]
  | [], k => rfl
  | a :: r, k => by
    simp only [List.cons_append, kvL, kvL_snoc m z r (k + 1), List.length_cons]
    rw [show k + 1 + r.length = k + (r.length + 1) by omega]
theorem run_sz {sz : Nat} (h : (P.info? t).map (·.size) = some sz) : (sizeOf t).run P w = .ok sz w := by
  cases hq : P.info? t with
  | none => rw [hq] at h; cases h
  | some i =>
    have : i.size = sz := by simpa [hq] using h
    simp [sizeOf, typeInfo, hq, this]
theorem run_eqA {a b c d' : Int} (ht : P.underlying t = some (.array 2 ti)) (hi : P.underlying ti = some (.int .i64)) (hs : (P.info? ti).map (·.size) = some 1) :
    (Op.equal t (.agg #[.int .i64 a, .int .i64 b]) (.agg #[.int .i64 c, .int .i64 d'])).run P w = .ok (decide (a = c ∧ b = d')) w := by
  have p1 : (part ti #[.int .i64 a, .int .i64 b] 0).run P w = .ok (.int .i64 a) w := run_part1 hi rfl rfl
  have p2 : (part ti #[.int .i64 c, .int .i64 d'] 0).run P w = .ok (.int .i64 c) w := run_part1 hi rfl rfl
  have p3 : (part ti #[.int .i64 a, .int .i64 b] 1).run P w = .ok (.int .i64 b) w := run_part1 hi rfl rfl
  have p4 : (part ti #[.int .i64 c, .int .i64 d'] 1).run P w = .ok (.int .i64 d') w := run_part1 hi rfl rfl
  have e1 : (Op.equalIn 9999 ti (.int .i64 a) (.int .i64 c)).run P w = .ok (a == c) w := run_equalIn_int (P := P) w 9998 ti .i64 .i64 a c hi
  have e2 : (Op.equalIn 9999 ti (.int .i64 b) (.int .i64 d')).run P w = .ok (b == d') w := run_equalIn_int (P := P) w 9998 ti .i64 .i64 b d' hi
  show (Op.equalIn (9999 + 1) t _ _).run P w = _
  rw [Op.equalIn]
  simp only [Sem.run_bind, run_underlying ht, Result.andThen_ok, run_sz hs]
  simp only [Std.Legacy.Range.forIn_eq_forIn_range', Std.Legacy.Range.size, Nat.sub_zero, Nat.add_sub_cancel, Nat.div_one, List.range'_succ, List.range'_zero, List.forIn_cons, List.forIn_nil]
  simp only [Nat.zero_mul, Nat.zero_add, Nat.one_mul, Sem.run_bind, p1, p2, Result.andThen_ok, e1]
  by_cases h1 : a = c
  · subst h1
    by_cases h2 : b = d'
    · subst h2; simp [p3, e2]
    · simp [h2, p3, p4, e2]
  · simp [h1]
theorem run_ckA {a b : Int} {em : Bool} (ht : P.underlying t = some (.array 2 ti)) (hi : P.underlying ti = some (.int .i64)) (hs : (P.info? ti).map (·.size) = some 1) :
    (Instr.checkKey em 10000 t (.agg #[.int .i64 a, .int .i64 b])).run P w = .ok () w := by
  have p1 : (part ti #[.int .i64 a, .int .i64 b] 0).run P w = .ok (.int .i64 a) w := run_part1 hi rfl rfl
  have p3 : (part ti #[.int .i64 a, .int .i64 b] 1).run P w = .ok (.int .i64 b) w := run_part1 hi rfl rfl
  have ck : ∀ (k : Nat) (v : Value), (Instr.checkKey em (k + 1) ti v).run P w = .ok () w := fun k v => by simp [Instr.checkKey, run_underlying hi]
  have ck9 := ck 9998
  show (Instr.checkKey em (9999 + 1) t _).run P w = _
  rw [Instr.checkKey]
  simp only [Sem.run_bind, run_underlying ht, Result.andThen_ok]
  simp only [Std.Legacy.Range.forIn_eq_forIn_range', Std.Legacy.Range.size, Nat.sub_zero, Nat.add_sub_cancel, Nat.div_one, List.range'_succ, List.range'_zero, List.forIn_cons, List.forIn_nil]
  simp only [Nat.zero_mul, Nat.zero_add, Nat.one_mul, Sem.run_bind, run_sz hs, p1, p3, Result.andThen_ok, ck9, Sem.run_pure]
theorem run_findNow_agg {d : TypeDesc} {cs : Array Value} {es : List MapEntry} (i : Nat) (h : es ≠ []) (hd : ∀ k, d ≠ .int k) (h1 : d ≠ .string) (h2 : d ≠ .bool) : Instr.findNow d (.agg cs) es i = none := by
  cases es with
  | nil => exact absurd rfl h
  | cons e r =>
    unfold Instr.findNow
    have : Instr.sameNow d (.agg cs) e.key = none := by unfold Instr.sameNow; split <;> simp_all
    rw [this]
theorem run_findA {m q : Nat} {b0 b1 : Nat} (ht : P.underlying kt = some (.array 2 ti)) (hi : P.underlying ti = some (.int .i64)) (hs : (P.info? ti).map (·.size) = some 1) (hq1 : q / m = b0) (hq2 : q % m = b1) (hm : 0 < m) :
    ∀ (o : List Nat) (es : List MapEntry) (i : Nat), es.map (fun e => (e.key, e.val)) = kvL m o i →
      (Instr.findAsking kt (.agg #[.int .i64 (b0 : Int), .int .i64 (b1 : Int)]) es i).run P w = .ok (if q ∈ o then some (i + o.idxOf q, .int .i64 ((i + o.idxOf q : Nat) : Int)) else none) w
  | [], es, i, h => by
    have : es = [] := by cases es <;> simp_all [kvL]
    subst this
    simp [Instr.findAsking]
  | a :: r, [], i, h => by simp [kvL] at h
  | a :: r, e :: es, i, h => by
    simp only [List.map_cons, kvL, List.cons.injEq, Prod.mk.injEq] at h
    obtain ⟨⟨hk, hv⟩, hr⟩ := h
    have ih := run_findA ht hi hs hq1 hq2 hm r es (i + 1) hr
    have he := run_eqA (P := P) (w := w) (a := (b0 : Int)) (b := (b1 : Int)) (c := ((a / m : Nat) : Int)) (d' := ((a % m : Nat) : Int)) ht hi hs
    unfold Instr.findAsking
    rw [hk]
    unfold kOf
    simp only [Sem.run_bind, he, Result.andThen_ok]
    by_cases ha : q = a
    · subst ha
      have : ((b0 : Int) = ((q / m : Nat) : Int) ∧ (b1 : Int) = ((q % m : Nat) : Int)) := by omega
      simp [this, hv]
    · have hne : ¬ ((b0 : Int) = ((a / m : Nat) : Int) ∧ (b1 : Int) = ((a % m : Nat) : Int)) := fun h2 => ha (by
        have e1 := Nat.div_add_mod q m
        have e2 := Nat.div_add_mod a m
        have h3 : q / m = a / m := by omega
        have h4 : q % m = a % m := by omega
        rw [← e1, ← e2, h3, h4])
      have ha2 : a ≠ q := fun e => ha e.symm
      have hb : (a == q) = false := by simpa using ha2
      rw [decide_eq_false hne]
      simp only [Bool.false_eq_true, if_false, ih, List.mem_cons, ha, false_or, List.idxOf_cons, hb, cond_false]
      by_cases hr2 : q ∈ r
      · simp only [hr2, if_true]
        rw [show i + 1 + r.idxOf q = i + (r.idxOf q + 1) by omega]
      · simp only [hr2, if_false]
theorem run_findKA {m q : Nat} {b0 b1 : Nat} (ht : P.underlying kt = some (.array 2 ti)) (hi : P.underlying ti = some (.int .i64)) (hs : (P.info? ti).map (·.size) = some 1) (hq1 : q / m = b0) (hq2 : q % m = b1) (hm : 0 < m) (o : List Nat) (es : List MapEntry) (h : es.map (fun e => (e.key, e.val)) = kvL m o 0) :
    (Instr.findKey kt (.agg #[.int .i64 (b0 : Int), .int .i64 (b1 : Int)]) es).run P w = .ok (if q ∈ o then some (o.idxOf q, .int .i64 ((o.idxOf q : Nat) : Int)) else none) w := by
  have hf := run_findA (w := w) ht hi hs hq1 hq2 hm o es 0 h
  simp only [Nat.zero_add] at hf
  unfold Instr.findKey
  simp only [Sem.run_bind, run_underlying ht, Result.andThen_ok]
  cases es with
  | nil =>
    have : o = [] := by cases o <;> simp_all [kvL]
    subst this
    simp [Instr.findNow]
  | cons e r =>
    rw [run_findNow_agg 0 (by simp) (by simp) (by simp) (by simp)]
    exact hf
theorem r_lkA {dst : Option Tmp} {gd : Option (Nat × Bool)} {ty : TypeId} {pos : String} {af : Array Edge} {b m q b0 b1 : Nat} {o : List Nat} (hm : MapN w b m o) (hu : P.underlying t = some (.map kt et)) (ht : P.underlying kt = some (.array 2 ti)) (hi : P.underlying ti = some (.int .i64)) (hs : (P.info? ti).map (·.size) = some 1) (hz : (P.info? et).map (·.zero) = some (some (.int .i64 0)))
    (hx : ev n f x = .map (some b)) (hy : ev n f y = .agg #[.int .i64 (b0 : Int), .int .i64 (b1 : Int)]) (hq1 : q / m = b0) (hq2 : q % m = b1) (hm0 : 0 < m) :
    RV P n f w ⟨dst, .lookup t x y true, ty, pos, af, gd⟩ (.tuple #[.int .i64 ((if q ∈ o then o.idxOf q else 0 : Nat) : Int), .bool (decide (q ∈ o))]) w := by
  obtain ⟨es, c, hh, hes⟩ := hm
  have hf := run_findKA (P := P) (w := w) ht hi hs hq1 hq2 hm0 o es.toList hes
  cases hq : P.info? et with
  | none => simp [hq] at hz
  | some i =>
    have hz' : i.zero = some (.int .i64 0) := by simpa [hq] using hz
    by_cases ho : q ∈ o
    · simp [RV, execOp, hx, hy, Instr.lookup, run_underlying hu, run_getObj hh, run_ckA ht hi hs, hf, ho]
    · simp [RV, execOp, hx, hy, Instr.lookup, run_underlying hu, run_getObj hh, run_ckA ht hi hs, hf, ho, zeroValue, typeInfo, hq, hz']
theorem wl_muA {ty : TypeId} {pos : String} {af : Array Edge} {b m q b0 b1 : Nat} {o : List Nat} (hm : MapN w b m o) (hu : P.underlying t = some (.map kt et)) (ht : P.underlying kt = some (.array 2 ti)) (hi : P.underlying ti = some (.int .i64)) (hs : (P.info? ti).map (·.size) = some 1)
    (hx : ev n f x = .map (some b)) (hy : ev n f y = .agg #[.int .i64 (b0 : Int), .int .i64 (b1 : Int)]) (hv : ev n f z = .int .i64 ((o.length : Nat) : Int)) (hq1 : q / m = b0) (hq2 : q % m = b1) (hm0 : 0 < m) (hn : ¬ q ∈ o)
    (K : ∀ w1, MapN w1 b m (o ++ [q]) → Same [b] w w1 → WL P ops Q rest n f w1) : WL P ops Q (⟨none, .mapUpdate t x y z, ty, pos, af, none⟩ :: rest) n f w := by
  obtain ⟨es, c, hh, hes⟩ := hm
  have hf := run_findKA (P := P) (w := w) ht hi hs hq1 hq2 hm0 o es.toList hes
  have hsame : ∀ es' c', Same [b] w { w with heap := w.heap.setIfInBounds b (.map es' c') } := fun es' c' =>
    ⟨rfl, rfl, rfl, by simp, fun i _ hx => by
      simp only [List.mem_singleton] at hx
      simp [Array.getElem?_setIfInBounds_ne (Ne.symm hx)]⟩
  have hnew : ∀ es' c', ({ w with heap := w.heap.setIfInBounds b (.map es' c') } : World).heap[b]? = some (.map es' c') := fun es' c' => by
    have := lt_of_heap hh
    simp [this]
  refine wls (w' := { w with heap := w.heap.setIfInBounds b (.map (es.push { key := kOf m q, val := .int .i64 ((o.length : Nat) : Int), born := c }) (c + 1)) }) ?_ (K _ ⟨_, _, hnew _ _, ?_⟩ (hsame _ _))
  · simp [RS, execOp, hx, hy, hv, Instr.mapUpdate, run_underlying hu, run_getObj hh, run_ckA ht hi hs, hf, hn, run_setObj hh, kOf, hq1, hq2]
  · rw [kvL_snoc, Nat.zero_add]; simp [hes]
theorem wl_mmA {d : Tmp} {m : Nat} {ty : TypeId} {pos : String} {af : Array Edge} (K : ∀ b w1, MapN w1 b m [] → Same [] w w1 → w.heap.size ≤ b → WL P ops Q rest n (upd f d (.map (some b))) w1) : WL P ops Q (⟨some d, .makeMap t none, ty, pos, af, none⟩ :: rest) n f w :=
  wl_mm (fun b w1 h hs hb => K b w1 (by obtain ⟨es, c, h1, h2⟩ := h; exact ⟨es, c, h1, h2⟩) hs hb)
theorem r_neA {dst : Option Tmp} {gd : Option (Nat × Bool)} {ty t' : TypeId} {pos : String} {af : Array Edge} {a b c d' : Int} (hm : P.eqGuardType P.depth t = false) (ht : P.underlying t = some (.array 2 ti)) (hi : P.underlying ti = some (.int .i64)) (hs : (P.info? ti).map (·.size) = some 1)
    (hx : ev n f x = .agg #[.int .i64 a, .int .i64 b]) (hy : ev n f y = .agg #[.int .i64 c, .int .i64 d']) : RV P n f w ⟨dst, .binOp .neq t x y t', ty, pos, af, gd⟩ (.bool (decide (¬ (a = c ∧ b = d')))) w := by
  have h1 : (Op.equalIn 10000 t (.agg #[.int .i64 a, .int .i64 b]) (.agg #[.int .i64 c, .int .i64 d'])).run P w = .ok (decide (a = c ∧ b = d')) w := run_eqA ht hi hs
  have h2 := run_eqGuard_agg (P := P) w .neq t x y #[.int .i64 a, .int .i64 b] #[.int .i64 c, .int .i64 d'] hm
  simp only [RV, execOp, hx, hy, Sem.run_bind, h2, Result.andThen_ok, run_neq_struct, h1, Sem.run_pure, decide_not]
end mapkeys
end Go.Proofs.YteenmolhopbpeaaDoor
