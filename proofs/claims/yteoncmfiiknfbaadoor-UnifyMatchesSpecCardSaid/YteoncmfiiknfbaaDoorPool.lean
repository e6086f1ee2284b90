/- What these functions of the program compute, at every world: glosswright/subsume.Both, glosswright/subsume.Find, glosswright/subsume.Subsumes, glosswright/glosswrightlaw3.twoFault. Suffixes of rows of links, and slices of such: what the walks of a pool of nodes read. No program in sight. -/
import Derived.Test.YteoncmfiiknfbaaDoorGTgt
import Derived.Test.YteoncmfiiknfbaaDoorOrd
import Derived.Test.YteoncmfiiknfbaaDoorEng4
import Derived.Test.YteoncmfiiknfbaaDoorUni
namespace Go.Proofs.YteoncmfiiknfbaaDoor
open Go.RowKit

noncomputable def twoG (l : List Ty) (fs : List Ft) (ga gb : List Nd) : Fl := if ¬ (graphF l fs ga).1 = 0 then graphF l fs ga else withinF l fs gb
theorem two_hier {l : List Ty} {fs : List Ft} {ga gb : List Nd} (h : ¬ (hierFault l fs).1 = 0) : twoG l fs ga gb = ((hierFault l fs).1, (hierFault l fs).2) := by
  unfold twoG; rw [gf_hier h, if_pos h]
theorem two_one {l : List Ty} {fs : List Ft} {ga gb : List Nd} (h : (hierFault l fs).1 = 0) (h1 : ¬ (withinF l fs ga).1 = 0) : twoG l fs ga gb = ((withinF l fs ga).1, (withinF l fs ga).2) := by
  unfold twoG; rw [gf_in h, if_pos h1]
theorem two_two {l : List Ty} {fs : List Ft} {ga gb : List Nd} (h : (hierFault l fs).1 = 0) (h1 : (withinF l fs ga).1 = 0) : twoG l fs ga gb = ((withinF l fs gb).1, (withinF l fs gb).2) := by
  unfold twoG; rw [gf_in h, if_neg (fun k => k h1)]
theorem two_gv {l : List Ty} {fs : List Ft} {ga gb : List Nd} (h : (twoG l fs ga gb).1 = 0) : (GV l fs ga ∧ GV l fs gb) ∧ (graphF l fs ga).1 = 0 ∧ (graphF l fs gb).1 = 0 := by
  unfold twoG at h
  by_cases h1 : (graphF l fs ga).1 = 0
  · rw [if_neg (fun k => k h1)] at h
    have ha := gv_of h1
    have h2 : (graphF l fs gb).1 = 0 := by rw [gf_in ha.h]; exact h
    exact ⟨⟨ha, gv_of h2⟩, h1, h2⟩
  · rw [if_pos h1] at h; exact absurd h h1
theorem two_zz {l : List Ty} {fs : List Ft} {ga gb : List Nd} (h : (twoG l fs ga gb).1 = 0) : twoG l fs ga gb = (0, 0) := by
  obtain ⟨⟨_, hb⟩, h1, h2⟩ := two_gv h
  unfold twoG
  rw [if_neg (fun k => k h1), wi_zero hb.lo hb.t hb.u]
def BothR (l : List Ty) (fs : List Ft) (ga gb : List Nd) (e : Ending) (w : World) : Prop := ∃ (U D : Option Addr) (n1 k1 n2 k2 : Nat), e = .returned (.tuple #[.agg #[.slice U n1 k1, .slice D n2 k2], .agg #[.int .i64 (twoG l fs ga gb).1, .int .i64 (twoG l fs ga gb).2]]) ∧ ((twoG l fs ga gb).1 = 0 → ∃ bu bd, (U = some ⟨bu, 0, none⟩ ∧ n1 = l.length ∧ k1 = l.length ∧ D = some ⟨bd, 0, none⟩ ∧ n2 = l.length ∧ k2 = l.length) ∧ TableIn w l bu bd)
theorem both_no {l : List Ty} {fs : List Ft} {ga gb : List Nd} {w : World} {U D : Option Addr} {n1 k1 n2 k2 : Nat} (F : Fl) (hF : twoG l fs ga gb = F) (h : ¬ F.1 = 0) : BothR l fs ga gb (.returned (.tuple #[.agg #[.slice U n1 k1, .slice D n2 k2], .agg #[.int .i64 F.1, .int .i64 F.2]])) w :=
  ⟨U, D, n1, k1, n2, k2, by rw [hF], fun h2 => absurd (by rw [← hF]; exact h2) h⟩
theorem both_yes {l : List Ty} {fs : List Ft} {ga gb : List Nd} {w : World} {bu bd : Nat} (hF : twoG l fs ga gb = (0, 0)) (h : TableIn w l bu bd) : BothR l fs ga gb (.returned (.tuple #[.agg #[.slice (some ⟨bu, 0, none⟩) l.length l.length, .slice (some ⟨bd, 0, none⟩) l.length l.length], .agg #[.int .i64 0, .int .i64 0]])) w :=
  ⟨_, _, _, _, _, _, by rw [hF], fun _ => ⟨bu, bd, ⟨rfl, rfl, rfl, rfl, rfl, rfl⟩, h⟩⟩
theorem tables2_any (A : Option Addr) (c : Nat) (l : List Ty) (w : World) (hT : TypesIn w A l) (hv : VT l) (h60 : l.length ≤ 60) : Calls Tryd.prog 25 #[.slice A l.length c] w fun e w' => (∃ bu bd, e = .returned (.agg #[.slice (some ⟨bu, 0, none⟩) l.length l.length, .slice (some ⟨bd, 0, none⟩) l.length l.length]) ∧ TableIn w' l bu bd) ∧ Bel w w' :=
  (tables_any A c l w hT hv h60).mono fun _ _ ⟨bu, bd, h1, h2, h3⟩ => ⟨⟨bu, bd, h1, h2⟩, h3⟩
theorem fn15_SFind : callable Tryd.prog 15 = true := by kernel_rfl
theorem fn24 : callable Tryd.prog 24 = true := by kernel_rfl
theorem fn25_SFind : callable Tryd.prog 25 = true := by kernel_rfl
theorem fn26 : callable Tryd.prog 26 = true := by kernel_rfl
theorem fn32 : callable Tryd.prog 32 = true := by kernel_rfl
theorem fn36 : callable Tryd.prog 36 = true := by kernel_rfl
theorem in3_SFind : (Tryd.prog.info? 3).map (fun i => (i.zero, i.size, i.bytes)) = some (some (.int .i64 0), 1, 8) := by kernel_rfl
theorem sz22_SFind : (Tryd.prog.info? 22).map (·.size) = some 1 := by kernel_rfl
theorem sz25_SFind : (Tryd.prog.info? 25).map (·.size) = some 2 := by kernel_rfl
theorem sz30_SFind : (Tryd.prog.info? 30).map (·.size) = some 2 := by kernel_rfl
theorem sz60_SFind : (Tryd.prog.info? 60).map (·.size) = some 2 := by kernel_rfl
theorem ze3_SFind : (Tryd.prog.info? 3).map (·.zero) = some (some (.int .i64 0)) := by kernel_rfl
theorem ze30_SFind : (Tryd.prog.info? 30).map (·.zero) = some (some (.agg #[.int .i64 0, .int .i64 0])) := by kernel_rfl
theorem ze60_SFind : (Tryd.prog.info? 60).map (·.zero) = some (some (.agg #[.slice none 0 0, .slice none 0 0])) := by kernel_rfl
set_option maxHeartbeats 1000000 in
theorem both_any (A B G1 G2 : Option Addr) (c d c1 c2 : Nat) (l : List Ty) (fs : List Ft) (ga gb : List Nd) (w : World) (hTab : TabIn w) (hT : TypesIn w A l) (hF : FeatsIn w B fs) (hG1 : NodesIn w G1 ga) (hG2 : NodesIn w G2 gb) : Calls Tryd.prog 36 #[.agg #[.slice A l.length c, .slice B fs.length d], .agg #[.slice G1 ga.length c1], .agg #[.slice G2 gb.length c2]] w fun e w' => BothR l fs ga gb e w' ∧ Bel w w' := by
 refine enter Tryd.func36 Tryd.ntmps36 rfl (Nat.le_of_ble_eq_true rfl) ?_
 have hB : Bel w w := Below.refl _ _
 refine c_seq (c_region ?_)
 refine wl_bx (v := .agg #[_, _]) (cs := #[_, _]) rfl rfl (fun b3 w1 hb3 hs hr => ?_)
 have lo3 := Nat.le_trans (Bel.size hB) hr
 replace hB := hB.tr0 hs
 clear hs
 clear hr
 refine wl_bx (v := .agg #[_]) (cs := #[_]) rfl rfl (fun b4 w2 hb4 hs hr => ?_)
 have or_b3_b4 : b3 < b4 := Nat.lt_of_lt_of_le hb3.lt hr
 have lo4 := Nat.le_trans (Bel.size hB) hr
 replace hB := hB.tr0 hs
 replace hb3 := hb3.tr0 hs
 clear hs
 clear hr
 refine wl_bx (v := .agg #[_]) (cs := #[_]) rfl rfl (fun b5 w3 hb5 hs hr => ?_)
 have or_b3_b5 : b3 < b5 := Nat.lt_of_lt_of_le hb3.lt hr
 have or_b4_b5 : b4 < b5 := Nat.lt_of_lt_of_le hb4.lt hr
 have lo5 := Nat.le_trans (Bel.size hB) hr
 replace hB := hB.tr0 hs
 replace hb3 := hb3.tr0 hs
 replace hb4 := hb4.tr0 hs
 clear hs
 clear hr
 refine wl_al (cs := #[.slice none 0 0, .slice none 0 0]) ze60_SFind rfl (fun b6 w4 hb6 hs hr => ?_)
 have or_b3_b6 : b3 < b6 := Nat.lt_of_lt_of_le hb3.lt hr
 have or_b4_b6 : b4 < b6 := Nat.lt_of_lt_of_le hb4.lt hr
 have or_b5_b6 : b5 < b6 := Nat.lt_of_lt_of_le hb5.lt hr
 have lo6 := Nat.le_trans (Bel.size hB) hr
 replace hB := hB.tr0 hs
 replace hb3 := hb3.tr0 hs
 replace hb4 := hb4.tr0 hs
 replace hb5 := hb5.tr0 hs
 clear hs
 clear hr
 refine wl_al (cs := #[.int .i64 0, .int .i64 0]) ze30_SFind rfl (fun b7 w5 hb7 hs hr => ?_)
 have or_b3_b7 : b3 < b7 := Nat.lt_of_lt_of_le hb3.lt hr
 have or_b4_b7 : b4 < b7 := Nat.lt_of_lt_of_le hb4.lt hr
 have or_b5_b7 : b5 < b7 := Nat.lt_of_lt_of_le hb5.lt hr
 have or_b6_b7 : b6 < b7 := Nat.lt_of_lt_of_le hb6.lt hr
 have lo7 := Nat.le_trans (Bel.size hB) hr
 replace hB := hB.tr0 hs
 replace hb3 := hb3.tr0 hs
 replace hb4 := hb4.tr0 hs
 replace hb5 := hb5.tr0 hs
 replace hb6 := hb6.tr0 hs
 clear hs
 clear hr
 refine x_nil (e_S (c_seq (c_seq (c_region (wl (r_ldS Tryd.underlying25 rfl rfl hb3.range0 sz25_SFind) ?_)))))
 refine wl_cl fn24 (validate_any A B c d l fs _ (hTab.mono hB) (hT.mono hB) (hF.mono hB)) rfl (fun e' w6 hr => ?_)
 obtain ⟨rfl, hs⟩ := hr
 replace hs := Same.of_bel hs
 replace hB := hB.tr0 hs
 replace hb3 := hb3.tr0 hs
 replace hb4 := hb4.tr0 hs
 replace hb5 := hb5.tr0 hs
 replace hb6 := hb6.tr0 hs
 replace hb7 := hb7.tr0 hs
 clear hs
 refine ⟨_, rfl, ?_⟩
 refine wl_al (cs := #[.int .i64 0, .int .i64 0]) ze30_SFind rfl (fun b8 w7 hb8 hs hr => ?_)
 have or_b3_b8 : b3 < b8 := Nat.lt_of_lt_of_le hb3.lt hr
 have or_b4_b8 : b4 < b8 := Nat.lt_of_lt_of_le hb4.lt hr
 have or_b5_b8 : b5 < b8 := Nat.lt_of_lt_of_le hb5.lt hr
 have or_b6_b8 : b6 < b8 := Nat.lt_of_lt_of_le hb6.lt hr
 have or_b7_b8 : b7 < b8 := Nat.lt_of_lt_of_le hb7.lt hr
 have lo8 := Nat.le_trans (Bel.size hB) hr
 replace hB := hB.tr0 hs
 replace hb3 := hb3.tr0 hs
 replace hb4 := hb4.tr0 hs
 replace hb5 := hb5.tr0 hs
 replace hb6 := hb6.tr0 hs
 replace hb7 := hb7.tr0 hs
 clear hs
 clear hr
 refine wl_stW hb8 rfl rfl sz30_SFind rfl oneA (fun w8 hq hs => ?_)
 replace hB := hB.tr1 hs lo8
 replace hb3 := hb3.tr1 hs (by omega)
 replace hb4 := hb4.tr1 hs (by omega)
 replace hb5 := hb5.tr1 hs (by omega)
 replace hb6 := hb6.tr1 hs (by omega)
 replace hb7 := hb7.tr1 hs (by omega)
 clear hs
 replace hb8 := hq
 refine x_nil (e_S (c_seq (c_region (wl (r_fa Tryd.underlying30 sz3_GSearch (by decide) rfl rfl rfl) (wl (r_ld1 (v := .int _ _) Tryd.underlying3 rfl rfl (hb8.cell rfl)) ?_)))))
 refine wl (r_neq rfl rfl) (x_nil (e_S ?_))
 refine c_ifd rfl (fun c17 => ?_) (fun c17 => ?_)
 ·
  refine c_seq ?_
  refine c_all #[false, false, false, false] (by kernel_rfl) (by rfl) (fun w9 hs => ?_)
  replace hB := hB.tr0 hs
  replace hb3 := hb3.tr0 hs
  replace hb4 := hb4.tr0 hs
  replace hb5 := hb5.tr0 hs
  replace hb6 := hb6.tr0 hs
  replace hb7 := hb7.tr0 hs
  replace hb8 := hb8.tr0 hs
  clear hs
  refine a_step [0, 1] (by kernel_rfl) rfl ⟨fun o hoq => ?_, fun o hoq => ?_, trivial⟩
  ·
   obtain rfl : _ = o := Option.some.inj hoq
   refine wl (r_bd (vs := #[]) (cs := #[.slice none 0 0, .slice none 0 0]) (by simp) (by kernel_rfl)) (x_nil (e_A (listed' := #[true, false, false, false]) (by rfl) ?_))
   refine a_step [1, 2] (by kernel_rfl) rfl ⟨fun o hoq => ?_, fun o hoq => ?_, trivial⟩
   ·
    obtain rfl : _ = o := Option.some.inj hoq
    refine wl (r_ldS Tryd.underlying30 rfl rfl hb8.range0 sz30_SFind) (x_nil (e_A (listed' := #[true, true, false, false]) (by rfl) ?_))
    refine a_step [2] (by kernel_rfl) rfl ⟨fun o hoq => ?_, trivial⟩
    obtain rfl : _ = o := Option.some.inj hoq
    refine wl_stW hb6 rfl rfl sz60_SFind rfl oneA (fun w10 hq hs => ?_)
    replace hB := hB.tr1 hs lo6
    replace hb3 := hb3.tr1 hs (by omega)
    replace hb4 := hb4.tr1 hs (by omega)
    replace hb5 := hb5.tr1 hs (by omega)
    replace hb7 := hb7.tr1 hs (by omega)
    replace hb8 := hb8.tr1 hs (by omega)
    clear hs
    replace hb6 := hq
    refine x_nil (e_A (listed' := #[true, true, true, false]) (by rfl) ?_)
    refine a_step [3] (by kernel_rfl) rfl ⟨fun o hoq => ?_, trivial⟩
    obtain rfl : _ = o := Option.some.inj hoq
    refine wl_stW hb7 rfl rfl sz30_SFind rfl oneA (fun w11 hq hs => ?_)
    replace hB := hB.tr1 hs lo7
    replace hb3 := hb3.tr1 hs (by omega)
    replace hb4 := hb4.tr1 hs (by omega)
    replace hb5 := hb5.tr1 hs (by omega)
    replace hb6 := hb6.tr1 hs (by omega)
    replace hb8 := hb8.tr1 hs (by omega)
    clear hs
    replace hb7 := hq
    refine x_nil (e_A (listed' := #[true, true, true, true]) (by rfl) (a_end (by kernel_rfl) (e_S (c_ret (e_Sr ?_)))))
    refine fin2 (.inl rfl) rfl (rr_cell Tryd.underlying60 rfl rfl hb6.range0 sz60_SFind) (rr_cell Tryd.underlying30 rfl rfl hb7.range0 sz30_SFind) ?_
    exact ⟨both_no (hierFault l fs) (two_hier c17) c17, hB⟩
   obtain rfl : _ = o := Option.some.inj hoq
   refine wl_stW hb6 rfl rfl sz60_SFind rfl oneA (fun w12 hq hs => ?_)
   replace hB := hB.tr1 hs lo6
   replace hb3 := hb3.tr1 hs (by omega)
   replace hb4 := hb4.tr1 hs (by omega)
   replace hb5 := hb5.tr1 hs (by omega)
   replace hb7 := hb7.tr1 hs (by omega)
   replace hb8 := hb8.tr1 hs (by omega)
   clear hs
   replace hb6 := hq
   refine x_nil (e_A (listed' := #[true, false, true, false]) (by rfl) ?_)
   refine a_step [1] (by kernel_rfl) rfl ⟨fun o hoq => ?_, trivial⟩
   obtain rfl : _ = o := Option.some.inj hoq
   refine wl (r_ldS Tryd.underlying30 rfl rfl hb8.range0 sz30_SFind) (x_nil (e_A (listed' := #[true, true, true, false]) (by rfl) ?_))
   refine a_step [3] (by kernel_rfl) rfl ⟨fun o hoq => ?_, trivial⟩
   obtain rfl : _ = o := Option.some.inj hoq
   refine wl_stW hb7 rfl rfl sz30_SFind rfl oneA (fun w13 hq hs => ?_)
   replace hB := hB.tr1 hs lo7
   replace hb3 := hb3.tr1 hs (by omega)
   replace hb4 := hb4.tr1 hs (by omega)
   replace hb5 := hb5.tr1 hs (by omega)
   replace hb6 := hb6.tr1 hs (by omega)
   replace hb8 := hb8.tr1 hs (by omega)
   clear hs
   replace hb7 := hq
   refine x_nil (e_A (listed' := #[true, true, true, true]) (by rfl) (a_end (by kernel_rfl) (e_S (c_ret (e_Sr ?_)))))
   refine fin2 (.inl rfl) rfl (rr_cell Tryd.underlying60 rfl rfl hb6.range0 sz60_SFind) (rr_cell Tryd.underlying30 rfl rfl hb7.range0 sz30_SFind) ?_
   exact ⟨both_no (hierFault l fs) (two_hier c17) c17, hB⟩
  obtain rfl : _ = o := Option.some.inj hoq
  refine wl (r_ldS Tryd.underlying30 rfl rfl hb8.range0 sz30_SFind) (x_nil (e_A (listed' := #[false, true, false, false]) (by rfl) ?_))
  refine a_step [0] (by kernel_rfl) rfl ⟨fun o hoq => ?_, trivial⟩
  obtain rfl : _ = o := Option.some.inj hoq
  refine wl (r_bd (vs := #[]) (cs := #[.slice none 0 0, .slice none 0 0]) (by simp) (by kernel_rfl)) (x_nil (e_A (listed' := #[true, true, false, false]) (by rfl) ?_))
  refine a_step [2] (by kernel_rfl) rfl ⟨fun o hoq => ?_, trivial⟩
  obtain rfl : _ = o := Option.some.inj hoq
  refine wl_stW hb6 rfl rfl sz60_SFind rfl oneA (fun w14 hq hs => ?_)
  replace hB := hB.tr1 hs lo6
  replace hb3 := hb3.tr1 hs (by omega)
  replace hb4 := hb4.tr1 hs (by omega)
  replace hb5 := hb5.tr1 hs (by omega)
  replace hb7 := hb7.tr1 hs (by omega)
  replace hb8 := hb8.tr1 hs (by omega)
  clear hs
  replace hb6 := hq
  refine x_nil (e_A (listed' := #[true, true, true, false]) (by rfl) ?_)
  refine a_step [3] (by kernel_rfl) rfl ⟨fun o hoq => ?_, trivial⟩
  obtain rfl : _ = o := Option.some.inj hoq
  refine wl_stW hb7 rfl rfl sz30_SFind rfl oneA (fun w15 hq hs => ?_)
  replace hB := hB.tr1 hs lo7
  replace hb3 := hb3.tr1 hs (by omega)
  replace hb4 := hb4.tr1 hs (by omega)
  replace hb5 := hb5.tr1 hs (by omega)
  replace hb6 := hb6.tr1 hs (by omega)
  replace hb8 := hb8.tr1 hs (by omega)
  clear hs
  replace hb7 := hq
  refine x_nil (e_A (listed' := #[true, true, true, true]) (by rfl) (a_end (by kernel_rfl) (e_S (c_ret (e_Sr ?_)))))
  refine fin2 (.inl rfl) rfl (rr_cell Tryd.underlying60 rfl rfl hb6.range0 sz60_SFind) (rr_cell Tryd.underlying30 rfl rfl hb7.range0 sz30_SFind) ?_
  exact ⟨both_no (hierFault l fs) (two_hier c17) c17, hB⟩
 have h0 := Decidable.not_not.1 c17
 have hS := sound_of h0
 have hfo := fok_of h0
 refine c_skip (e_S (c_seq (c_region (wl (r_fa Tryd.underlying25 sz22_SFind (by decide) rfl rfl rfl) (wl (r_ld1 (v := .slice _ _ _) Tryd.underlying22 rfl rfl (hb3.cell rfl)) ?_)))))
 refine wl_cl fn25_SFind (tables2_any A c l _ (hT.mono hB) hS.vt hS.le) rfl (fun e' w16 hr => ?_)
 obtain ⟨⟨bu, bd, rfl, ⟨hbu, hbd⟩⟩, hs⟩ := hr
 replace hs := Same.of_bel hs
 replace hB := hB.tr0 hs
 replace hb3 := hb3.tr0 hs
 replace hb4 := hb4.tr0 hs
 replace hb5 := hb5.tr0 hs
 replace hb6 := hb6.tr0 hs
 replace hb7 := hb7.tr0 hs
 replace hb8 := hb8.tr0 hs
 clear hs
 have h6u : b6 ≠ bu := fun h => absurd (blk_type (h ▸ hb6) hbu) (by decide)
 have h6d : b6 ≠ bd := fun h => absurd (blk_type (h ▸ hb6) hbd) (by decide)
 have h7u : b7 ≠ bu := fun h => absurd (blk_type (h ▸ hb7) hbu) (by decide)
 have h7d : b7 ≠ bd := fun h => absurd (blk_type (h ▸ hb7) hbd) (by decide)
 refine ⟨_, rfl, ?_⟩
 refine wl_al (cs := #[.slice none 0 0, .slice none 0 0]) ze60_SFind rfl (fun b9 w17 hb9 hs hr => ?_)
 have or_b3_b9 : b3 < b9 := Nat.lt_of_lt_of_le hb3.lt hr
 have or_b4_b9 : b4 < b9 := Nat.lt_of_lt_of_le hb4.lt hr
 have or_b5_b9 : b5 < b9 := Nat.lt_of_lt_of_le hb5.lt hr
 have or_b6_b9 : b6 < b9 := Nat.lt_of_lt_of_le hb6.lt hr
 have or_b7_b9 : b7 < b9 := Nat.lt_of_lt_of_le hb7.lt hr
 have or_b8_b9 : b8 < b9 := Nat.lt_of_lt_of_le hb8.lt hr
 have or_bu_b9 : bu < b9 := Nat.lt_of_lt_of_le hbu.lt hr
 have or_bd_b9 : bd < b9 := Nat.lt_of_lt_of_le hbd.lt hr
 have lo9 := Nat.le_trans (Bel.size hB) hr
 replace hB := hB.tr0 hs
 replace hb3 := hb3.tr0 hs
 replace hb4 := hb4.tr0 hs
 replace hb5 := hb5.tr0 hs
 replace hb6 := hb6.tr0 hs
 replace hb7 := hb7.tr0 hs
 replace hb8 := hb8.tr0 hs
 replace hbu := hbu.tr0 hs
 replace hbd := hbd.tr0 hs
 clear hs
 clear hr
 refine wl_stW hb9 rfl rfl sz60_SFind rfl oneA (fun w18 hq hs => ?_)
 replace hB := hB.tr1 hs lo9
 replace hb3 := hb3.tr1 hs (by omega)
 replace hb4 := hb4.tr1 hs (by omega)
 replace hb5 := hb5.tr1 hs (by omega)
 replace hb6 := hb6.tr1 hs (by omega)
 replace hb7 := hb7.tr1 hs (by omega)
 replace hb8 := hb8.tr1 hs (by omega)
 replace hbu := hbu.tr1 hs (by omega)
 replace hbd := hbd.tr1 hs (by omega)
 clear hs
 replace hb9 := hq
 refine x_nil (e_S (c_seq (c_seq (c_region (wl (r_ldS Tryd.underlying28 rfl rfl hb4.range0 sz28_GTgt) ?_)))))
 refine wl (r_ldS Tryd.underlying28 rfl rfl hb5.range0 sz28_GTgt) ?_
 refine wl_bs (cs := #[_, _]) [(0, .agg _), (1, .agg _)] rfl Tryd.underlying35 sz28_GTgt ze28_GTgt (by decide) (by decide) (by kernel_rfl) rfl (fun b25 w19 hb25 hs hr => ?_)
 have or_b3_b25 : b3 < b25 := Nat.lt_of_lt_of_le hb3.lt hr
 have or_b4_b25 : b4 < b25 := Nat.lt_of_lt_of_le hb4.lt hr
 have or_b5_b25 : b5 < b25 := Nat.lt_of_lt_of_le hb5.lt hr
 have or_b6_b25 : b6 < b25 := Nat.lt_of_lt_of_le hb6.lt hr
 have or_b7_b25 : b7 < b25 := Nat.lt_of_lt_of_le hb7.lt hr
 have or_b8_b25 : b8 < b25 := Nat.lt_of_lt_of_le hb8.lt hr
 have or_bu_b25 : bu < b25 := Nat.lt_of_lt_of_le hbu.lt hr
 have or_bd_b25 : bd < b25 := Nat.lt_of_lt_of_le hbd.lt hr
 have or_b9_b25 : b9 < b25 := Nat.lt_of_lt_of_le hb9.lt hr
 have lo25 := Nat.le_trans (Bel.size hB) hr
 replace hB := hB.tr0 hs
 replace hb3 := hb3.tr0 hs
 replace hb4 := hb4.tr0 hs
 replace hb5 := hb5.tr0 hs
 replace hb6 := hb6.tr0 hs
 replace hb7 := hb7.tr0 hs
 replace hb8 := hb8.tr0 hs
 replace hbu := hbu.tr0 hs
 replace hbd := hbd.tr0 hs
 replace hb9 := hb9.tr0 hs
 clear hs
 clear hr
 refine wl (r_len Tryd.underlying35 rfl) (wl (r_mv (v := .int _ _) rfl) (x_nil (e_S (c_block ?_))))
 refine c_loopS [11, 12, 27, 28, 29, 30, 31, 32, 33, 34, 35, 36, 37, 38, 39, 40] (fun m g w' => ∃ k : Nat, k ≤ 2 ∧ m = 2 - k ∧ g 27 = .int .i64 k ∧ Bel w w' ∧ Blk w' bu 101 (rU l.length (upN l)) ∧ Blk w' bd 101 (rU l.length (downN l)) ∧ Blk w' b3 25 #[.slice A l.length c, .slice B fs.length d] ∧ Blk w' b6 60 #[.slice none 0 0, .slice none 0 0] ∧ Blk w' b7 30 #[.int .i64 0, .int .i64 0] ∧ Blk w' b9 60 #[.slice (some ⟨bu, 0, none⟩) l.length l.length, .slice (some ⟨bd, 0, none⟩) l.length l.length] ∧ Blk w' b25 28 #[.slice G1 ga.length c1, .slice G2 gb.length c2] ∧ (1 ≤ k → (withinF l fs ga).1 = 0) ∧ (2 ≤ k → (withinF l fs gb).1 = 0)) (2) ?_ (fun m g6 w20 hI => ?_)
 ·
  exact ⟨0, Nat.zero_le _, rfl, rfl, hB, hbu, hbd, hb3, hb6, hb7, hb9, hb25, fun h => absurd h (by decide), fun h => absurd h (by decide)⟩
 obtain ⟨k, hk, hm, h27, hB, hbu, hbd, hb3, hb6, hb7, hb9, hb25, hq1, hq2⟩ := hI
 refine c_know 27 (.int .i64 k) h27 (by simp [undef]) (c_seq (c_region (wl (r_lss rfl rfl) (x_nil (e_S ?_)))))
 refine c_seq ?_
 refine c_ifd rfl (fun c28 => ?_) (fun c28 => ?_)
 ·
  have hlt : k < 2 := by omega
  obtain ⟨Gx, cx, gx, hGx, hcx, hx0, hx1⟩ : ∃ (Gx : Option Addr) (cx : Nat) (gx : List Nd), NodesIn w Gx gx ∧ (w20).cell? ⟨b25, 0 + k * 1, none⟩ = some (.slice Gx gx.length cx) ∧ (k = 0 → gx = ga) ∧ (k = 1 → gx = gb) := by
    match k, hlt with
    | 0, _ => exact ⟨G1, c1, ga, hG1, hb25.cell rfl, fun _ => rfl, fun h => by cases h⟩
    | 1, _ => exact ⟨G2, c2, gb, hG2, hb25.cell rfl, fun h => (by cases h), fun _ => rfl⟩
  have htw : ¬ (withinF l fs gx).1 = 0 → twoG l fs ga gb = ((withinF l fs gx).1, (withinF l fs gx).2) := fun h => by
    by_cases e : k = 0
    · have hx := hx0 e
      subst hx
      exact two_one h0 h
    · have hx := hx1 (by omega)
      subst hx
      exact two_two h0 (hq1 (by omega))
  have hrg : (w20).rangeAt b25 (0 + k * 1) [.slice Gx gx.length cx] := fun j v hj => by
    match j, hj with
    | 0, hj => cases hj; exact hcx
    | _ + 1, hj => cases hj
  refine c_skip (e_S (c_seq (c_block (c_seq (c_region ?_)))))
  refine wl (r_ia (i := k) Tryd.underlying35 sz28_GTgt rfl rfl (by omega) rfl) (wl (r_ldS Tryd.underlying28 rfl rfl hrg sz28_GTgt) ?_)
  refine wl_al (cs := #[.slice none 0 0]) ze28_GTgt rfl (fun b11 w21 hb11 hs hr => ?_)
  have or_b3_b11 : b3 < b11 := Nat.lt_of_lt_of_le hb3.lt hr
  have or_b6_b11 : b6 < b11 := Nat.lt_of_lt_of_le hb6.lt hr
  have or_b7_b11 : b7 < b11 := Nat.lt_of_lt_of_le hb7.lt hr
  have or_bu_b11 : bu < b11 := Nat.lt_of_lt_of_le hbu.lt hr
  have or_bd_b11 : bd < b11 := Nat.lt_of_lt_of_le hbd.lt hr
  have or_b9_b11 : b9 < b11 := Nat.lt_of_lt_of_le hb9.lt hr
  have or_b25_b11 : b25 < b11 := Nat.lt_of_lt_of_le hb25.lt hr
  have lo11 := Nat.le_trans (Bel.size hB) hr
  replace hB := hB.tr0 hs
  replace hb3 := hb3.tr0 hs
  replace hb6 := hb6.tr0 hs
  replace hb7 := hb7.tr0 hs
  replace hbu := hbu.tr0 hs
  replace hbd := hbd.tr0 hs
  replace hb9 := hb9.tr0 hs
  replace hb25 := hb25.tr0 hs
  clear hs
  clear hr
  refine wl_stW hb11 rfl rfl sz28_GTgt rfl oneA (fun w22 hq hs => ?_)
  replace hB := hB.tr1 hs lo11
  replace hb3 := hb3.tr1 hs (by omega)
  replace hb6 := hb6.tr1 hs (by omega)
  replace hb7 := hb7.tr1 hs (by omega)
  replace hbu := hbu.tr1 hs (by omega)
  replace hbd := hbd.tr1 hs (by omega)
  replace hb9 := hb9.tr1 hs (by omega)
  replace hb25 := hb25.tr1 hs (by omega)
  clear hs
  replace hb11 := hq
  refine x_nil (e_S (c_seq (c_region (wl (r_ldS Tryd.underlying25 rfl rfl hb3.range0 sz25_SFind) (wl (r_ldS Tryd.underlying60 rfl rfl hb9.range0 sz60_SFind) ?_)))))
  refine wl (r_ldS Tryd.underlying28 rfl rfl hb11.range0 sz28_GTgt) ?_
  refine wl_cl fn26 (within_any A B Gx c d cx bu bd l fs gx _ ⟨hbu, hbd⟩ hS.le (hF.mono hB) (hGx.mono hB) hfo) rfl (fun e' w23 hr => ?_)
  obtain ⟨rfl, hs⟩ := hr
  replace hs := Same.of_bel hs
  replace hB := hB.tr0 hs
  replace hb3 := hb3.tr0 hs
  replace hb6 := hb6.tr0 hs
  replace hb7 := hb7.tr0 hs
  replace hbu := hbu.tr0 hs
  replace hbd := hbd.tr0 hs
  replace hb9 := hb9.tr0 hs
  replace hb25 := hb25.tr0 hs
  replace hb11 := hb11.tr0 hs
  clear hs
  refine ⟨_, rfl, ?_⟩
  refine wl_al (cs := #[.int .i64 0, .int .i64 0]) ze30_SFind rfl (fun b12 w24 hb12 hs hr => ?_)
  have or_b3_b12 : b3 < b12 := Nat.lt_of_lt_of_le hb3.lt hr
  have or_b6_b12 : b6 < b12 := Nat.lt_of_lt_of_le hb6.lt hr
  have or_b7_b12 : b7 < b12 := Nat.lt_of_lt_of_le hb7.lt hr
  have or_bu_b12 : bu < b12 := Nat.lt_of_lt_of_le hbu.lt hr
  have or_bd_b12 : bd < b12 := Nat.lt_of_lt_of_le hbd.lt hr
  have or_b9_b12 : b9 < b12 := Nat.lt_of_lt_of_le hb9.lt hr
  have or_b25_b12 : b25 < b12 := Nat.lt_of_lt_of_le hb25.lt hr
  have or_b11_b12 : b11 < b12 := Nat.lt_of_lt_of_le hb11.lt hr
  have lo12 := Nat.le_trans (Bel.size hB) hr
  replace hB := hB.tr0 hs
  replace hb3 := hb3.tr0 hs
  replace hb6 := hb6.tr0 hs
  replace hb7 := hb7.tr0 hs
  replace hbu := hbu.tr0 hs
  replace hbd := hbd.tr0 hs
  replace hb9 := hb9.tr0 hs
  replace hb25 := hb25.tr0 hs
  replace hb11 := hb11.tr0 hs
  clear hs
  clear hr
  refine wl_stW hb12 rfl rfl sz30_SFind rfl oneA (fun w25 hq hs => ?_)
  replace hB := hB.tr1 hs lo12
  replace hb3 := hb3.tr1 hs (by omega)
  replace hb6 := hb6.tr1 hs (by omega)
  replace hb7 := hb7.tr1 hs (by omega)
  replace hbu := hbu.tr1 hs (by omega)
  replace hbd := hbd.tr1 hs (by omega)
  replace hb9 := hb9.tr1 hs (by omega)
  replace hb25 := hb25.tr1 hs (by omega)
  replace hb11 := hb11.tr1 hs (by omega)
  clear hs
  replace hb12 := hq
  refine x_nil (e_S (c_seq (c_region (wl (r_fa Tryd.underlying30 sz3_GSearch (by decide) rfl rfl rfl) (wl (r_ld1 (v := .int _ _) Tryd.underlying3 rfl rfl (hb12.cell rfl)) ?_)))))
  refine wl (r_neq rfl rfl) (x_nil (e_S ?_))
  refine c_ifd rfl (fun c37 => ?_) (fun c37 => ?_)
  ·
   refine c_seq ?_
   refine c_all #[false, false, false, false] (by kernel_rfl) (by rfl) (fun w26 hs => ?_)
   replace hB := hB.tr0 hs
   replace hb3 := hb3.tr0 hs
   replace hb6 := hb6.tr0 hs
   replace hb7 := hb7.tr0 hs
   replace hbu := hbu.tr0 hs
   replace hbd := hbd.tr0 hs
   replace hb9 := hb9.tr0 hs
   replace hb25 := hb25.tr0 hs
   replace hb11 := hb11.tr0 hs
   replace hb12 := hb12.tr0 hs
   clear hs
   refine a_step [0, 1] (by kernel_rfl) rfl ⟨fun o hoq => ?_, fun o hoq => ?_, trivial⟩
   ·
    obtain rfl : _ = o := Option.some.inj hoq
    refine wl (r_ldS Tryd.underlying60 rfl rfl hb9.range0 sz60_SFind) (x_nil (e_A (listed' := #[true, false, false, false]) (by rfl) ?_))
    refine a_step [1, 2] (by kernel_rfl) rfl ⟨fun o hoq => ?_, fun o hoq => ?_, trivial⟩
    ·
     obtain rfl : _ = o := Option.some.inj hoq
     refine wl (r_ldS Tryd.underlying30 rfl rfl hb12.range0 sz30_SFind) (x_nil (e_A (listed' := #[true, true, false, false]) (by rfl) ?_))
     refine a_step [2] (by kernel_rfl) rfl ⟨fun o hoq => ?_, trivial⟩
     obtain rfl : _ = o := Option.some.inj hoq
     refine wl_stW hb6 rfl rfl sz60_SFind rfl oneA (fun w27 hq hs => ?_)
     replace hB := hB.tr1 hs lo6
     replace hb3 := hb3.tr1 hs (by omega)
     replace hb7 := hb7.tr1 hs (by omega)
     replace hbu := hbu.tr1 hs (by omega)
     replace hbd := hbd.tr1 hs (by omega)
     replace hb9 := hb9.tr1 hs (by omega)
     replace hb25 := hb25.tr1 hs (by omega)
     replace hb11 := hb11.tr1 hs (by omega)
     replace hb12 := hb12.tr1 hs (by omega)
     clear hs
     replace hb6 := hq
     refine x_nil (e_A (listed' := #[true, true, true, false]) (by rfl) ?_)
     refine a_step [3] (by kernel_rfl) rfl ⟨fun o hoq => ?_, trivial⟩
     obtain rfl : _ = o := Option.some.inj hoq
     refine wl_stW hb7 rfl rfl sz30_SFind rfl oneA (fun w28 hq hs => ?_)
     replace hB := hB.tr1 hs lo7
     replace hb3 := hb3.tr1 hs (by omega)
     replace hb6 := hb6.tr1 hs (by omega)
     replace hbu := hbu.tr1 hs (by omega)
     replace hbd := hbd.tr1 hs (by omega)
     replace hb9 := hb9.tr1 hs (by omega)
     replace hb25 := hb25.tr1 hs (by omega)
     replace hb11 := hb11.tr1 hs (by omega)
     replace hb12 := hb12.tr1 hs (by omega)
     clear hs
     replace hb7 := hq
     refine x_nil (e_A (listed' := #[true, true, true, true]) (by rfl) (a_end (by kernel_rfl) (e_S (c_ret (e_Br ?_)))))
     refine e_Sr (e_LSr (e_Br (e_Sr (fin2 (.inl rfl) rfl (rr_cell Tryd.underlying60 rfl rfl hb6.range0 sz60_SFind) (rr_cell Tryd.underlying30 rfl rfl hb7.range0 sz30_SFind) ?_))))
     exact ⟨both_no (withinF l fs gx) (htw c37) c37, hB⟩
    obtain rfl : _ = o := Option.some.inj hoq
    refine wl_stW hb6 rfl rfl sz60_SFind rfl oneA (fun w29 hq hs => ?_)
    replace hB := hB.tr1 hs lo6
    replace hb3 := hb3.tr1 hs (by omega)
    replace hb7 := hb7.tr1 hs (by omega)
    replace hbu := hbu.tr1 hs (by omega)
    replace hbd := hbd.tr1 hs (by omega)
    replace hb9 := hb9.tr1 hs (by omega)
    replace hb25 := hb25.tr1 hs (by omega)
    replace hb11 := hb11.tr1 hs (by omega)
    replace hb12 := hb12.tr1 hs (by omega)
    clear hs
    replace hb6 := hq
    refine x_nil (e_A (listed' := #[true, false, true, false]) (by rfl) ?_)
    refine a_step [1] (by kernel_rfl) rfl ⟨fun o hoq => ?_, trivial⟩
    obtain rfl : _ = o := Option.some.inj hoq
    refine wl (r_ldS Tryd.underlying30 rfl rfl hb12.range0 sz30_SFind) (x_nil (e_A (listed' := #[true, true, true, false]) (by rfl) ?_))
    refine a_step [3] (by kernel_rfl) rfl ⟨fun o hoq => ?_, trivial⟩
    obtain rfl : _ = o := Option.some.inj hoq
    refine wl_stW hb7 rfl rfl sz30_SFind rfl oneA (fun w30 hq hs => ?_)
    replace hB := hB.tr1 hs lo7
    replace hb3 := hb3.tr1 hs (by omega)
    replace hb6 := hb6.tr1 hs (by omega)
    replace hbu := hbu.tr1 hs (by omega)
    replace hbd := hbd.tr1 hs (by omega)
    replace hb9 := hb9.tr1 hs (by omega)
    replace hb25 := hb25.tr1 hs (by omega)
    replace hb11 := hb11.tr1 hs (by omega)
    replace hb12 := hb12.tr1 hs (by omega)
    clear hs
    replace hb7 := hq
    refine x_nil (e_A (listed' := #[true, true, true, true]) (by rfl) (a_end (by kernel_rfl) (e_S (c_ret (e_Br ?_)))))
    refine e_Sr (e_LSr (e_Br (e_Sr (fin2 (.inl rfl) rfl (rr_cell Tryd.underlying60 rfl rfl hb6.range0 sz60_SFind) (rr_cell Tryd.underlying30 rfl rfl hb7.range0 sz30_SFind) ?_))))
    exact ⟨both_no (withinF l fs gx) (htw c37) c37, hB⟩
   obtain rfl : _ = o := Option.some.inj hoq
   refine wl (r_ldS Tryd.underlying30 rfl rfl hb12.range0 sz30_SFind) (x_nil (e_A (listed' := #[false, true, false, false]) (by rfl) ?_))
   refine a_step [0] (by kernel_rfl) rfl ⟨fun o hoq => ?_, trivial⟩
   obtain rfl : _ = o := Option.some.inj hoq
   refine wl (r_ldS Tryd.underlying60 rfl rfl hb9.range0 sz60_SFind) (x_nil (e_A (listed' := #[true, true, false, false]) (by rfl) ?_))
   refine a_step [2] (by kernel_rfl) rfl ⟨fun o hoq => ?_, trivial⟩
   obtain rfl : _ = o := Option.some.inj hoq
   refine wl_stW hb6 rfl rfl sz60_SFind rfl oneA (fun w31 hq hs => ?_)
   replace hB := hB.tr1 hs lo6
   replace hb3 := hb3.tr1 hs (by omega)
   replace hb7 := hb7.tr1 hs (by omega)
   replace hbu := hbu.tr1 hs (by omega)
   replace hbd := hbd.tr1 hs (by omega)
   replace hb9 := hb9.tr1 hs (by omega)
   replace hb25 := hb25.tr1 hs (by omega)
   replace hb11 := hb11.tr1 hs (by omega)
   replace hb12 := hb12.tr1 hs (by omega)
   clear hs
   replace hb6 := hq
   refine x_nil (e_A (listed' := #[true, true, true, false]) (by rfl) ?_)
   refine a_step [3] (by kernel_rfl) rfl ⟨fun o hoq => ?_, trivial⟩
   obtain rfl : _ = o := Option.some.inj hoq
   refine wl_stW hb7 rfl rfl sz30_SFind rfl oneA (fun w32 hq hs => ?_)
   replace hB := hB.tr1 hs lo7
   replace hb3 := hb3.tr1 hs (by omega)
   replace hb6 := hb6.tr1 hs (by omega)
   replace hbu := hbu.tr1 hs (by omega)
   replace hbd := hbd.tr1 hs (by omega)
   replace hb9 := hb9.tr1 hs (by omega)
   replace hb25 := hb25.tr1 hs (by omega)
   replace hb11 := hb11.tr1 hs (by omega)
   replace hb12 := hb12.tr1 hs (by omega)
   clear hs
   replace hb7 := hq
   refine x_nil (e_A (listed' := #[true, true, true, true]) (by rfl) (a_end (by kernel_rfl) (e_S (c_ret (e_Br ?_)))))
   refine e_Sr (e_LSr (e_Br (e_Sr (fin2 (.inl rfl) rfl (rr_cell Tryd.underlying60 rfl rfl hb6.range0 sz60_SFind) (rr_cell Tryd.underlying30 rfl rfl hb7.range0 sz30_SFind) ?_))))
   exact ⟨both_no (withinF l fs gx) (htw c37) c37, hB⟩
  refine c_skip (e_B (e_S (c_region (wl (r_add rfl rfl rfl (by omega)) (wl (r_mv (v := .int _ _) rfl) ?_)))))
  refine x_nil (e_LS (2 - (k + 1)) (by omega) agA ?_)
  exact ⟨k + 1, by omega, rfl, rfl, hB, hbu, hbd, hb3, hb6, hb7, hb9, hb25, (fun h => by
    by_cases e : k = 0
    · rw [hx0 e] at c37; exact Decidable.not_not.1 c37
    · exact hq1 (by omega)), fun h => by
    rw [hx1 (by omega)] at c37; exact Decidable.not_not.1 c37⟩
 have hke : k = 2 := by omega
 have hz : twoG l fs ga gb = (0, 0) := by
   rw [two_two h0 (hq1 (by omega))]
   have h2 := hq2 (by omega)
   have h3 : (graphF l fs gb).1 = 0 := by rw [gf_in h0]; exact h2
   have hgb := gv_of h3
   rw [wi_zero hgb.lo hgb.t hgb.u]
 refine c_exit (e_Sx (e_LSx (e_Bx (e_S (c_seq ?_)))))
 refine c_region (wl (r_ldS Tryd.underlying60 rfl rfl hb9.range0 sz60_SFind) (wl (r_bd (vs := #[]) (cs := #[.int .i64 0, .int .i64 0]) (by simp) (by kernel_rfl)) ?_))
 refine wl_stW hb6 rfl rfl sz60_SFind rfl oneA (fun w33 hq hs => ?_)
 replace hB := hB.tr1 hs lo6
 replace hb3 := hb3.tr1 hs (by omega)
 replace hb7 := hb7.tr1 hs (by omega)
 replace hbu := hbu.tr1 hs (by omega)
 replace hbd := hbd.tr1 hs (by omega)
 replace hb9 := hb9.tr1 hs (by omega)
 replace hb25 := hb25.tr1 hs (by omega)
 clear hs
 replace hb6 := hq
 refine wl_stW hb7 rfl rfl sz30_SFind rfl oneA (fun w34 hq hs => ?_)
 replace hB := hB.tr1 hs lo7
 replace hb3 := hb3.tr1 hs (by omega)
 replace hb6 := hb6.tr1 hs (by omega)
 replace hbu := hbu.tr1 hs (by omega)
 replace hbd := hbd.tr1 hs (by omega)
 replace hb9 := hb9.tr1 hs (by omega)
 replace hb25 := hb25.tr1 hs (by omega)
 clear hs
 replace hb7 := hq
 refine x_nil (e_S (c_ret (fin2 (.inl rfl) rfl (rr_cell Tryd.underlying60 rfl rfl hb6.range0 sz60_SFind) (rr_cell Tryd.underlying30 rfl rfl hb7.range0 sz30_SFind) ?_)))
 exact ⟨both_yes hz ⟨hbu, hbd⟩, hB⟩

theorem twof_any (A B G1 G2 : Option Addr) (c d c1 c2 : Nat) (l : List Ty) (fs : List Ft) (ga gb : List Nd) (w : World) (hcl : l.length ≤ c) (hdl : fs.length ≤ d) (hT : TypesIn w A l) (hF : FeatsIn w B fs) (hG1 : NodesIn w G1 ga) (hG2 : NodesIn w G2 gb) : Calls Tryd.prog 14 #[.agg #[.slice A l.length c, .slice B fs.length d], .agg #[.slice G1 ga.length c1], .agg #[.slice G2 gb.length c2]] w fun e w' => e = .returned (.agg #[.int .i64 (twoG l fs ga gb).1, .int .i64 (twoG l fs ga gb).2]) ∧ Bel w w' := by
 refine enter Tryd.func14 Tryd.ntmps14 rfl (Nat.le_of_ble_eq_true rfl) ?_
 have hB : Bel w w := Below.refl _ _
 refine c_seq (c_region ?_)
 refine wl_bx (v := .agg #[_, _]) (cs := #[_, _]) rfl rfl (fun b3 w1 hb3 hs hr => ?_)
 have lo3 := Nat.le_trans (Bel.size hB) hr
 replace hB := hB.tr0 hs
 clear hs
 clear hr
 refine wl_bx (v := .agg #[_]) (cs := #[_]) rfl rfl (fun b4 w2 hb4 hs hr => ?_)
 have or_b3_b4 : b3 < b4 := Nat.lt_of_lt_of_le hb3.lt hr
 have lo4 := Nat.le_trans (Bel.size hB) hr
 replace hB := hB.tr0 hs
 replace hb3 := hb3.tr0 hs
 clear hs
 clear hr
 refine wl_bx (v := .agg #[_]) (cs := #[_]) rfl rfl (fun b5 w3 hb5 hs hr => ?_)
 have or_b3_b5 : b3 < b5 := Nat.lt_of_lt_of_le hb3.lt hr
 have or_b4_b5 : b4 < b5 := Nat.lt_of_lt_of_le hb4.lt hr
 have lo5 := Nat.le_trans (Bel.size hB) hr
 replace hB := hB.tr0 hs
 replace hb3 := hb3.tr0 hs
 replace hb4 := hb4.tr0 hs
 clear hs
 clear hr
 refine wl_al (cs := #[.int .i64 0, .int .i64 0]) ze30_SFind rfl (fun b6 w4 hb6 hs hr => ?_)
 have or_b3_b6 : b3 < b6 := Nat.lt_of_lt_of_le hb3.lt hr
 have or_b4_b6 : b4 < b6 := Nat.lt_of_lt_of_le hb4.lt hr
 have or_b5_b6 : b5 < b6 := Nat.lt_of_lt_of_le hb5.lt hr
 have lo6 := Nat.le_trans (Bel.size hB) hr
 replace hB := hB.tr0 hs
 replace hb3 := hb3.tr0 hs
 replace hb4 := hb4.tr0 hs
 replace hb5 := hb5.tr0 hs
 clear hs
 clear hr
 refine x_nil (e_S (c_seq (c_seq (c_region (wl (r_ldS Tryd.underlying25 rfl rfl hb3.range0 sz25_SFind) ?_)))))
 refine wl (r_ldS Tryd.underlying28 rfl rfl hb4.range0 sz28_GTgt) ?_
 refine wl_cl fn32 (gfau_any A B G1 c d c1 l fs ga _ hcl hdl (hT.mono hB) (hF.mono hB) (hG1.mono hB)) rfl (fun e' w5 hr => ?_)
 obtain ⟨rfl, hs⟩ := hr
 replace hs := Same.of_bel hs
 replace hB := hB.tr0 hs
 replace hb3 := hb3.tr0 hs
 replace hb4 := hb4.tr0 hs
 replace hb5 := hb5.tr0 hs
 replace hb6 := hb6.tr0 hs
 clear hs
 refine ⟨_, rfl, ?_⟩
 refine wl_al (cs := #[.int .i64 0, .int .i64 0]) ze30_SFind rfl (fun b7 w6 hb7 hs hr => ?_)
 have or_b3_b7 : b3 < b7 := Nat.lt_of_lt_of_le hb3.lt hr
 have or_b4_b7 : b4 < b7 := Nat.lt_of_lt_of_le hb4.lt hr
 have or_b5_b7 : b5 < b7 := Nat.lt_of_lt_of_le hb5.lt hr
 have or_b6_b7 : b6 < b7 := Nat.lt_of_lt_of_le hb6.lt hr
 have lo7 := Nat.le_trans (Bel.size hB) hr
 replace hB := hB.tr0 hs
 replace hb3 := hb3.tr0 hs
 replace hb4 := hb4.tr0 hs
 replace hb5 := hb5.tr0 hs
 replace hb6 := hb6.tr0 hs
 clear hs
 clear hr
 refine wl_stW hb7 rfl rfl sz30_SFind rfl oneA (fun w7 hq hs => ?_)
 replace hB := hB.tr1 hs lo7
 replace hb3 := hb3.tr1 hs (by omega)
 replace hb4 := hb4.tr1 hs (by omega)
 replace hb5 := hb5.tr1 hs (by omega)
 replace hb6 := hb6.tr1 hs (by omega)
 clear hs
 replace hb7 := hq
 refine x_nil (e_S (c_seq (c_region (wl (r_fa Tryd.underlying30 sz3_GSearch (by decide) rfl rfl rfl) (wl (r_ld1 (v := .int _ _) Tryd.underlying3 rfl rfl (hb7.cell rfl)) ?_)))))
 refine wl (r_neq rfl rfl) (x_nil (e_S ?_))
 refine c_ifd rfl (fun c13 => ?_) (fun c13 => ?_)
 ·
  refine c_seq (c_region (wl (r_ldS Tryd.underlying30 rfl rfl hb7.range0 sz30_SFind) ?_))
  refine wl_stW hb6 rfl rfl sz30_SFind rfl oneA (fun w8 hq hs => ?_)
  replace hB := hB.tr1 hs lo6
  replace hb3 := hb3.tr1 hs (by omega)
  replace hb4 := hb4.tr1 hs (by omega)
  replace hb5 := hb5.tr1 hs (by omega)
  replace hb7 := hb7.tr1 hs (by omega)
  clear hs
  replace hb6 := hq
  refine x_nil (e_S (c_ret (e_Sr (fin1 (.inl rfl) rfl (rr_cell Tryd.underlying30 rfl rfl hb6.range0 sz30_SFind) ?_))))
  exact ⟨by unfold twoG; rw [if_pos c13], hB⟩
 have h0 := Decidable.not_not.1 c13
 have hgv := gv_of h0
 have e2 : twoG l fs ga gb = withinF l fs gb := by unfold twoG; rw [if_neg (fun k => k h0)]
 refine c_skip (e_S (c_seq (c_region (wl (r_ldS Tryd.underlying25 rfl rfl hb3.range0 sz25_SFind) (wl (r_ldS Tryd.underlying28 rfl rfl hb5.range0 sz28_GTgt) ?_)))))
 refine wl_cl fn15_SFind (inh_any A B G2 c d c2 l fs gb _ (hT.mono hB) hgv.s.vt hgv.s.le (hF.mono hB) (hG2.mono hB) hgv.f) rfl (fun e' w9 hr => ?_)
 obtain ⟨rfl, hs⟩ := hr
 replace hs := Same.of_bel hs
 replace hB := hB.tr0 hs
 replace hb3 := hb3.tr0 hs
 replace hb4 := hb4.tr0 hs
 replace hb5 := hb5.tr0 hs
 replace hb6 := hb6.tr0 hs
 replace hb7 := hb7.tr0 hs
 clear hs
 refine ⟨_, rfl, ?_⟩
 refine wl_stW hb6 rfl rfl sz30_SFind rfl oneA (fun w10 hq hs => ?_)
 replace hB := hB.tr1 hs lo6
 replace hb3 := hb3.tr1 hs (by omega)
 replace hb4 := hb4.tr1 hs (by omega)
 replace hb5 := hb5.tr1 hs (by omega)
 replace hb7 := hb7.tr1 hs (by omega)
 clear hs
 replace hb6 := hq
 refine x_nil (e_S (c_ret (fin1 (.inl rfl) rfl (rr_cell Tryd.underlying30 rfl rfl hb6.range0 sz30_SFind) ?_)))
 exact ⟨by rw [e2], hB⟩
end Go.Proofs.YteoncmfiiknfbaaDoor
namespace Go.Proofs.YteoncmfiiknfbaaDoor
open Go.RowKit
theorem Own.rowq {w : World} {base q m cap : Nat} {e : TypeId} {g : Nat → Value} (h : Own w base e 1 (some ⟨q, 0, none⟩) m cap (rowL m g)) {j : Nat} (hj : j < m) : w.cell? ⟨q, 0 + j * 1, none⟩ = some (g j) := by
  obtain ⟨q', h1, _, _, h2⟩ := h.rowc hj
  cases h1; exact h2
/-- numbers of a forest, of types -/
def vN (P : Nat → Nat) (x : Nat) : Value := .int .i64 ((P x : Nat) : Int)
def vI (T : Nat → Int) (x : Nat) : Value := .int .i64 (T x)
theorem lnV_len (xs : List (Int × Int)) : (lnV xs).length = xs.length * 2 := by
  induction xs with
  | nil => rfl
  | cons x xs ih => rw [show lnV (x :: xs) = [Value.int .i64 x.1, Value.int .i64 x.2] ++ lnV xs from rfl, List.length_append, ih]; simp; omega
theorem lnV_one (xs : List (Int × Int)) : (lnV xs).all (·.oneCell') = true := by
  induction xs with
  | nil => rfl
  | cons x xs ih => rw [show lnV (x :: xs) = [Value.int .i64 x.1, Value.int .i64 x.2] ++ lnV xs from rfl, List.all_append, ih]; rfl
theorem lnV_app (xs ys : List (Int × Int)) : lnV (xs ++ ys) = lnV xs ++ lnV ys := by simp [lnV]
theorem lnV_take (xs : List (Int × Int)) (k : Nat) : (lnV xs).take (k * 2) = lnV (xs.take k) := by
  induction xs generalizing k with
  | nil => simp [lnV]
  | cons x xs ih =>
    cases k with
    | zero => simp [lnV]
    | succ k =>
      rw [show (k + 1) * 2 = k * 2 + 1 + 1 from by omega, show lnV (x :: xs) = Value.int .i64 x.1 :: Value.int .i64 x.2 :: lnV xs from rfl, List.take_succ_cons, List.take_succ_cons, ih]
      rfl
/-- the cells of links, for an append -/
theorem LinksIn.news {w : World} {A : Option Addr} {xs : List (Int × Int)} (h : LinksIn w A xs) : 0 < xs.length → ∃ b o', A = some ⟨b, o', none⟩ ∧ ∀ j u, (lnV xs)[j]? = some u → w.cell? ⟨b, o' + j, none⟩ = some u := fun hm => by
  obtain ⟨b, o, rfl, _, hc⟩ := h.2 (fun e => by rw [e] at hm; simp at hm)
  refine ⟨b, o, rfl, fun j u hu => ?_⟩
  have hj : j < xs.length * 2 := by
    have := (List.getElem?_eq_some_iff.1 hu).1
    rwa [lnV_len] at this
  have hk : j / 2 < xs.length := by omega
  have h2 := lnV_get xs (j / 2) hk
  have h3 := hc (j / 2) hk
  rcases Nat.mod_two_eq_zero_or_one j with e | e
  · have e2 : j = j / 2 * 2 := by omega
    rw [e2] at hu
    rw [h2.1] at hu
    cases hu
    have := h3 0 (.int .i64 (xs[j / 2]).1) rfl
    rw [show o + j = o + j / 2 * 2 + 0 by omega]; exact this
  · have e2 : j = j / 2 * 2 + 1 := by omega
    rw [e2] at hu
    rw [h2.2] at hu
    cases hu
    have := h3 1 (.int .i64 (xs[j / 2]).2) rfl
    rw [show o + j = o + j / 2 * 2 + 1 by omega]; exact this
/-- what is left of a row from a place on -/
def Suf (w : World) (lo bs : Nat) (v : Value) (xs : List (Int × Int)) : Prop := ∃ (A0 : Option Addr) (c0 k : Nat) (ys : List (Int × Int)) (A : Option Addr), RowO w lo bs (.slice A0 ys.length c0) ys ∧ k ≤ ys.length ∧ xs = ys.drop k ∧ v = .slice A xs.length (c0 - k) ∧ (xs ≠ [] → ∃ g, A0 = some ⟨g, 0, none⟩ ∧ A = some ⟨g, k * 2, none⟩)
theorem Suf.tr {w w' : World} {lo bs : Nat} {v : Value} {xs : List (Int × Int)} {X : List Nat} (h : Suf w lo bs v xs) (hs : Same X w w') (hx : ∀ g ∈ X, bs ≤ g ∨ ∃ cs t, Blk w g t cs ∧ t ≠ 74) : Suf w' lo bs v xs := by
  obtain ⟨A0, c0, k, ys, A, h1, h2⟩ := h
  exact ⟨A0, c0, k, ys, A, h1.tr hs hx, h2⟩
theorem RowO.own {w : World} {lo bs : Nat} {A : Option Addr} {n c : Nat} {xs : List (Int × Int)} (h : RowO w lo bs (.slice A n c) xs) : n = xs.length ∧ Own w lo 74 2 A xs.length c (lnV xs) ∧ ∀ g ∈ aL A, g < bs := by
  obtain ⟨A', c', e, h1, h2⟩ := h
  cases e; exact ⟨rfl, h1, h2⟩
theorem Suf.of {w : World} {lo bs : Nat} {v : Value} {xs : List (Int × Int)} (h : RowO w lo bs v xs) : Suf w lo bs v xs := by
  obtain ⟨A, c, rfl, h1, h2⟩ := h
  refine ⟨A, c, 0, xs, A, ⟨A, c, rfl, h1, h2⟩, Nat.zero_le _, rfl, rfl, fun hne => ?_⟩
  obtain ⟨g, hg, _⟩ := h1.cell (fun e => hne (by have := congrArg List.length e; rw [lnV_len] at this; exact List.length_eq_zero_iff.1 (by simp at this; omega)))
  exact ⟨g, hg, by rw [hg, Nat.zero_mul]⟩
/-- a suffix that is not empty: its first link's cells, and what is behind it -/
structure SufC (w : World) (lo bs : Nat) (A : Option Addr) (n c : Nat) (x : Int × Int) (xs : List (Int × Int)) : Prop where
  len : n = xs.length + 1
  at_ : ∃ g o, A = some ⟨g, o, none⟩ ∧ g < w.heap.size ∧ w.rangeAt g o [.int .i64 x.1, .int .i64 x.2]
  next : Suf w lo bs (.slice (if c = 1 then A else A.map (·.add (1 * 2))) (n - 1) (c - 1)) xs
theorem Suf.slice {w : World} {lo bs : Nat} {v : Value} {xs : List (Int × Int)} (h : Suf w lo bs v xs) : ∃ A c, v = .slice A xs.length c := by
  obtain ⟨A0, c0, k, ys, A, h1, h2, h3, h4, h5⟩ := h
  exact ⟨A, c0 - k, h4⟩
theorem Suf.cons {w : World} {lo bs n c : Nat} {A : Option Addr} {x : Int × Int} {xs : List (Int × Int)} (h : Suf w lo bs (.slice A n c) (x :: xs)) : SufC w lo bs A n c x xs := by
  obtain ⟨A0, c0, k, ys, A', h1, h2, h3, h4, h5⟩ := h
  obtain ⟨g, e0, e1⟩ := h5 (by simp)
  cases h4
  subst e0
  obtain ⟨_, ho, hb⟩ := h1.own
  have hcl := ho.cap_le
  have hk : k < ys.length := by
    have := congrArg List.length h3
    simp at this; omega
  have hx : ys[k] = x := by
    have h6 : (ys.drop k)[0]? = some x := by rw [← h3]; rfl
    rw [List.getElem?_drop, Nat.add_zero, List.getElem?_eq_getElem hk] at h6
    exact Option.some.inj h6
  have hxs : xs = ys.drop (k + 1) := by
    have : (x :: xs).tail = (ys.drop k).tail := by rw [h3]
    simpa [List.tail_drop] using this
  obtain ⟨q, e2, _, hql, hqc⟩ := ho.cell (fun e => by have := congrArg List.length e; rw [lnV_len] at this; simp at this; omega)
  cases e2
  have h7 := lnV_get ys k hk
  rw [hx] at h7
  refine ⟨by simp, ⟨g, k * 2, e1, hql, fun j v hj => ?_⟩, ?_⟩
  · match j, hj with
    | 0, hj => cases hj; exact hqc _ _ h7.1
    | 1, hj => cases hj; exact hqc _ _ h7.2
    | _ + 2, hj => cases hj
  · subst e1
    refine ⟨some ⟨g, 0, none⟩, c0, k + 1, ys, (if c0 - k = 1 then some (⟨g, k * 2, none⟩ : Addr) else Option.map (fun z : Addr => z.add (1 * 2)) (some (⟨g, k * 2, none⟩ : Addr))), h1, by omega, hxs, ?_, fun hne => ⟨g, rfl, ?_⟩⟩
    · rw [show (x :: xs).length - 1 = xs.length by simp, show c0 - k - 1 = c0 - (k + 1) by omega]
    · have hl : 0 < xs.length := List.length_pos_iff.2 hne
      have : xs.length = ys.length - (k + 1) := by rw [hxs]; simp
      rw [if_neg (by omega)]
      show some ((⟨g, k * 2, none⟩ : Addr).add (1 * 2)) = _
      rw [Addr.add_mid, show k * 2 + 1 * 2 = (k + 1) * 2 by omega]
theorem Suf.links {w : World} {lo bs n c : Nat} {A : Option Addr} {xs : List (Int × Int)} (h : Suf w lo bs (.slice A n c) xs) : n = xs.length ∧ LinksIn w A xs := by
  obtain ⟨A0, c0, k, ys, A', h1, h2, h3, h4, h5⟩ := h
  cases h4
  obtain ⟨_, ho, hb⟩ := h1.own
  have hm := ho.max
  have hl : xs.length = ys.length - k := by rw [h3]; simp
  refine ⟨rfl, by unfold maxI; omega, fun hne => ?_⟩
  obtain ⟨g, e0, e1⟩ := h5 hne
  subst e0
  have hp : 0 < xs.length := List.length_pos_iff.2 hne
  obtain ⟨q, e2, _, hql, hqc⟩ := ho.cell (fun e => by have := congrArg List.length e; rw [lnV_len] at this; simp at this; omega)
  cases e2
  refine ⟨g, k * 2, e1, hql, fun j hj i v hi => ?_⟩
  have hjk : k + j < ys.length := by omega
  have h7 := lnV_get ys (k + j) hjk
  have hx : xs[j] = ys[k + j] := by simp only [h3, List.getElem_drop]
  rw [hx] at hi
  match i, hi with
  | 0, hi => cases hi; rw [show k * 2 + j * 2 + 0 = (k + j) * 2 by omega]; exact hqc _ _ h7.1
  | 1, hi => cases hi; rw [show k * 2 + j * 2 + 1 = (k + j) * 2 + 1 by omega]; exact hqc _ _ h7.2
  | _ + 2, hi => cases hi
theorem RowO.links {w : World} {lo bs n c : Nat} {A : Option Addr} {xs : List (Int × Int)} (h : RowO w lo bs (.slice A n c) xs) : n = xs.length ∧ LinksIn w A xs := (Suf.of h).links
/-- a slice of slices of links -/
def LMat (w : World) (A : Option Addr) (L : List (List (Int × Int))) : Prop := L.length ≤ maxI ∧ (L ≠ [] → ∃ b o, A = some ⟨b, o, none⟩ ∧ b < w.heap.size ∧ ∀ k (hk : k < L.length), ∃ A' c', w.cell? ⟨b, o + k * 1, none⟩ = some (.slice A' (L[k]).length c') ∧ LinksIn w A' L[k])
theorem lmat_three {w : World} {b t : Nat} {A1 A2 A3 : Option Addr} {c1 c2 c3 : Nat} {p q r : List (Int × Int)} (h : Blk w b t #[.slice A1 p.length c1, .slice A2 q.length c2, .slice A3 r.length c3]) (h1 : LinksIn w A1 p) (h2 : LinksIn w A2 q) (h3 : LinksIn w A3 r) : LMat w (some ⟨b, 0, none⟩) [p, q, r] :=
  ⟨by simp [maxI], fun _ => ⟨b, 0, rfl, h.lt, fun k hk => by
    match k, hk with
    | 0, _ => exact ⟨A1, c1, h.cell rfl, h1⟩
    | 1, _ => exact ⟨A2, c2, h.cell rfl, h2⟩
    | 2, _ => exact ⟨A3, c3, h.cell rfl, h3⟩⟩⟩
theorem LMat.mono {w w' : World} {A : Option Addr} {L : List (List (Int × Int))} (h : LMat w A L) (hb : Bel w w') : LMat w' A L :=
  ⟨h.1, fun hne => by
    obtain ⟨b, o, h1, h2, h3⟩ := h.2 hne
    refine ⟨b, o, h1, Nat.lt_of_lt_of_le h2 hb.size, fun k hk => ?_⟩
    obtain ⟨A', c', h4, h5⟩ := h3 k hk
    exact ⟨A', c', hb.cell h2 h4, h5.mono hb⟩⟩
theorem LMat.at_ {w w' : World} {A : Option Addr} {L : List (List (Int × Int))} (h : LMat w A L) (hb : Bel w w') {k : Nat} (hk : k < L.length) : ∃ b o A' c', A = some ⟨b, o, none⟩ ∧ w'.cell? ⟨b, o + k * 1, none⟩ = some (.slice A' (L[k]).length c') ∧ LinksIn w' A' L[k] := by
  obtain ⟨b, o, h1, h2, h3⟩ := h.2 (fun e => by rw [e] at hk; exact absurd hk (Nat.not_lt_zero _))
  obtain ⟨A', c', h4, h5⟩ := h3 k hk
  exact ⟨b, o, A', c', h1, hb.cell h2 h4, h5.mono hb⟩
def sumM (L : List (List (Int × Int))) (k : Nat) : Nat := (L.take k).flatten.length
theorem flatM_succ {L : List (List (Int × Int))} {k : Nat} (hk : k < L.length) : (L.take (k + 1)).flatten = (L.take k).flatten ++ L[k] := by
  rw [List.take_succ_eq_append_getElem hk, List.flatten_append]; simp
theorem sumM_succ {L : List (List (Int × Int))} {k : Nat} (hk : k < L.length) : sumM L (k + 1) = sumM L k + (L[k]).length := by
  unfold sumM; rw [flatM_succ hk, List.length_append]
theorem sumM_le (L : List (List (Int × Int))) (k : Nat) : sumM L k ≤ L.flatten.length := by
  unfold sumM
  have h : L.flatten = (L.take k).flatten ++ (L.drop k).flatten := by rw [← List.flatten_append, List.take_append_drop]
  rw [h, List.length_append]; omega
theorem sumM_all {L : List (List (Int × Int))} {k : Nat} (h : L.length ≤ k) : (L.take k).flatten = L.flatten := by rw [List.take_of_length_le h]
end Go.Proofs.YteoncmfiiknfbaaDoor
