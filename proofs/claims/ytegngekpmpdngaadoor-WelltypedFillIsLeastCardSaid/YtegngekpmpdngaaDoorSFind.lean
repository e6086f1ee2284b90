/- What these functions of the program compute, at every world: glosswright/subsume.Both, glosswright/subsume.Find, glosswright/subsume.Subsumes, glosswright/glosswrightlaw3.twoFault. -/
import Derived.Test.YtegngekpmpdngaaDoorU
import Derived.Test.YtegngekpmpdngaaDoorComp
import Derived.Test.YtegngekpmpdngaaDoorHom
namespace Go.Proofs.YtegngekpmpdngaaDoor
open Go.RowKit
noncomputable def twoG (l : List Ty) (fs : List Ft) (ga gb : List Nd) : Fl := if ¬ (graphF l fs ga).1 = 0 then graphF l fs ga else withinF l fs gb
theorem two_hier {l : List Ty} {fs : List Ft} {ga gb : List Nd} (h : ¬ (hierFault l fs).1 = 0) : twoG l fs ga gb = ((hierFault l fs).1, (hierFault l fs).2) := by
  unfold twoG; rw [gf_hier h, if_pos h]
theorem two_one {l : List Ty} {fs : List Ft} {ga gb : List Nd} (h : (hierFault l fs).1 = 0) (h1 : ¬ (withinF l fs ga).1 = 0) : twoG l fs ga gb = ((withinF l fs ga).1, (withinF l fs ga).2) := by
  unfold twoG; rw [gf_in h, if_pos h1]
theorem two_two {l : List Ty} {fs : List Ft} {ga gb : List Nd} (h : (hierFault l fs).1 = 0) (h1 : (withinF l fs ga).1 = 0) : twoG l fs ga gb = ((withinF l fs gb).1, (withinF l fs gb).2) := by
  unfold twoG; rw [gf_in h, if_neg (fun k => k h1)]
theorem two_gv {l : List Ty} {fs : List Ft} {ga gb : List Nd} (h : (twoG l fs ga gb).1 = 0) : (GV l fs ga ∧ GV l fs gb) ∧ (graphF l fs ga).1 = 0 ∧ (graphF l fs gb).1 = 0 := by
  unfold twoG at h
  by_cases h1 : (graphF l fs ga).1 = 0
  · rw [if_neg (fun k => k h1)] at h
    have ha := gv_of h1
    have h2 : (graphF l fs gb).1 = 0 := by rw [gf_in ha.h]; exact h
    exact ⟨⟨ha, gv_of h2⟩, h1, h2⟩
  · rw [if_pos h1] at h; exact absurd h h1
theorem two_zz {l : List Ty} {fs : List Ft} {ga gb : List Nd} (h : (twoG l fs ga gb).1 = 0) : twoG l fs ga gb = (0, 0) := by
  obtain ⟨⟨_, hb⟩, h1, h2⟩ := two_gv h
  unfold twoG
  rw [if_neg (fun k => k h1), wi_zero hb.lo hb.t hb.u]
def BothR (l : List Ty) (fs : List Ft) (ga gb : List Nd) (e : Ending) (w : World) : Prop := ∃ (U D : Option Addr) (n1 k1 n2 k2 : Nat), e = .returned (.tuple #[.agg #[.slice U n1 k1, .slice D n2 k2], .agg #[.int .i64 (twoG l fs ga gb).1, .int .i64 (twoG l fs ga gb).2]]) ∧ ((twoG l fs ga gb).1 = 0 → ∃ bu bd, (U = some ⟨bu, 0, none⟩ ∧ n1 = l.length ∧ k1 = l.length ∧ D = some ⟨bd, 0, none⟩ ∧ n2 = l.length ∧ k2 = l.length) ∧ TableIn w l bu bd)
theorem both_no {l : List Ty} {fs : List Ft} {ga gb : List Nd} {w : World} {U D : Option Addr} {n1 k1 n2 k2 : Nat} (F : Fl) (hF : twoG l fs ga gb = F) (h : ¬ F.1 = 0) : BothR l fs ga gb (.returned (.tuple #[.agg #[.slice U n1 k1, .slice D n2 k2], .agg #[.int .i64 F.1, .int .i64 F.2]])) w :=
  ⟨U, D, n1, k1, n2, k2, by rw [hF], fun h2 => absurd (by rw [← hF]; exact h2) h⟩
theorem both_yes {l : List Ty} {fs : List Ft} {ga gb : List Nd} {w : World} {bu bd : Nat} (hF : twoG l fs ga gb = (0, 0)) (h : TableIn w l bu bd) : BothR l fs ga gb (.returned (.tuple #[.agg #[.slice (some ⟨bu, 0, none⟩) l.length l.length, .slice (some ⟨bd, 0, none⟩) l.length l.length], .agg #[.int .i64 0, .int .i64 0]])) w :=
  ⟨_, _, _, _, _, _, by rw [hF], fun _ => ⟨bu, bd, ⟨rfl, rfl, rfl, rfl, rfl, rfl⟩, h⟩⟩
theorem tables2_any (A : Option Addr) (c : Nat) (l : List Ty) (w : World) (hT : TypesIn w A l) (hv : VT l) (h60 : l.length ≤ 60) : Calls Tryd.prog 48 #[.slice A l.length c] w fun e w' => (∃ bu bd, e = .returned (.agg #[.slice (some ⟨bu, 0, none⟩) l.length l.length, .slice (some ⟨bd, 0, none⟩) l.length l.length]) ∧ TableIn w' l bu bd) ∧ Bel w w' :=
  (tables_any A c l w hT hv h60).mono fun _ _ ⟨bu, bd, h1, h2, h3⟩ => ⟨⟨bu, bd, h1, h2⟩, h3⟩
def FindR (lo : Nat) (l : List Ty) (ga gb : List Nd) (e : Ending) (w : World) : Prop := ∃ A c, e = .returned (.slice A (mapF l ga gb).length c) ∧ (∀ w2, FrSame lo w w2 → IntsIn w2 A (mapF l ga gb)) ∧ A.isNone = !decide (Maps l ga gb)
theorem ints_row {w : World} {b n : Nat} {out : Nat → Int} {xs : List Int} (hb : Blk w b 3 (row n (fun x => .int .i64 (out x)))) (hn : xs.length = n) (hm : n ≤ maxI) (hx : ∀ k (hk : k < xs.length), xs[k] = out k) : IntsIn w (some ⟨b, 0, none⟩) xs := by
  subst hn
  exact ⟨hm, fun _ => ⟨b, 0, rfl, hb.lt, fun k hk => by rw [hx k hk]; exact hb.cell (row_get (by exact hk))⟩⟩
theorem find_no {lo : Nat} {l : List Ty} {ga gb : List Nd} {w : World} (h : ¬ Maps l ga gb) : FindR lo l ga gb (.returned (.slice none 0 0)) w :=
  ⟨none, 0, by rw [mapF_no h]; rfl, by rw [mapF_no h]; exact fun _ _ => ints_nil _ _, by rw [decide_eq_false h]; rfl⟩
theorem find_yes {lo : Nat} {l : List Ty} {ga gb : List Nd} {w : World} {b : Nat} {out : Nat → Int} (hr : ∀ i, i < ga.length → Rch ga i) (h : FS l ga gb out [] ga.length 0) (hb : Blk w b 3 (row ga.length (fun x => .int .i64 (out x)))) (hm : ga.length ≤ 60) (hlo : lo ≤ b) : FindR lo l ga gb (.returned (.slice (some ⟨b, 0, none⟩) ga.length ga.length)) w := by
  obtain ⟨hh, hp⟩ := h.end_ hr
  have hl : (mapF l ga gb).length = ga.length := by rw [mapF_yes hr hh]; simp
  refine ⟨some ⟨b, 0, none⟩, ga.length, by rw [hl], ?_, by rw [decide_eq_true ⟨_, hh⟩]; rfl⟩
  refine fun w2 hf => ints_row (hf.at_ hb hlo) hl (by unfold maxI; omega) (fun k hk => ?_)
  have hk2 : k < ga.length := by omega
  have := hp k hk2
  simp only [mapF_yes hr hh, List.getElem_map, List.getElem_range]
  omega
noncomputable def subB (l : List Ty) (fs : List Ft) (ga gb : List Nd) : Bool := if (twoG l fs ga gb).1 = 0 then decide (Maps l ga gb) else false
theorem subB_no {l : List Ty} {fs : List Ft} {ga gb : List Nd} (h : ¬ (twoG l fs ga gb).1 = 0) : subB l fs ga gb = false := by unfold subB; rw [if_neg h]
theorem subB_yes {l : List Ty} {fs : List Ft} {ga gb : List Nd} (h : (twoG l fs ga gb).1 = 0) : subB l fs ga gb = decide (Maps l ga gb) := by unfold subB; rw [if_pos h]
theorem ret_sb {l : List Ty} {fs : List Ft} {ga gb : List Nd} {b : Bool} {x y : Int} (h : subB l fs ga gb = b) (hF : twoG l fs ga gb = (x, y)) : Ending.returned (.tuple #[.bool b, .agg #[.int .i64 x, .int .i64 y]]) = .returned (.tuple #[.bool (subB l fs ga gb), .agg #[.int .i64 (twoG l fs ga gb).1, .int .i64 (twoG l fs ga gb).2]]) := by rw [h, hF]
theorem fn13 : callable Tryd.prog 13 = true := by kernel_rfl
theorem fn40_SFind : callable Tryd.prog 40 = true := by kernel_rfl
theorem fn44_SFind : callable Tryd.prog 44 = true := by kernel_rfl
theorem fn48_SFind : callable Tryd.prog 48 = true := by kernel_rfl
theorem fn50_SFind : callable Tryd.prog 50 = true := by kernel_rfl
theorem fn51 : callable Tryd.prog 51 = true := by kernel_rfl
theorem fn67 : callable Tryd.prog 67 = true := by kernel_rfl
theorem fn68 : callable Tryd.prog 68 = true := by kernel_rfl
theorem fn71_SFind : callable Tryd.prog 71 = true := by kernel_rfl
theorem in3_SFind : (Tryd.prog.info? 3).map (fun i => (i.zero, i.size, i.bytes)) = some (some (.int .i64 0), 1, 8) := by kernel_rfl
theorem sz22_SFind : (Tryd.prog.info? 22).map (·.size) = some 1 := by kernel_rfl
theorem sz25_SFind : (Tryd.prog.info? 25).map (·.size) = some 2 := by kernel_rfl
theorem sz35_SFind : (Tryd.prog.info? 35).map (·.size) = some 2 := by kernel_rfl
theorem sz92_SFind : (Tryd.prog.info? 92).map (·.size) = some 2 := by kernel_rfl
theorem ze3_SFind : (Tryd.prog.info? 3).map (·.zero) = some (some (.int .i64 0)) := by kernel_rfl
theorem ze35_SFind : (Tryd.prog.info? 35).map (·.zero) = some (some (.agg #[.int .i64 0, .int .i64 0])) := by kernel_rfl
theorem ze92_SFind : (Tryd.prog.info? 92).map (·.zero) = some (some (.agg #[.slice none 0 0, .slice none 0 0])) := by kernel_rfl
set_option maxHeartbeats 1000000 in
theorem both_any (A B G1 G2 : Option Addr) (c d c1 c2 : Nat) (l : List Ty) (fs : List Ft) (ga gb : List Nd) (w : World) (hTab : TabIn w) (hT : TypesIn w A l) (hF : FeatsIn w B fs) (hG1 : NodesIn w G1 ga) (hG2 : NodesIn w G2 gb) : Calls Tryd.prog 67 #[.agg #[.slice A l.length c, .slice B fs.length d], .agg #[.slice G1 ga.length c1], .agg #[.slice G2 gb.length c2]] w fun e w' => BothR l fs ga gb e w' ∧ Bel w w' := by
 refine enter Tryd.func67 Tryd.ntmps67 rfl (Nat.le_of_ble_eq_true rfl) ?_
 have hB : Bel w w := Below.refl _ _
 refine c_seq (c_region ?_)
 refine wl_bx (v := .agg #[_, _]) (cs := #[_, _]) rfl rfl (fun b3 w1 hb3 hs hr => ?_)
 have lo3 := nLT (Bel.size hB) hr
 replace hB := hB.tr0 hs
 clear hs
 clear hr
 refine wl_bx (v := .agg #[_]) (cs := #[_]) rfl rfl (fun b4 w2 hb4 hs hr => ?_)
 have or_b3_b4 : b3 < b4 := nLL hb3.lt hr
 have lo4 := nLT (Bel.size hB) hr
 replace hB := hB.tr0 hs
 replace hb3 := hb3.tr0 hs
 clear hs
 clear hr
 refine wl_bx (v := .agg #[_]) (cs := #[_]) rfl rfl (fun b5 w3 hb5 hs hr => ?_)
 have or_b3_b5 : b3 < b5 := nLL hb3.lt hr
 have or_b4_b5 : b4 < b5 := nLL hb4.lt hr
 have lo5 := nLT (Bel.size hB) hr
 replace hB := hB.tr0 hs
 replace hb3 := hb3.tr0 hs
 replace hb4 := hb4.tr0 hs
 clear hs
 clear hr
 refine wl_al (cs := #[.slice none 0 0, .slice none 0 0]) ze92_SFind rfl (fun b6 w4 hb6 hs hr => ?_)
 have or_b3_b6 : b3 < b6 := nLL hb3.lt hr
 have or_b4_b6 : b4 < b6 := nLL hb4.lt hr
 have or_b5_b6 : b5 < b6 := nLL hb5.lt hr
 have lo6 := nLT (Bel.size hB) hr
 replace hB := hB.tr0 hs
 replace hb3 := hb3.tr0 hs
 replace hb4 := hb4.tr0 hs
 replace hb5 := hb5.tr0 hs
 clear hs
 clear hr
 refine wl_al (cs := #[.int .i64 0, .int .i64 0]) ze35_SFind rfl (fun b7 w5 hb7 hs hr => ?_)
 have or_b3_b7 : b3 < b7 := nLL hb3.lt hr
 have or_b4_b7 : b4 < b7 := nLL hb4.lt hr
 have or_b5_b7 : b5 < b7 := nLL hb5.lt hr
 have or_b6_b7 : b6 < b7 := nLL hb6.lt hr
 have lo7 := nLT (Bel.size hB) hr
 replace hB := hB.tr0 hs
 replace hb3 := hb3.tr0 hs
 replace hb4 := hb4.tr0 hs
 replace hb5 := hb5.tr0 hs
 replace hb6 := hb6.tr0 hs
 clear hs
 clear hr
 refine x_nil (e_S (c_seq (c_seq (c_region (wl (r_ldS U25 rfl rfl hb3.range0 sz25_SFind) ?_)))))
 refine wl_cl fn44_SFind (validate_any A B c d l fs _ (hTab.mono hB) (hT.mono hB) (hF.mono hB)) rfl (fun e' w6 hr => ?_)
 obtain ⟨rfl, hs⟩ := hr
 replace hs := Same.of_bel hs
 replace hB := hB.tr0 hs
 replace hb3 := hb3.tr0 hs
 replace hb4 := hb4.tr0 hs
 replace hb5 := hb5.tr0 hs
 replace hb6 := hb6.tr0 hs
 replace hb7 := hb7.tr0 hs
 clear hs
 refine ⟨_, rfl, ?_⟩
 refine wl_al (cs := #[.int .i64 0, .int .i64 0]) ze35_SFind rfl (fun b8 w7 hb8 hs hr => ?_)
 have or_b3_b8 : b3 < b8 := nLL hb3.lt hr
 have or_b4_b8 : b4 < b8 := nLL hb4.lt hr
 have or_b5_b8 : b5 < b8 := nLL hb5.lt hr
 have or_b6_b8 : b6 < b8 := nLL hb6.lt hr
 have or_b7_b8 : b7 < b8 := nLL hb7.lt hr
 have lo8 := nLT (Bel.size hB) hr
 replace hB := hB.tr0 hs
 replace hb3 := hb3.tr0 hs
 replace hb4 := hb4.tr0 hs
 replace hb5 := hb5.tr0 hs
 replace hb6 := hb6.tr0 hs
 replace hb7 := hb7.tr0 hs
 clear hs
 clear hr
 refine wl_stW hb8 rfl rfl sz35_SFind rfl oneA (fun w8 hq hs => ?_)
 replace hB := hB.tr1 hs lo8
 replace hb3 := hb3.tr1 hs om
 replace hb4 := hb4.tr1 hs om
 replace hb5 := hb5.tr1 hs om
 replace hb6 := hb6.tr1 hs om
 replace hb7 := hb7.tr1 hs om
 clear hs
 replace hb8 := hq
 refine x_nil (e_S (c_seq (c_region (wl (r_fa U35 sz3_GSearch dE rfl rfl rfl) (wl (r_ld1 (v := .int _ _) U3 rfl rfl (hb8.cell rfl)) ?_)))))
 refine wl (r_neq rfl rfl) (x_nil (e_S ?_))
 refine c_ifd rfl (fun c17 => ?_) (fun c17 => ?_)
 ·
  refine c_seq ?_
  refine c_all #[false, false, false, false] kR (by rfl) (fun w9 hs => ?_)
  replace hB := hB.tr0 hs
  replace hb3 := hb3.tr0 hs
  replace hb4 := hb4.tr0 hs
  replace hb5 := hb5.tr0 hs
  replace hb6 := hb6.tr0 hs
  replace hb7 := hb7.tr0 hs
  replace hb8 := hb8.tr0 hs
  clear hs
  refine a_step [0, 1] kR rfl ⟨fun o hoq => ?_, fun o hoq => ?_, trivial⟩
  ·
   obtain rfl := sI hoq
   refine wl (r_bd (vs := #[]) (cs := #[.slice none 0 0, .slice none 0 0]) (by simp) kR) (x_nil (e_A (listed' := #[true, false, false, false]) (by rfl) ?_))
   refine a_step [1, 2] kR rfl ⟨fun o hoq => ?_, fun o hoq => ?_, trivial⟩
   ·
    obtain rfl := sI hoq
    refine wl (r_ldS U35 rfl rfl hb8.range0 sz35_SFind) (x_nil (e_A (listed' := #[true, true, false, false]) (by rfl) ?_))
    refine a_step [2] kR rfl ⟨fun o hoq => ?_, trivial⟩
    obtain rfl := sI hoq
    refine wl_stW hb6 rfl rfl sz92_SFind rfl oneA (fun w10 hq hs => ?_)
    replace hB := hB.tr1 hs lo6
    replace hb3 := hb3.tr1 hs om
    replace hb4 := hb4.tr1 hs om
    replace hb5 := hb5.tr1 hs om
    replace hb7 := hb7.tr1 hs om
    replace hb8 := hb8.tr1 hs om
    clear hs
    replace hb6 := hq
    refine x_nil (e_A (listed' := #[true, true, true, false]) (by rfl) ?_)
    refine a_step [3] kR rfl ⟨fun o hoq => ?_, trivial⟩
    obtain rfl := sI hoq
    refine wl_stW hb7 rfl rfl sz35_SFind rfl oneA (fun w11 hq hs => ?_)
    replace hB := hB.tr1 hs lo7
    replace hb3 := hb3.tr1 hs om
    replace hb4 := hb4.tr1 hs om
    replace hb5 := hb5.tr1 hs om
    replace hb6 := hb6.tr1 hs om
    replace hb8 := hb8.tr1 hs om
    clear hs
    replace hb7 := hq
    refine x_nil (e_A (listed' := #[true, true, true, true]) (by rfl) (a_end kR (e_S (c_ret (e_Sr ?_)))))
    refine fin2 (.inl rfl) rfl (rr_cell U92 rfl rfl hb6.range0 sz92_SFind) (rr_cell U35 rfl rfl hb7.range0 sz35_SFind) ?_
    exact ⟨both_no (hierFault l fs) (two_hier c17) c17, hB⟩
   obtain rfl := sI hoq
   refine wl_stW hb6 rfl rfl sz92_SFind rfl oneA (fun w12 hq hs => ?_)
   replace hB := hB.tr1 hs lo6
   replace hb3 := hb3.tr1 hs om
   replace hb4 := hb4.tr1 hs om
   replace hb5 := hb5.tr1 hs om
   replace hb7 := hb7.tr1 hs om
   replace hb8 := hb8.tr1 hs om
   clear hs
   replace hb6 := hq
   refine x_nil (e_A (listed' := #[true, false, true, false]) (by rfl) ?_)
   refine a_step [1] kR rfl ⟨fun o hoq => ?_, trivial⟩
   obtain rfl := sI hoq
   refine wl (r_ldS U35 rfl rfl hb8.range0 sz35_SFind) (x_nil (e_A (listed' := #[true, true, true, false]) (by rfl) ?_))
   refine a_step [3] kR rfl ⟨fun o hoq => ?_, trivial⟩
   obtain rfl := sI hoq
   refine wl_stW hb7 rfl rfl sz35_SFind rfl oneA (fun w13 hq hs => ?_)
   replace hB := hB.tr1 hs lo7
   replace hb3 := hb3.tr1 hs om
   replace hb4 := hb4.tr1 hs om
   replace hb5 := hb5.tr1 hs om
   replace hb6 := hb6.tr1 hs om
   replace hb8 := hb8.tr1 hs om
   clear hs
   replace hb7 := hq
   refine x_nil (e_A (listed' := #[true, true, true, true]) (by rfl) (a_end kR (e_S (c_ret (e_Sr ?_)))))
   refine fin2 (.inl rfl) rfl (rr_cell U92 rfl rfl hb6.range0 sz92_SFind) (rr_cell U35 rfl rfl hb7.range0 sz35_SFind) ?_
   exact ⟨both_no (hierFault l fs) (two_hier c17) c17, hB⟩
  obtain rfl := sI hoq
  refine wl (r_ldS U35 rfl rfl hb8.range0 sz35_SFind) (x_nil (e_A (listed' := #[false, true, false, false]) (by rfl) ?_))
  refine a_step [0] kR rfl ⟨fun o hoq => ?_, trivial⟩
  obtain rfl := sI hoq
  refine wl (r_bd (vs := #[]) (cs := #[.slice none 0 0, .slice none 0 0]) (by simp) kR) (x_nil (e_A (listed' := #[true, true, false, false]) (by rfl) ?_))
  refine a_step [2] kR rfl ⟨fun o hoq => ?_, trivial⟩
  obtain rfl := sI hoq
  refine wl_stW hb6 rfl rfl sz92_SFind rfl oneA (fun w14 hq hs => ?_)
  replace hB := hB.tr1 hs lo6
  replace hb3 := hb3.tr1 hs om
  replace hb4 := hb4.tr1 hs om
  replace hb5 := hb5.tr1 hs om
  replace hb7 := hb7.tr1 hs om
  replace hb8 := hb8.tr1 hs om
  clear hs
  replace hb6 := hq
  refine x_nil (e_A (listed' := #[true, true, true, false]) (by rfl) ?_)
  refine a_step [3] kR rfl ⟨fun o hoq => ?_, trivial⟩
  obtain rfl := sI hoq
  refine wl_stW hb7 rfl rfl sz35_SFind rfl oneA (fun w15 hq hs => ?_)
  replace hB := hB.tr1 hs lo7
  replace hb3 := hb3.tr1 hs om
  replace hb4 := hb4.tr1 hs om
  replace hb5 := hb5.tr1 hs om
  replace hb6 := hb6.tr1 hs om
  replace hb8 := hb8.tr1 hs om
  clear hs
  replace hb7 := hq
  refine x_nil (e_A (listed' := #[true, true, true, true]) (by rfl) (a_end kR (e_S (c_ret (e_Sr ?_)))))
  refine fin2 (.inl rfl) rfl (rr_cell U92 rfl rfl hb6.range0 sz92_SFind) (rr_cell U35 rfl rfl hb7.range0 sz35_SFind) ?_
  exact ⟨both_no (hierFault l fs) (two_hier c17) c17, hB⟩
 have h0 := Decidable.not_not.1 c17
 have hS := sound_of h0
 have hfo := fok_of h0
 refine c_skip (e_S (c_seq (c_region (wl (r_fa U25 sz22_SFind dE rfl rfl rfl) (wl (r_ld1 (v := .slice _ _ _) U22 rfl rfl (hb3.cell rfl)) ?_)))))
 refine wl_cl fn48_SFind (tables2_any A c l _ (hT.mono hB) hS.vt hS.le) rfl (fun e' w16 hr => ?_)
 obtain ⟨⟨bu, bd, rfl, ⟨hbu, hbd⟩⟩, hs⟩ := hr
 replace hs := Same.of_bel hs
 replace hB := hB.tr0 hs
 replace hb3 := hb3.tr0 hs
 replace hb4 := hb4.tr0 hs
 replace hb5 := hb5.tr0 hs
 replace hb6 := hb6.tr0 hs
 replace hb7 := hb7.tr0 hs
 replace hb8 := hb8.tr0 hs
 clear hs
 have h6u : b6 ≠ bu := fun h => absurd (blk_type (h ▸ hb6) hbu) dE
 have h6d : b6 ≠ bd := fun h => absurd (blk_type (h ▸ hb6) hbd) dE
 have h7u : b7 ≠ bu := fun h => absurd (blk_type (h ▸ hb7) hbu) dE
 have h7d : b7 ≠ bd := fun h => absurd (blk_type (h ▸ hb7) hbd) dE
 refine ⟨_, rfl, ?_⟩
 refine wl_al (cs := #[.slice none 0 0, .slice none 0 0]) ze92_SFind rfl (fun b9 w17 hb9 hs hr => ?_)
 have or_b3_b9 : b3 < b9 := nLL hb3.lt hr
 have or_b4_b9 : b4 < b9 := nLL hb4.lt hr
 have or_b5_b9 : b5 < b9 := nLL hb5.lt hr
 have or_b6_b9 : b6 < b9 := nLL hb6.lt hr
 have or_b7_b9 : b7 < b9 := nLL hb7.lt hr
 have or_b8_b9 : b8 < b9 := nLL hb8.lt hr
 have or_bu_b9 : bu < b9 := nLL hbu.lt hr
 have or_bd_b9 : bd < b9 := nLL hbd.lt hr
 have lo9 := nLT (Bel.size hB) hr
 replace hB := hB.tr0 hs
 replace hb3 := hb3.tr0 hs
 replace hb4 := hb4.tr0 hs
 replace hb5 := hb5.tr0 hs
 replace hb6 := hb6.tr0 hs
 replace hb7 := hb7.tr0 hs
 replace hb8 := hb8.tr0 hs
 replace hbu := hbu.tr0 hs
 replace hbd := hbd.tr0 hs
 clear hs
 clear hr
 refine wl_stW hb9 rfl rfl sz92_SFind rfl oneA (fun w18 hq hs => ?_)
 replace hB := hB.tr1 hs lo9
 replace hb3 := hb3.tr1 hs om
 replace hb4 := hb4.tr1 hs om
 replace hb5 := hb5.tr1 hs om
 replace hb6 := hb6.tr1 hs om
 replace hb7 := hb7.tr1 hs om
 replace hb8 := hb8.tr1 hs om
 replace hbu := hbu.tr1 hs om
 replace hbd := hbd.tr1 hs om
 clear hs
 replace hb9 := hq
 refine x_nil (e_S (c_seq (c_seq (c_region (wl (r_ldS U28 rfl rfl hb4.range0 sz28_GTgt) ?_)))))
 refine wl (r_ldS U28 rfl rfl hb5.range0 sz28_GTgt) ?_
 refine wl_bs (cs := #[_, _]) [(0, .agg _), (1, .agg _)] rfl Tryd.underlying139 sz28_GTgt ze28_GTgt dE dE kR rfl (fun b25 w19 hb25 hs hr => ?_)
 have or_b3_b25 : b3 < b25 := nLL hb3.lt hr
 have or_b4_b25 : b4 < b25 := nLL hb4.lt hr
 have or_b5_b25 : b5 < b25 := nLL hb5.lt hr
 have or_b6_b25 : b6 < b25 := nLL hb6.lt hr
 have or_b7_b25 : b7 < b25 := nLL hb7.lt hr
 have or_b8_b25 : b8 < b25 := nLL hb8.lt hr
 have or_bu_b25 : bu < b25 := nLL hbu.lt hr
 have or_bd_b25 : bd < b25 := nLL hbd.lt hr
 have or_b9_b25 : b9 < b25 := nLL hb9.lt hr
 have lo25 := nLT (Bel.size hB) hr
 replace hB := hB.tr0 hs
 replace hb3 := hb3.tr0 hs
 replace hb4 := hb4.tr0 hs
 replace hb5 := hb5.tr0 hs
 replace hb6 := hb6.tr0 hs
 replace hb7 := hb7.tr0 hs
 replace hb8 := hb8.tr0 hs
 replace hbu := hbu.tr0 hs
 replace hbd := hbd.tr0 hs
 replace hb9 := hb9.tr0 hs
 clear hs
 clear hr
 refine wl (r_len Tryd.underlying139 rfl) (wmI rfl (x_nil (e_S (c_block ?_))))
 refine c_loopS [11, 12, 27, 28, 29, 30, 31, 32, 33, 34, 35, 36, 37, 38, 39, 40] (fun m g w' => ∃ k : Nat, k ≤ 2 ∧ m = 2 - k ∧ g 27 = .int .i64 k ∧ Bel w w' ∧ Blk w' bu 122 (rU l.length (upN l)) ∧ Blk w' bd 122 (rU l.length (downN l)) ∧ Blk w' b3 25 #[.slice A l.length c, .slice B fs.length d] ∧ Blk w' b6 92 #[.slice none 0 0, .slice none 0 0] ∧ Blk w' b7 35 #[.int .i64 0, .int .i64 0] ∧ Blk w' b9 92 #[.slice (some ⟨bu, 0, none⟩) l.length l.length, .slice (some ⟨bd, 0, none⟩) l.length l.length] ∧ Blk w' b25 28 #[.slice G1 ga.length c1, .slice G2 gb.length c2] ∧ (1 ≤ k → (withinF l fs ga).1 = 0) ∧ (2 ≤ k → (withinF l fs gb).1 = 0)) (2) ?_ (fun m g6 w20 hI => ?_)
 ·
  exact ⟨0, Nat.zero_le _, rfl, rfl, hB, hbu, hbd, hb3, hb6, hb7, hb9, hb25, fun h => absurd h dE, fun h => absurd h dE⟩
 obtain ⟨k, hk, hm, h27, hB, hbu, hbd, hb3, hb6, hb7, hb9, hb25, hq1, hq2⟩ := hI
 refine c_know 27 (.int .i64 k) h27 nu (c_seq (c_region (wl (r_lss rfl rfl) (x_nil (e_S ?_)))))
 refine c_seq ?_
 refine c_ifd rfl (fun c28 => ?_) (fun c28 => ?_)
 ·
  have hlt : k < 2 := by omega
  obtain ⟨Gx, cx, gx, hGx, hcx, hx0, hx1⟩ : ∃ (Gx : Option Addr) (cx : Nat) (gx : List Nd), NodesIn w Gx gx ∧ (w20).cell? ⟨b25, 0 + k * 1, none⟩ = some (.slice Gx gx.length cx) ∧ (k = 0 → gx = ga) ∧ (k = 1 → gx = gb) := by
    match k, hlt with
    | 0, _ => exact ⟨G1, c1, ga, hG1, hb25.cell rfl, fun _ => rfl, fun h => by cases h⟩
    | 1, _ => exact ⟨G2, c2, gb, hG2, hb25.cell rfl, fun h => (by cases h), fun _ => rfl⟩
  have htw : ¬ (withinF l fs gx).1 = 0 → twoG l fs ga gb = ((withinF l fs gx).1, (withinF l fs gx).2) := fun h => by
    by_cases e : k = 0
    · have hx := hx0 e
      subst hx
      exact two_one h0 h
    · have hx := hx1 om
      subst hx
      exact two_two h0 (hq1 om)
  have hrg : (w20).rangeAt b25 (0 + k * 1) [.slice Gx gx.length cx] := fun j v hj => by
    match j, hj with
    | 0, hj => cases hj; exact hcx
    | _ + 1, hj => cases hj
  refine c_skip (e_S (c_seq (c_block (c_seq (c_region ?_)))))
  refine wl (r_ia (i := k) Tryd.underlying139 sz28_GTgt rfl rfl om rfl) (wl (r_ldS U28 rfl rfl hrg sz28_GTgt) ?_)
  refine wl_al (cs := #[.slice none 0 0]) ze28_GTgt rfl (fun b11 w21 hb11 hs hr => ?_)
  have or_b3_b11 : b3 < b11 := nLL hb3.lt hr
  have or_b6_b11 : b6 < b11 := nLL hb6.lt hr
  have or_b7_b11 : b7 < b11 := nLL hb7.lt hr
  have or_bu_b11 : bu < b11 := nLL hbu.lt hr
  have or_bd_b11 : bd < b11 := nLL hbd.lt hr
  have or_b9_b11 : b9 < b11 := nLL hb9.lt hr
  have or_b25_b11 : b25 < b11 := nLL hb25.lt hr
  have lo11 := nLT (Bel.size hB) hr
  replace hB := hB.tr0 hs
  replace hb3 := hb3.tr0 hs
  replace hb6 := hb6.tr0 hs
  replace hb7 := hb7.tr0 hs
  replace hbu := hbu.tr0 hs
  replace hbd := hbd.tr0 hs
  replace hb9 := hb9.tr0 hs
  replace hb25 := hb25.tr0 hs
  clear hs
  clear hr
  refine wl_stW hb11 rfl rfl sz28_GTgt rfl oneA (fun w22 hq hs => ?_)
  replace hB := hB.tr1 hs lo11
  replace hb3 := hb3.tr1 hs om
  replace hb6 := hb6.tr1 hs om
  replace hb7 := hb7.tr1 hs om
  replace hbu := hbu.tr1 hs om
  replace hbd := hbd.tr1 hs om
  replace hb9 := hb9.tr1 hs om
  replace hb25 := hb25.tr1 hs om
  clear hs
  replace hb11 := hq
  refine x_nil (e_S (c_seq (c_region (wl (r_ldS U25 rfl rfl hb3.range0 sz25_SFind) (wl (r_ldS U92 rfl rfl hb9.range0 sz92_SFind) ?_)))))
  refine wl (r_ldS U28 rfl rfl hb11.range0 sz28_GTgt) ?_
  refine wl_cl fn71_SFind (within_any A B Gx c d cx bu bd l fs gx _ ⟨hbu, hbd⟩ hS.le (hF.mono hB) (hGx.mono hB) hfo) rfl (fun e' w23 hr => ?_)
  obtain ⟨rfl, hs⟩ := hr
  replace hs := Same.of_bel hs
  replace hB := hB.tr0 hs
  replace hb3 := hb3.tr0 hs
  replace hb6 := hb6.tr0 hs
  replace hb7 := hb7.tr0 hs
  replace hbu := hbu.tr0 hs
  replace hbd := hbd.tr0 hs
  replace hb9 := hb9.tr0 hs
  replace hb25 := hb25.tr0 hs
  replace hb11 := hb11.tr0 hs
  clear hs
  refine ⟨_, rfl, ?_⟩
  refine wl_al (cs := #[.int .i64 0, .int .i64 0]) ze35_SFind rfl (fun b12 w24 hb12 hs hr => ?_)
  have or_b3_b12 : b3 < b12 := nLL hb3.lt hr
  have or_b6_b12 : b6 < b12 := nLL hb6.lt hr
  have or_b7_b12 : b7 < b12 := nLL hb7.lt hr
  have or_bu_b12 : bu < b12 := nLL hbu.lt hr
  have or_bd_b12 : bd < b12 := nLL hbd.lt hr
  have or_b9_b12 : b9 < b12 := nLL hb9.lt hr
  have or_b25_b12 : b25 < b12 := nLL hb25.lt hr
  have or_b11_b12 : b11 < b12 := nLL hb11.lt hr
  have lo12 := nLT (Bel.size hB) hr
  replace hB := hB.tr0 hs
  replace hb3 := hb3.tr0 hs
  replace hb6 := hb6.tr0 hs
  replace hb7 := hb7.tr0 hs
  replace hbu := hbu.tr0 hs
  replace hbd := hbd.tr0 hs
  replace hb9 := hb9.tr0 hs
  replace hb25 := hb25.tr0 hs
  replace hb11 := hb11.tr0 hs
  clear hs
  clear hr
  refine wl_stW hb12 rfl rfl sz35_SFind rfl oneA (fun w25 hq hs => ?_)
  replace hB := hB.tr1 hs lo12
  replace hb3 := hb3.tr1 hs om
  replace hb6 := hb6.tr1 hs om
  replace hb7 := hb7.tr1 hs om
  replace hbu := hbu.tr1 hs om
  replace hbd := hbd.tr1 hs om
  replace hb9 := hb9.tr1 hs om
  replace hb25 := hb25.tr1 hs om
  replace hb11 := hb11.tr1 hs om
  clear hs
  replace hb12 := hq
  refine x_nil (e_S (c_seq (c_region (wl (r_fa U35 sz3_GSearch dE rfl rfl rfl) (wl (r_ld1 (v := .int _ _) U3 rfl rfl (hb12.cell rfl)) ?_)))))
  refine wl (r_neq rfl rfl) (x_nil (e_S ?_))
  refine c_ifd rfl (fun c37 => ?_) (fun c37 => ?_)
  ·
   refine c_seq ?_
   refine c_all #[false, false, false, false] kR (by rfl) (fun w26 hs => ?_)
   replace hB := hB.tr0 hs
   replace hb3 := hb3.tr0 hs
   replace hb6 := hb6.tr0 hs
   replace hb7 := hb7.tr0 hs
   replace hbu := hbu.tr0 hs
   replace hbd := hbd.tr0 hs
   replace hb9 := hb9.tr0 hs
   replace hb25 := hb25.tr0 hs
   replace hb11 := hb11.tr0 hs
   replace hb12 := hb12.tr0 hs
   clear hs
   refine a_step [0, 1] kR rfl ⟨fun o hoq => ?_, fun o hoq => ?_, trivial⟩
   ·
    obtain rfl := sI hoq
    refine wl (r_ldS U92 rfl rfl hb9.range0 sz92_SFind) (x_nil (e_A (listed' := #[true, false, false, false]) (by rfl) ?_))
    refine a_step [1, 2] kR rfl ⟨fun o hoq => ?_, fun o hoq => ?_, trivial⟩
    ·
     obtain rfl := sI hoq
     refine wl (r_ldS U35 rfl rfl hb12.range0 sz35_SFind) (x_nil (e_A (listed' := #[true, true, false, false]) (by rfl) ?_))
     refine a_step [2] kR rfl ⟨fun o hoq => ?_, trivial⟩
     obtain rfl := sI hoq
     refine wl_stW hb6 rfl rfl sz92_SFind rfl oneA (fun w27 hq hs => ?_)
     replace hB := hB.tr1 hs lo6
     replace hb3 := hb3.tr1 hs om
     replace hb7 := hb7.tr1 hs om
     replace hbu := hbu.tr1 hs om
     replace hbd := hbd.tr1 hs om
     replace hb9 := hb9.tr1 hs om
     replace hb25 := hb25.tr1 hs om
     replace hb11 := hb11.tr1 hs om
     replace hb12 := hb12.tr1 hs om
     clear hs
     replace hb6 := hq
     refine x_nil (e_A (listed' := #[true, true, true, false]) (by rfl) ?_)
     refine a_step [3] kR rfl ⟨fun o hoq => ?_, trivial⟩
     obtain rfl := sI hoq
     refine wl_stW hb7 rfl rfl sz35_SFind rfl oneA (fun w28 hq hs => ?_)
     replace hB := hB.tr1 hs lo7
     replace hb3 := hb3.tr1 hs om
     replace hb6 := hb6.tr1 hs om
     replace hbu := hbu.tr1 hs om
     replace hbd := hbd.tr1 hs om
     replace hb9 := hb9.tr1 hs om
     replace hb25 := hb25.tr1 hs om
     replace hb11 := hb11.tr1 hs om
     replace hb12 := hb12.tr1 hs om
     clear hs
     replace hb7 := hq
     refine x_nil (e_A (listed' := #[true, true, true, true]) (by rfl) (a_end kR (e_S (c_ret (e_Br ?_)))))
     refine e_Sr (e_LSr (e_Br (e_Sr (fin2 (.inl rfl) rfl (rr_cell U92 rfl rfl hb6.range0 sz92_SFind) (rr_cell U35 rfl rfl hb7.range0 sz35_SFind) ?_))))
     exact ⟨both_no (withinF l fs gx) (htw c37) c37, hB⟩
    obtain rfl := sI hoq
    refine wl_stW hb6 rfl rfl sz92_SFind rfl oneA (fun w29 hq hs => ?_)
    replace hB := hB.tr1 hs lo6
    replace hb3 := hb3.tr1 hs om
    replace hb7 := hb7.tr1 hs om
    replace hbu := hbu.tr1 hs om
    replace hbd := hbd.tr1 hs om
    replace hb9 := hb9.tr1 hs om
    replace hb25 := hb25.tr1 hs om
    replace hb11 := hb11.tr1 hs om
    replace hb12 := hb12.tr1 hs om
    clear hs
    replace hb6 := hq
    refine x_nil (e_A (listed' := #[true, false, true, false]) (by rfl) ?_)
    refine a_step [1] kR rfl ⟨fun o hoq => ?_, trivial⟩
    obtain rfl := sI hoq
    refine wl (r_ldS U35 rfl rfl hb12.range0 sz35_SFind) (x_nil (e_A (listed' := #[true, true, true, false]) (by rfl) ?_))
    refine a_step [3] kR rfl ⟨fun o hoq => ?_, trivial⟩
    obtain rfl := sI hoq
    refine wl_stW hb7 rfl rfl sz35_SFind rfl oneA (fun w30 hq hs => ?_)
    replace hB := hB.tr1 hs lo7
    replace hb3 := hb3.tr1 hs om
    replace hb6 := hb6.tr1 hs om
    replace hbu := hbu.tr1 hs om
    replace hbd := hbd.tr1 hs om
    replace hb9 := hb9.tr1 hs om
    replace hb25 := hb25.tr1 hs om
    replace hb11 := hb11.tr1 hs om
    replace hb12 := hb12.tr1 hs om
    clear hs
    replace hb7 := hq
    refine x_nil (e_A (listed' := #[true, true, true, true]) (by rfl) (a_end kR (e_S (c_ret (e_Br ?_)))))
    refine e_Sr (e_LSr (e_Br (e_Sr (fin2 (.inl rfl) rfl (rr_cell U92 rfl rfl hb6.range0 sz92_SFind) (rr_cell U35 rfl rfl hb7.range0 sz35_SFind) ?_))))
    exact ⟨both_no (withinF l fs gx) (htw c37) c37, hB⟩
   obtain rfl := sI hoq
   refine wl (r_ldS U35 rfl rfl hb12.range0 sz35_SFind) (x_nil (e_A (listed' := #[false, true, false, false]) (by rfl) ?_))
   refine a_step [0] kR rfl ⟨fun o hoq => ?_, trivial⟩
   obtain rfl := sI hoq
   refine wl (r_ldS U92 rfl rfl hb9.range0 sz92_SFind) (x_nil (e_A (listed' := #[true, true, false, false]) (by rfl) ?_))
   refine a_step [2] kR rfl ⟨fun o hoq => ?_, trivial⟩
   obtain rfl := sI hoq
   refine wl_stW hb6 rfl rfl sz92_SFind rfl oneA (fun w31 hq hs => ?_)
   replace hB := hB.tr1 hs lo6
   replace hb3 := hb3.tr1 hs om
   replace hb7 := hb7.tr1 hs om
   replace hbu := hbu.tr1 hs om
   replace hbd := hbd.tr1 hs om
   replace hb9 := hb9.tr1 hs om
   replace hb25 := hb25.tr1 hs om
   replace hb11 := hb11.tr1 hs om
   replace hb12 := hb12.tr1 hs om
   clear hs
   replace hb6 := hq
   refine x_nil (e_A (listed' := #[true, true, true, false]) (by rfl) ?_)
   refine a_step [3] kR rfl ⟨fun o hoq => ?_, trivial⟩
   obtain rfl := sI hoq
   refine wl_stW hb7 rfl rfl sz35_SFind rfl oneA (fun w32 hq hs => ?_)
   replace hB := hB.tr1 hs lo7
   replace hb3 := hb3.tr1 hs om
   replace hb6 := hb6.tr1 hs om
   replace hbu := hbu.tr1 hs om
   replace hbd := hbd.tr1 hs om
   replace hb9 := hb9.tr1 hs om
   replace hb25 := hb25.tr1 hs om
   replace hb11 := hb11.tr1 hs om
   replace hb12 := hb12.tr1 hs om
   clear hs
   replace hb7 := hq
   refine x_nil (e_A (listed' := #[true, true, true, true]) (by rfl) (a_end kR (e_S (c_ret (e_Br ?_)))))
   refine e_Sr (e_LSr (e_Br (e_Sr (fin2 (.inl rfl) rfl (rr_cell U92 rfl rfl hb6.range0 sz92_SFind) (rr_cell U35 rfl rfl hb7.range0 sz35_SFind) ?_))))
   exact ⟨both_no (withinF l fs gx) (htw c37) c37, hB⟩
  refine c_skip (e_B (e_S (c_region (wl (r_add rfl rfl rfl om) (wmI rfl ?_)))))
  refine x_nil (e_LS (2 - (k + 1)) om agA ?_)
  exact ⟨k + 1, by omega, rfl, rfl, hB, hbu, hbd, hb3, hb6, hb7, hb9, hb25, (fun h => by
    by_cases e : k = 0
    · rw [hx0 e] at c37; exact Decidable.not_not.1 c37
    · exact hq1 om), fun h => by
    rw [hx1 om] at c37; exact Decidable.not_not.1 c37⟩
 have hke : k = 2 := by omega
 have hz : twoG l fs ga gb = (0, 0) := by
   rw [two_two h0 (hq1 om)]
   have h2 := hq2 om
   have h3 : (graphF l fs gb).1 = 0 := by rw [gf_in h0]; exact h2
   have hgb := gv_of h3
   rw [wi_zero hgb.lo hgb.t hgb.u]
 refine c_exit (e_Sx (e_LSx (e_Bx (e_S (c_seq ?_)))))
 refine c_region (wl (r_ldS U92 rfl rfl hb9.range0 sz92_SFind) (wl (r_bd (vs := #[]) (cs := #[.int .i64 0, .int .i64 0]) (by simp) kR) ?_))
 refine wl_stW hb6 rfl rfl sz92_SFind rfl oneA (fun w33 hq hs => ?_)
 replace hB := hB.tr1 hs lo6
 replace hb3 := hb3.tr1 hs om
 replace hb7 := hb7.tr1 hs om
 replace hbu := hbu.tr1 hs om
 replace hbd := hbd.tr1 hs om
 replace hb9 := hb9.tr1 hs om
 replace hb25 := hb25.tr1 hs om
 clear hs
 replace hb6 := hq
 refine wl_stW hb7 rfl rfl sz35_SFind rfl oneA (fun w34 hq hs => ?_)
 replace hB := hB.tr1 hs lo7
 replace hb3 := hb3.tr1 hs om
 replace hb6 := hb6.tr1 hs om
 replace hbu := hbu.tr1 hs om
 replace hbd := hbd.tr1 hs om
 replace hb9 := hb9.tr1 hs om
 replace hb25 := hb25.tr1 hs om
 clear hs
 replace hb7 := hq
 refine x_nil (e_S (c_ret (fin2 (.inl rfl) rfl (rr_cell U92 rfl rfl hb6.range0 sz92_SFind) (rr_cell U35 rfl rfl hb7.range0 sz35_SFind) ?_)))
 exact ⟨both_yes hz ⟨hbu, hbd⟩, hB⟩
set_option maxHeartbeats 2000000 in
theorem find_any (G1 G2 : Option Addr) (c1 c2 bu bd : Nat) (l : List Ty) (fs : List Ft) (ga gb : List Nd) (w : World) (hI : TableIn w l bu bd) (hG1 : NodesIn w G1 ga) (hG2 : NodesIn w G2 gb) (hva : GV l fs ga) (hvb : GV l fs gb) : Calls Tryd.prog 68 #[.agg #[.slice (some ⟨bu, 0, none⟩) l.length l.length, .slice (some ⟨bd, 0, none⟩) l.length l.length], .agg #[.slice G1 ga.length c1], .agg #[.slice G2 gb.length c2]] w fun e w' => FindR w.heap.size l ga gb e w' ∧ Bel w w' := by
 have hk := hva.gok
 have hkb := hvb.gok
 have hn6 := hk.le
 have hn0 := hk.pos
 have hb6 := hkb.le
 have hb0 := hkb.pos
 have hf40 := hva.few
 have hl60 := hva.s.le
 refine enter Tryd.func68 Tryd.ntmps68 rfl (Nat.le_of_ble_eq_true rfl) ?_
 have hB : Bel w w := Below.refl _ _
 refine c_seq (c_region ?_)
 refine wl_bx (v := .agg #[_, _]) (cs := #[_, _]) rfl rfl (fun b3 w1 hb3 hs hr => ?_)
 have lo3 := nLT (Bel.size hB) hr
 replace hB := hB.tr0 hs
 clear hs
 clear hr
 refine wl_bx (v := .agg #[_]) (cs := #[_]) rfl rfl (fun b4 w2 hb4 hs hr => ?_)
 have or_b3_b4 : b3 < b4 := nLL hb3.lt hr
 have lo4 := nLT (Bel.size hB) hr
 replace hB := hB.tr0 hs
 replace hb3 := hb3.tr0 hs
 clear hs
 clear hr
 refine wl_bx (v := .agg #[_]) (cs := #[_]) rfl rfl (fun b5 w3 hb5 hs hr => ?_)
 have or_b3_b5 : b3 < b5 := nLL hb3.lt hr
 have or_b4_b5 : b4 < b5 := nLL hb4.lt hr
 have lo5 := nLT (Bel.size hB) hr
 replace hB := hB.tr0 hs
 replace hb3 := hb3.tr0 hs
 replace hb4 := hb4.tr0 hs
 clear hs
 clear hr
 refine waS rfl (x_nil (e_S (c_seq (c_region (wl (r_fa U28 sz26_GTgt dE rfl rfl rfl) ?_)))))
 refine wl (r_ld1 (v := .slice _ _ _) U26 rfl rfl (hb4.cell rfl)) (wl (r_len U26 rfl) ?_)
 refine wl_mkR (m := ga.length) U43 in3_SFind rfl rfl rfl om om (fun b18 w4 hb18 hs hr => ?_)
 have or_b3_b18 : b3 < b18 := nLL hb3.lt hr
 have or_b4_b18 : b4 < b18 := nLL hb4.lt hr
 have or_b5_b18 : b5 < b18 := nLL hb5.lt hr
 have lo18 := nLT (Bel.size hB) hr
 replace hB := hB.tr0 hs
 replace hb3 := hb3.tr0 hs
 replace hb4 := hb4.tr0 hs
 replace hb5 := hb5.tr0 hs
 clear hs
 clear hr
 refine waS rfl (x_nil (e_S (c_seq (c_seq (c_region ?_)))))
 refine wmS rfl (wl (r_len U43 rfl) (wmI rfl (x_nil (e_S (c_block ?_)))))
 refine c_loopS [8, 21, 22, 23, 24, 25, 26, 27] (fun m g w' => ∃ k : Nat, k ≤ ga.length ∧ m = ga.length - k ∧ g 21 = .int .i64 k ∧ Bel w w' ∧ Blk w' b3 92 #[.slice (some ⟨bu, 0, none⟩) l.length l.length, .slice (some ⟨bd, 0, none⟩) l.length l.length] ∧ Blk w' b4 28 #[.slice G1 ga.length c1] ∧ Blk w' b5 28 #[.slice G2 gb.length c2] ∧ Blk w' b18 3 (row ga.length (fun x => .int .i64 ((fun x => if x < k then -1 else 0) x)))) (ga.length) ?_ (fun m g3 w5 hI => ?_)
 ·
  refine ⟨0, Nat.zero_le _, rfl, rfl, hB, hb3, hb4, hb5, ?_⟩
  rw [row_congr (g' := fun _ => .int .i64 0) (fun j _ => by simp)]; exact hb18
 obtain ⟨k, hkk, hm, h21, hB, hb3, hb4, hb5, hb18⟩ := hI
 refine c_know 21 (.int .i64 k) h21 nu (c_seq (c_region (wl (r_lss rfl rfl) (x_nil (e_S ?_)))))
 refine c_seq ?_
 refine c_ifd rfl (fun c22 => ?_) (fun c22 => ?_)
 ·
  have hlt : k < ga.length := by omega
  refine c_skip (e_S (c_seq (c_block (c_seq (c_region ?_)))))
  refine wmI rfl (waI rfl (x_nil (e_S (c_region (wmS rfl ?_)))))
  refine wmI rfl (wl (r_ia (i := k) U43 sz3_GSearch rfl rfl om rfl) ?_)
  refine wl_st1 (v := .int _ _) hb18 rfl rfl sz3_GSearch (by rw [row_size]; omega) rfl row_set (fun w6 hq hs => ?_)
  replace hB := hB.tr1 hs lo18
  replace hb3 := hb3.tr1 hs om
  replace hb4 := hb4.tr1 hs om
  replace hb5 := hb5.tr1 hs om
  clear hs
  replace hb18 := hq
  rw [row_congr (g' := fun x => .int .i64 (if x < k + 1 then -1 else 0)) (fun x _ => by
    by_cases e : x = k
    · subst e; simp
    · have e1 : (x < k + 1) ↔ (x < k) := by omega
      simp [e, e1])] at hb18
  refine x_nil (e_B (e_S (c_region (wl (r_add rfl rfl rfl om) (wmI rfl ?_)))))
  refine x_nil (e_LS (ga.length - (k + 1)) om agA ?_)
  exact ⟨k + 1, by omega, rfl, rfl, hB, hb3, hb4, hb5, hb18⟩
 have hke : k = ga.length := by omega
 rw [hke, row_congr (g' := fun _ => .int .i64 (-1)) (fun j hj => by simp [hj])] at hb18
 refine c_exit (e_Sx (e_LSx (e_Bx (e_S (c_seq ?_)))))
 refine c_region (wmS rfl (wl (r_ia (i := 0) U43 sz3_GSearch rfl rfl hn0 rfl) ?_))
 refine wl_st1 (v := .int _ _) hb18 rfl rfl sz3_GSearch (by rw [row_size]; omega) rfl row_set (fun w7 hq hs => ?_)
 replace hB := hB.tr1 hs lo18
 replace hb3 := hb3.tr1 hs om
 replace hb4 := hb4.tr1 hs om
 replace hb5 := hb5.tr1 hs om
 clear hs
 replace hb18 := hq
 rw [row_setI (out := fun _ => -1)] at hb18
 refine x_nil (e_S (c_seq (c_seq (c_region ?_))))
 refine wl_bs (cs := #[_]) [(0, .int _ _)] rfl U43 sz3_GSearch ze3_SFind dE dE kR rfl (fun b30 w8 hb30 hs hr => ?_)
 have or_b3_b30 : b3 < b30 := nLL hb3.lt hr
 have or_b4_b30 : b4 < b30 := nLL hb4.lt hr
 have or_b5_b30 : b5 < b30 := nLL hb5.lt hr
 have or_b18_b30 : b18 < b30 := nLL hb18.lt hr
 have lo30 := nLT (Bel.size hB) hr
 replace hB := hB.tr0 hs
 replace hb3 := hb3.tr0 hs
 replace hb4 := hb4.tr0 hs
 replace hb5 := hb5.tr0 hs
 replace hb18 := hb18.tr0 hs
 clear hs
 clear hr
 refine waS rfl (x_nil (e_S (c_block ?_)))
 refine c_loopS [6, 9, 10, 11, 13, 14, 31, 32, 33, 34, 35, 36, 37, 38, 39, 40, 41, 42, 43, 44, 45, 46, 47, 48, 49, 50, 51, 52, 53, 54, 55, 56, 57, 58, 59, 60, 61, 62, 63, 64, 65, 66, 67, 68, 69, 70, 71, 72, 73, 74, 75, 76, 77, 78, 79, 80, 81, 82, 83, 84, 85, 86, 87, 88, 89, 90, 91, 92, 93, 94, 95, 96, 97, 98, 99, 100, 101, 102, 103, 104, 105, 106, 107, 108, 109, 110, 111, 112, 113, 114, 115] (fun m g w' => ∃ (st : List Int) (A9 : Option Addr) (cap9 : Nat) (out : Nat → Int), m = 2 * lackN ga.length (got out) + st.length ∧ 2 * lackN ga.length (got out) + st.length ≤ 200 ∧ g 9 = .slice A9 st.length cap9 ∧ Bel w w' ∧ Blk w' b3 92 #[.slice (some ⟨bu, 0, none⟩) l.length l.length, .slice (some ⟨bd, 0, none⟩) l.length l.length] ∧ Blk w' b4 28 #[.slice G1 ga.length c1] ∧ Blk w' b5 28 #[.slice G2 gb.length c2] ∧ Blk w' b18 3 (row ga.length (fun x => .int .i64 (out x))) ∧ Own w' (b18 + 1) 3 1 A9 (st).length cap9 ((st).map (Value.int .i64)) ∧ FS l ga gb out st ga.length 0) (2 * lackN ga.length (got (setI (fun _ => -1) 0 0)) + 1) ?_ (fun m g9 w9 hI => ?_)
 ·
  exact ⟨[0], _, _, setI (fun _ => -1) 0 0, rfl, by have := lack_le ga.length (got (setI (fun _ => -1) 0 0)); simp only [List.length_cons, List.length_nil]; omega, rfl, hB, hb3, hb4, hb5, hb18, own_blk hb30 or_b18_b30 rfl dE, FS.start hn0 hb0⟩
 obtain ⟨st, A9, cap9, out, hm, hbd, h9, hB, hb3, hb4, hb5, hb18, ho, hfs⟩ := hI
 refine c_know 9 (.slice A9 st.length cap9) h9 nu (c_seq (c_seq (c_region (wmS rfl (wl (r_len U43 rfl) ?_)))))
 refine wl (r_gtr rfl rfl) (x_nil (e_S ?_))
 refine c_ifd rfl (fun c33 => ?_) (fun c33 => ?_)
 ·
  obtain ⟨st1, z, rfl⟩ := snoc_of (show 0 < st.length by omega)
  obtain ⟨i, jn, rfl, hin, hoi0, hjl, hfs1⟩ := hfs.pop
  have hlen : (st1 ++ [(i : Int)]).length = st1.length + 1 := by simp
  obtain ⟨q9, rfl, hqb, hql9, hqc⟩ := ho.cell (by simp)
  have hz : w9.cell? ⟨q9, 0 + st1.length * 1, none⟩ = some (.int .i64 (i : Int)) := by
    have := hqc st1.length (.int .i64 (i : Int)) (by simp)
    simpa using this
  obtain ⟨nb1, no1, LA, lc, rfl, hnb1, hnr1, hln⟩ := hG1.at_ (Below.refl _ _ : Bel w w) hin
  obtain ⟨nb2, no2, LB, lcb, rfl, hnb2, hnr2, hlnb⟩ := hG2.at_ (Below.refl _ _ : Bel w w) hjl
  have hmx := hln.1
  unfold maxI at hmx
  have hfwa := hk.few i hin
  have hfwb := hkb.few jn hjl
  obtain ⟨yn, hyn, hynl⟩ : ∃ t : Nat, (ga[i]'hin).ty = (t : Int) ∧ t < l.length := by
    have h := hk.ty i hin
    exact ⟨(ga[i]'hin).ty.toNat, by omega, by omega⟩
  obtain ⟨zn, hzn, hznl⟩ : ∃ t : Nat, (gb[jn]'hjl).ty = (t : Int) ∧ t < l.length := by
    have h := hkb.ty jn hjl
    exact ⟨(gb[jn]'hjl).ty.toNat, by omega, by omega⟩
  have hsub : sub l (nd gb jn).ty.toNat (nd ga i).ty.toNat = sub l zn yn := by rw [nd_eq hin, nd_eq hjl, hyn, hzn, Int.toNat_natCast, Int.toNat_natCast]
  refine c_skip (e_S (c_block (c_seq (c_region (wmS rfl ?_)))))
  refine wmS rfl (wl (r_len U43 rfl) (wl (r_sub (c := (st1.length : Int)) rfl rfl (by rw [hlen]; omega) om) (wl (r_ia (i := st1.length) U43 sz3_GSearch rfl rfl (by rw [hlen]; omega) rfl) (wl (r_ld1 (v := .int _ _) U3 rfl rfl hz) (waI rfl ?_)))))
  refine x_nil (e_S (c_seq (c_region (wmS rfl (wmS rfl ?_)))))
  refine wl (r_len U43 rfl) (wl (r_sub (c := (st1.length : Int)) rfl rfl (by rw [hlen]; omega) om) (wl (r_slH (h := st1.length) U43 sz3_GSearch rfl rfl (by have := ho.cap_le; omega)) (waS rfl (x_nil (e_S ?_)))))
  refine c_seq ?_
  replace ho : Own w9 (b18 + 1) 3 1 (some ⟨q9, 0, none⟩) st1.length cap9 (st1.map (Value.int .i64)) := by
    have h := ho.take (k' := st1.length) om om
    simpa using h
  have hcj : w9.cell? ⟨b18, 0 + i * 1, none⟩ = some (.int .i64 (jn : Int)) := by rw [← hoi0]; exact hb18.cell (row_get hin)
  refine c_region (wmS rfl (wmI rfl (wl (r_ia (i := i) U43 sz3_GSearch rfl rfl hin rfl) (wl (r_ld1 (v := .int _ _) U3 rfl rfl hcj) (waI rfl ?_)))))
  refine x_nil (e_S (c_seq (c_seq ?_)))
  rw [hyn] at hnr1
  rw [hzn] at hnr2
  refine c_monoTO 15 [49, 50, 51, 52, 53, 54, 55, 56, 57, 58, 59, 60, 61, 62, 63] (fun _ => false) (fun ix v wv => match ix with | 0 => v = .agg #[.slice (some ⟨bu, 0, none⟩) l.length l.length, .slice (some ⟨bd, 0, none⟩) l.length l.length] | 1 => v = .pointer (some ⟨b5, 0, none⟩) | 2 => v = .slice (some ⟨nb2, no2, none⟩) gb.length c2 | 3 => v = .int .i64 (jn : Nat) | 4 => v = .pointer (some ⟨nb2, no2 + jn * 2, none⟩) | 5 => v = .pointer (some ⟨nb2, no2 + jn * 2 + 0, none⟩) | 6 => v = .int .i64 (zn : Nat) | 7 => v = .pointer (some ⟨b4, 0, none⟩) | 8 => v = .slice (some ⟨nb1, no1, none⟩) ga.length c1 | 9 => v = .int .i64 (i : Nat) | 10 => v = .pointer (some ⟨nb1, no1 + i * 2, none⟩) | 11 => v = .pointer (some ⟨nb1, no1 + i * 2 + 0, none⟩) | 12 => v = .int .i64 (yn : Nat) | 13 => v = .bool (sub l zn yn) | 14 => v = .bool (!sub l zn yn) | _ => True) kR kR ?_ ?_ ?_
  ·
   intro ix v wv wv2 h hs
   match ix, h with
   | 0, h => exact h
   | 1, h => exact h
   | 2, h => exact h
   | 3, h => exact h
   | 4, h => exact h
   | 5, h => exact h
   | 6, h => exact h
   | 7, h => exact h
   | 8, h => exact h
   | 9, h => exact h
   | 10, h => exact h
   | 11, h => exact h
   | 12, h => exact h
   | 13, h => exact h
   | 14, h => exact h
   | _ + 15, h => exact trivial
  ·
   intro ix o hix hoq gg wx hs hd hdis
   match ix, hix, hoq with
   | 0, _, hoq =>
    obtain rfl := sI hoq
    have hs0 := hs
    replace hb3 := hb3.tr0 hs
    clear hs
    refine os_rv (r_ldS U92 rfl rfl hb3.range0 sz92_SFind) ⟨Same.refl _ _, ?_, frsh_no⟩
    exact rfl
   | 1, _, hoq =>
    obtain rfl := sI hoq
    have hs0 := hs
    replace hb5 := hb5.tr0 hs
    clear hs
    refine os_rv (r_fa U28 sz26_GTgt dE rfl rfl rfl) ⟨Same.refl _ _, ?_, frsh_no⟩
    exact rfl
   | 2, _, hoq =>
    obtain rfl := sI hoq
    have hs0 := hs
    replace hb5 := hb5.tr0 hs
    clear hs
    have d1 : gg 50 = .pointer (some ⟨b5, 0, none⟩) := hd 1 (dep_of kR)
    have e50 := d1
    refine os_know 50 (.pointer (some ⟨b5, 0, none⟩)) e50 nu ?_
    refine os_rv (r_ld1 (v := .slice _ _ _) U26 rfl rfl (hb5.cell rfl)) ⟨Same.refl _ _, ?_, frsh_no⟩
    exact rfl
   | 3, _, hoq =>
    obtain rfl := sI hoq
    have hs0 := hs
    clear hs
    refine os_rv (r_mv (v := .int _ _) rfl) ⟨Same.refl _ _, ?_, frsh_no⟩
    exact rfl
   | 4, _, hoq =>
    obtain rfl := sI hoq
    have hs0 := hs
    clear hs
    have d2 : gg 51 = .slice (some ⟨nb2, no2, none⟩) gb.length c2 := hd 2 (dep_of kR)
    have e51 := d2
    have d3 : gg 52 = .int .i64 (jn : Nat) := hd 3 (dep_of kR)
    have e52 := d3
    refine os_know 51 (.slice (some ⟨nb2, no2, none⟩) gb.length c2) e51 nu (os_know 52 (.int .i64 (jn : Nat)) e52 nu ?_)
    refine os_rv (r_ia (i := jn) U26 sz33_GTgt rfl rfl om rfl) ⟨Same.refl _ _, ?_, frsh_no⟩
    exact rfl
   | 5, _, hoq =>
    obtain rfl := sI hoq
    have hs0 := hs
    clear hs
    have d4 : gg 53 = .pointer (some ⟨nb2, no2 + jn * 2, none⟩) := hd 4 (dep_of kR)
    have e53 := d4
    refine os_know 53 (.pointer (some ⟨nb2, no2 + jn * 2, none⟩)) e53 nu ?_
    refine os_rv (r_fa U33 sz3_GSearch dE rfl rfl rfl) ⟨Same.refl _ _, ?_, frsh_no⟩
    exact rfl
   | 6, _, hoq =>
    obtain rfl := sI hoq
    have hs0 := hs
    replace hB := hB.tr0 hs
    clear hs
    have d5 : gg 54 = .pointer (some ⟨nb2, no2 + jn * 2 + 0, none⟩) := hd 5 (dep_of kR)
    have e54 := d5
    refine os_know 54 (.pointer (some ⟨nb2, no2 + jn * 2 + 0, none⟩)) e54 nu ?_
    refine os_rv (r_ld1 (v := .int _ _) U3 rfl rfl (hB.cell hnb2 (hnr2 0 _ rfl))) ⟨Same.refl _ _, ?_, frsh_no⟩
    exact rfl
   | 7, _, hoq =>
    obtain rfl := sI hoq
    have hs0 := hs
    replace hb4 := hb4.tr0 hs
    clear hs
    refine os_rv (r_fa U28 sz26_GTgt dE rfl rfl rfl) ⟨Same.refl _ _, ?_, frsh_no⟩
    exact rfl
   | 8, _, hoq =>
    obtain rfl := sI hoq
    have hs0 := hs
    replace hb4 := hb4.tr0 hs
    clear hs
    have d7 : gg 56 = .pointer (some ⟨b4, 0, none⟩) := hd 7 (dep_of kR)
    have e56 := d7
    refine os_know 56 (.pointer (some ⟨b4, 0, none⟩)) e56 nu ?_
    refine os_rv (r_ld1 (v := .slice _ _ _) U26 rfl rfl (hb4.cell rfl)) ⟨Same.refl _ _, ?_, frsh_no⟩
    exact rfl
   | 9, _, hoq =>
    obtain rfl := sI hoq
    have hs0 := hs
    clear hs
    refine os_rv (r_mv (v := .int _ _) rfl) ⟨Same.refl _ _, ?_, frsh_no⟩
    exact rfl
   | 10, _, hoq =>
    obtain rfl := sI hoq
    have hs0 := hs
    clear hs
    have d8 : gg 57 = .slice (some ⟨nb1, no1, none⟩) ga.length c1 := hd 8 (dep_of kR)
    have e57 := d8
    have d9 : gg 58 = .int .i64 (i : Nat) := hd 9 (dep_of kR)
    have e58 := d9
    refine os_know 57 (.slice (some ⟨nb1, no1, none⟩) ga.length c1) e57 nu (os_know 58 (.int .i64 (i : Nat)) e58 nu ?_)
    refine os_rv (r_ia (i := i) U26 sz33_GTgt rfl rfl om rfl) ⟨Same.refl _ _, ?_, frsh_no⟩
    exact rfl
   | 11, _, hoq =>
    obtain rfl := sI hoq
    have hs0 := hs
    clear hs
    have d10 : gg 59 = .pointer (some ⟨nb1, no1 + i * 2, none⟩) := hd 10 (dep_of kR)
    have e59 := d10
    refine os_know 59 (.pointer (some ⟨nb1, no1 + i * 2, none⟩)) e59 nu ?_
    refine os_rv (r_fa U33 sz3_GSearch dE rfl rfl rfl) ⟨Same.refl _ _, ?_, frsh_no⟩
    exact rfl
   | 12, _, hoq =>
    obtain rfl := sI hoq
    have hs0 := hs
    replace hB := hB.tr0 hs
    clear hs
    have d11 : gg 60 = .pointer (some ⟨nb1, no1 + i * 2 + 0, none⟩) := hd 11 (dep_of kR)
    have e60 := d11
    refine os_know 60 (.pointer (some ⟨nb1, no1 + i * 2 + 0, none⟩)) e60 nu ?_
    refine os_rv (r_ld1 (v := .int _ _) U3 rfl rfl (hB.cell hnb1 (hnr1 0 _ rfl))) ⟨Same.refl _ _, ?_, frsh_no⟩
    exact rfl
   | 13, _, hoq =>
    obtain rfl := sI hoq
    have hs0 := hs
    replace hB := hB.tr0 hs
    clear hs
    have d0 : gg 49 = .agg #[.slice (some ⟨bu, 0, none⟩) l.length l.length, .slice (some ⟨bd, 0, none⟩) l.length l.length] := hd 0 (dep_of kR)
    have e49 := d0
    have d6 : gg 55 = .int .i64 (zn : Nat) := hd 6 (dep_of kR)
    have e55 := d6
    have d12 : gg 61 = .int .i64 (yn : Nat) := hd 12 (dep_of kR)
    have e61 := d12
    refine os_know 49 (.agg #[.slice (some ⟨bu, 0, none⟩) l.length l.length, .slice (some ⟨bd, 0, none⟩) l.length l.length]) e49 nu (os_know 55 (.int .i64 (zn : Nat)) e55 nu (os_know 61 (.int .i64 (yn : Nat)) e61 nu ?_))
    refine os_cl fn50_SFind (tsub_any l bu bd zn yn wx (hI.mono hB) hl60 hznl hynl) rfl (fun e' w2 hr => ?_)
    obtain ⟨rfl, hs⟩ := hr
    exact ⟨_, rfl, Same.of_bel hs, rfl, frsh_no⟩
   | 14, _, hoq =>
    obtain rfl := sI hoq
    have hs0 := hs
    clear hs
    have d13 : gg 62 = .bool (sub l zn yn) := hd 13 (dep_of kR)
    have e62 := d13
    refine os_know 62 (.bool (sub l zn yn)) e62 nu ?_
    refine os_rv (r_not rfl) ⟨Same.refl _ _, ?_, frsh_no⟩
    exact rfl
   | _ + 15, hix, _ => exact absurd hix om
  intro gg w10 hs hR hdis
  have hs0 := hs
  replace hB := hB.tr0 hs
  replace hb3 := hb3.tr0 hs
  replace hb4 := hb4.tr0 hs
  replace hb5 := hb5.tr0 hs
  replace hb18 := hb18.tr0 hs
  replace ho := ho.tr0 hs
  clear hs
  have d14 : gg 63 = .bool (!sub l zn yn) := hR 14 dE
  have e63 := d14
  refine wl_know 63 (.bool (!sub l zn yn)) e63 nu (x_nil (e_S ?_))
  refine c_if rfl (fun c63 => ?_) (fun c63 => ?_)
  ·
   have hno : ¬ Maps l ga gb := hfs1.noTy hin (by rw [hoi0, Int.toNat_natCast, hsub]; simpa using c63)
   refine c_seq (c_region (waS rfl (x_nil (e_S (c_ret ?_)))))
   refine e_Sr (e_Br (e_LSr (e_Br (e_Sr (fin1 (.inl rfl) rfl rfl ?_)))))
   exact ⟨find_no hno, hB⟩
  have hty : sub l (nd gb jn).ty.toNat (nd ga i).ty.toNat = true := by rw [hsub]; simpa using c63
  refine c_skip (e_S (c_seq (c_region (wl (r_fa U28 sz26_GTgt dE rfl rfl rfl) (wl (r_ld1 (v := .slice _ _ _) U26 rfl rfl (hb4.cell rfl)) ?_)))))
  refine wmI rfl (wl (r_ia (i := i) U26 sz33_GTgt rfl rfl hin rfl) (wl (r_fa U33 sz31_GTgt dE rfl rfl rfl) (wl (r_ld1 (v := .slice _ _ _) U31 rfl rfl (hB.cell hnb1 (hnr1 1 _ rfl))) (wl (r_len U31 rfl) (wmI rfl ?_)))))
  refine x_nil (e_S (c_block ?_))
  refine c_loopS [6, 9, 13, 14, 71, 72, 73, 74, 75, 76, 77, 78, 79, 80, 81, 82, 83, 84, 85, 86, 87, 88, 89, 90, 91, 92, 93, 94, 95, 96, 97, 98, 99, 100, 101, 102, 103, 104, 105, 106, 107, 108, 109, 110, 111, 112, 113, 114, 115] (fun m g w' => ∃ (q : Nat) (st2 : List Int) (A5 : Option Addr) (cap5 : Nat) (out2 : Nat → Int), q ≤ (ga[i]'hin).ln.length ∧ m = (ga[i]'hin).ln.length - q ∧ g 71 = .int .i64 q ∧ g 9 = .slice A5 st2.length cap5 ∧ out2 i = (jn : Int) ∧ 2 * lackN ga.length (got out2) + st2.length ≤ 2 * lackN ga.length (got out) + st1.length ∧ Bel w w' ∧ Blk w' b3 92 #[.slice (some ⟨bu, 0, none⟩) l.length l.length, .slice (some ⟨bd, 0, none⟩) l.length l.length] ∧ Blk w' b4 28 #[.slice (some ⟨nb1, no1, none⟩) ga.length c1] ∧ Blk w' b5 28 #[.slice (some ⟨nb2, no2, none⟩) gb.length c2] ∧ Blk w' b18 3 (row ga.length (fun x => .int .i64 (out2 x))) ∧ Own w' (b18 + 1) 3 1 A5 (st2).length cap5 ((st2).map (Value.int .i64)) ∧ FS l ga gb out2 st2 i q) ((ga[i]'hin).ln.length) ?_ (fun m g16 w11 hI => ?_)
  ·
   exact ⟨0, st1, _, _, out, Nat.zero_le _, rfl, rfl, rfl, hoi0, Nat.le_refl _, hB, hb3, hb4, hb5, hb18, ho, hfs1⟩
  obtain ⟨q, st2, A5, cap5, out2, hq, hmq, h71, h9, hoi, hms, hB, hb3, hb4, hb5, hb18, ho, hfs2⟩ := hI
  refine c_know 71 (.int .i64 q) h71 nu (c_know 9 (.slice A5 st2.length cap5) h9 nu (c_seq (c_region (wl (r_lss rfl rfl) (x_nil ?_)))))
  refine e_S (c_seq ?_)
  refine c_ifd rfl (fun c72 => ?_) (fun c72 => ?_)
  ·
   have hql : q < (ga[i]'hin).ln.length := by omega
   obtain ⟨lb, lof, rfl, hlb, hlr⟩ := hln.at_ hB hql
   obtain ⟨t, ht, htl⟩ : ∃ t : Nat, ((ga[i]'hin).ln[q]'hql).2 = (t : Int) ∧ t < ga.length := by
     have h1 := hk.ln i hin _ (List.getElem_mem hql)
     exact ⟨(((ga[i]'hin).ln[q]'hql).2).toNat, by omega, by omega⟩
   have hxm : ((ga[i]'hin).ln[q]'hql) ∈ (nd ga i).ln := by rw [nd_eq hin]; exact List.getElem_mem hql
   have hte : tgt (nd gb (out2 i).toNat).ln ((ga[i]'hin).ln[q]'hql).1 = tgt (gb[jn]'hjl).ln ((ga[i]'hin).ln[q]'hql).1 := by rw [hoi, Int.toNat_natCast, nd_eq hjl]
   have hty2 : sub l (nd gb (out2 i).toNat).ty.toNat (nd ga i).ty.toNat = true := by rw [hoi, Int.toNat_natCast]; exact hty
   have htr := tgt_rng hkb hjl ((ga[i]'hin).ln[q]'hql).1
   refine c_skip (e_S (c_seq (c_block (c_seq (c_region ?_)))))
   refine wl (r_ia (i := q) U31 sz30_GSearch rfl rfl om rfl) (wl (r_ldS U30 rfl rfl hlr sz30_GSearch) ?_)
   refine wl_al (cs := #[.int .i64 0, .int .i64 0]) ze30_GTgt rfl (fun b13 w12 hb13 hs hr => ?_)
   have or_b3_b13 : b3 < b13 := nLL hb3.lt hr
   have or_b4_b13 : b4 < b13 := nLL hb4.lt hr
   have or_b5_b13 : b5 < b13 := nLL hb5.lt hr
   have or_b18_b13 : b18 < b13 := nLL hb18.lt hr
   have or_ho_b13 := fun g hg => nLL (ho.lt g hg).2 hr
   have lo13 := nLT (Bel.size hB) hr
   replace hB := hB.tr0 hs
   replace hb3 := hb3.tr0 hs
   replace hb4 := hb4.tr0 hs
   replace hb5 := hb5.tr0 hs
   replace hb18 := hb18.tr0 hs
   replace ho := ho.tr0 hs
   clear hs
   clear hr
   refine wl_stW hb13 rfl rfl sz30_GSearch rfl oneA (fun w13 hq hs => ?_)
   replace hB := hB.tr1 hs lo13
   replace hb3 := hb3.tr1 hs om
   replace hb4 := hb4.tr1 hs om
   replace hb5 := hb5.tr1 hs om
   replace hb18 := hb18.tr1 hs om
   replace ho := ho.tr1 hs (fun g hg => by have := (ho.lt g hg).1; (try have := or_ho_b13 g hg); (try simp only [aL] at hg); (try simp only [List.mem_singleton] at hg); omega)
   clear hs
   replace hb13 := hq
   refine x_nil (e_S (c_seq ?_))
   rw [ht] at hb13
   refine c_region (wl (r_ldS U28 rfl rfl hb5.range0 sz28_GTgt) (wmI rfl (wl (r_fa U30 sz3_GSearch dE rfl rfl rfl) (wl (r_ld1 (v := .int _ _) U3 rfl rfl (hb13.cell rfl)) ?_))))
   refine wl_cl fn51 (target_any (some ⟨nb2, no2, none⟩) c2 fs.length gb jn ((ga[i]'hin).ln[q]'hql).1 _ (hG2.mono hB) hjl (loose_ln hvb.lo jn hjl) om) rfl (fun e' w14 hr => ?_)
   obtain ⟨rfl, hs⟩ := hr
   replace hs := Same.of_bel hs
   replace hB := hB.tr0 hs
   replace hb3 := hb3.tr0 hs
   replace hb4 := hb4.tr0 hs
   replace hb5 := hb5.tr0 hs
   replace hb18 := hb18.tr0 hs
   replace ho := ho.tr0 hs
   replace hb13 := hb13.tr0 hs
   clear hs
   refine ⟨_, rfl, ?_⟩
   refine waI rfl (x_nil (e_S (c_seq (c_seq ?_))))
   refine c_cut1 [80, 81, 82, 83, 84, 85, 86, 87, 88, 89, 90, 91, 92, 93, 94, 95, 96, 97, 98] 98 (.bool (decide (tgt (gb[jn]'hjl).ln ((ga[i]'hin).ln[q]'hql).1 < 0 ∨ 0 ≤ out2 t ∧ ¬ out2 t = tgt (gb[jn]'hjl).ln ((ga[i]'hin).ln[q]'hql).1))) nu ?_ (fun gq => ?_)
   ·
    refine c_region (wmI rfl (wl (r_lss rfl rfl) (wmB rfl ?_)))
    refine wl_casesd 82 rfl (fun g82 => ?_) (fun g82 => ?_)
    ·
     refine wlgn 82 rfl rfl rfl (wlgn 82 rfl rfl rfl (wlgn 82 rfl rfl rfl (wlgn 82 rfl rfl rfl (wlgn 82 rfl rfl rfl (wlgn 82 rfl rfl rfl ?_)))))
     refine wlgn 82 rfl rfl rfl (wlgu 89 rfl rfl (wlgu 89 rfl rfl (wlgu 89 rfl rfl (wlgu 89 rfl rfl (wlgu 89 rfl rfl ?_)))))
     refine wlgu 89 rfl rfl (wlgu 89 rfl rfl (wlgn 82 rfl rfl rfl (wl (r_pt (v := .bool _) rfl rfl) ?_)))
     refine x_nil (e_R ⟨rfl, agA, ?_⟩)
     exact clA
    refine wl_gd 82 rfl rfl (wmS rfl (wl_gd 82 rfl rfl (wl (r_fa U30 sz3_GSearch dE rfl rfl rfl) (wl_gd 82 rfl rfl (wl (r_ld1 (v := .int _ _) U3 rfl rfl (hb13.cell rfl)) ?_)))))
    refine wl_gd 82 rfl rfl (wl (r_ia (i := t) U43 sz3_GSearch rfl rfl htl rfl) (wl_gd 82 rfl rfl (wl (r_ld1 (v := .int _ _) U3 rfl rfl (hb18.cell (row_get htl))) (wl_gd 82 rfl rfl (wl (r_geq rfl rfl) ?_)))))
    refine wl_gd 82 rfl rfl (wmB rfl ?_)
    refine wl_casesd 89 rfl (fun g89 => ?_) (fun g89 => ?_)
    ·
     refine wl_gd 89 rfl rfl (wmS rfl (wl_gd 89 rfl rfl (wl (r_fa U30 sz3_GSearch dE rfl rfl rfl) (wl_gd 89 rfl rfl (wl (r_ld1 (v := .int _ _) U3 rfl rfl (hb13.cell rfl)) ?_)))))
     refine wl_gd 89 rfl rfl (wl (r_ia (i := t) U43 sz3_GSearch rfl rfl htl rfl) (wl_gd 89 rfl rfl (wl (r_ld1 (v := .int _ _) U3 rfl rfl (hb18.cell (row_get htl))) (wl_gd 89 rfl rfl (wmI rfl ?_)))))
     refine wl_gd 89 rfl rfl (wl (r_neq rfl rfl) (wl_gd 82 rfl rfl (wl (r_pt (v := .bool _) rfl rfl) (wl (r_pf (v := .bool _) rfl rfl) ?_))))
     refine x_nil (e_R ⟨rfl, agA, ?_⟩)
     exact clA
    refine wlgn 89 rfl rfl rfl (wlgn 89 rfl rfl rfl (wlgn 89 rfl rfl rfl (wlgn 89 rfl rfl rfl (wlgn 89 rfl rfl rfl (wlgn 89 rfl rfl rfl ?_)))))
    refine wlgn 89 rfl rfl rfl (wl_gd 82 rfl rfl (wl (r_pf (v := .bool _) rfl rfl) (wl (r_pf (v := .bool _) rfl rfl) ?_)))
    refine x_nil (e_R ⟨rfl, agA, ?_⟩)
    exact clA
   refine e_S ?_
   refine c_ifd rfl (fun c98 => ?_) (fun c98 => ?_)
   ·
    have hno : ¬ Maps l ga gb := hfs2.noLn hin hxm (by rw [hte, ht, Int.toNat_natCast]; exact c98)
    refine c_seq (c_region (waS rfl (x_nil (e_S (c_ret ?_)))))
    refine e_Sr (e_Br (e_Sr (e_LSr (e_Br (e_Br ?_)))))
    refine e_LSr (e_Br (e_Sr (fin1 (.inl rfl) rfl rfl ?_)))
    exact ⟨find_no hno, hB⟩
   refine c_skip (e_S (c_seq (c_region (wmS rfl (wl (r_fa U30 sz3_GSearch dE rfl rfl rfl) ?_)))))
   refine wl (r_ld1 (v := .int _ _) U3 rfl rfl (hb13.cell rfl)) (wl (r_ia (i := t) U43 sz3_GSearch rfl rfl htl rfl) (wl (r_ld1 (v := .int _ _) U3 rfl rfl (hb18.cell (row_get htl))) (wl (r_lss rfl rfl) (x_nil (e_S ?_)))))
   refine c_ifd rfl (fun c104 => ?_) (fun c104 => ?_)
   ·
    have hnew := hfs2.new hin hql hty2 ht htl c104 (by rw [hte]; omega) (by rw [hte]; omega)
    rw [hte] at hnew
    refine c_seq (c_region (wmS rfl (wl (r_fa U30 sz3_GSearch dE rfl rfl rfl) (wl (r_ld1 (v := .int _ _) U3 rfl rfl (hb13.cell rfl)) (wmI rfl ?_)))))
    refine wl (r_ia (i := t) U43 sz3_GSearch rfl rfl htl rfl) ?_
    refine wl_st1 (v := .int _ _) hb18 rfl rfl sz3_GSearch (by rw [row_size]; omega) rfl row_set (fun w15 hq hs => ?_)
    replace hB := hB.tr1 hs lo18
    replace hb3 := hb3.tr1 hs om
    replace hb4 := hb4.tr1 hs om
    replace hb5 := hb5.tr1 hs om
    replace ho := ho.tr1 hs (fun g hg => by have := (ho.lt g hg).1; (try have := or_ho_b18 g hg); (try simp only [aL] at hg); (try simp only [List.mem_singleton] at hg); omega)
    replace hb13 := hb13.tr1 hs om
    clear hs
    replace hb18 := hq
    rw [row_setI (out := out2)] at hb18
    refine x_nil (e_S (c_region (wmS rfl (wl (r_fa U30 sz3_GSearch dE rfl rfl rfl) (wl (r_ld1 (v := .int _ _) U3 rfl rfl (hb13.cell rfl)) ?_)))))
    refine wl_bs (cs := #[_]) [(0, .int _ _)] rfl U43 sz3_GSearch ze3_SFind dE dE kR rfl (fun b113 w16 hb113 hs hr => ?_)
    have or_b3_b113 : b3 < b113 := nLL hb3.lt hr
    have or_b4_b113 : b4 < b113 := nLL hb4.lt hr
    have or_b5_b113 : b5 < b113 := nLL hb5.lt hr
    have or_b18_b113 : b18 < b113 := nLL hb18.lt hr
    have or_ho_b113 := fun g hg => nLL (ho.lt g hg).2 hr
    have or_b13_b113 : b13 < b113 := nLL hb13.lt hr
    have lo113 := nLT (Bel.size hB) hr
    replace hB := hB.tr0 hs
    replace hb3 := hb3.tr0 hs
    replace hb4 := hb4.tr0 hs
    replace hb5 := hb5.tr0 hs
    replace hb18 := hb18.tr0 hs
    replace ho := ho.tr0 hs
    replace hb13 := hb13.tr0 hs
    clear hs
    clear hr
    refine wl_app U43 in3_SFind rfl dE ho hb113 rfl rfl rfl oneA dE om om hb18.lt (fun g114 cap114 w17 ho114 hs hg => ?_)
    have ne_ho114_b3 : g114 ≠ b3 := fun e => by
     have hl := hb3.lt
     rcases hg with hg | hg
     · have h1 := ho.lt g114 (by rw [hg]; exact List.mem_singleton.2 rfl)
       (try have := or_ho_b3 g114 (by rw [hg]; exact List.mem_singleton.2 rfl)); omega
     · omega
    have ne_ho114_b4 : g114 ≠ b4 := fun e => by
     have hl := hb4.lt
     rcases hg with hg | hg
     · have h1 := ho.lt g114 (by rw [hg]; exact List.mem_singleton.2 rfl)
       (try have := or_ho_b4 g114 (by rw [hg]; exact List.mem_singleton.2 rfl)); omega
     · omega
    have ne_ho114_b5 : g114 ≠ b5 := fun e => by
     have hl := hb5.lt
     rcases hg with hg | hg
     · have h1 := ho.lt g114 (by rw [hg]; exact List.mem_singleton.2 rfl)
       (try have := or_ho_b5 g114 (by rw [hg]; exact List.mem_singleton.2 rfl)); omega
     · omega
    have ne_ho114_b18 : g114 ≠ b18 := fun e => by
     have hl := hb18.lt
     rcases hg with hg | hg
     · have h1 := ho.lt g114 (by rw [hg]; exact List.mem_singleton.2 rfl)
       (try have := or_ho_b18 g114 (by rw [hg]; exact List.mem_singleton.2 rfl)); omega
     · omega
    have ne_ho114_b13 : g114 ≠ b13 := fun e => by
     have hl := hb13.lt
     rcases hg with hg | hg
     · have h1 := ho.lt g114 (by rw [hg]; exact List.mem_singleton.2 rfl)
       (try have := or_ho_b13 g114 (by rw [hg]; exact List.mem_singleton.2 rfl)); omega
     · omega
    replace hB := hB.tr hs (fun g hg => nLT (Nat.le_succ_of_le lo18) (ho.lt g hg).1)
    replace hb3 := hb3.tr hs (fun hx => by have := (ho.lt _ hx).1; (try have := or_ho_b3 _ hx); omega)
    replace hb4 := hb4.tr hs (fun hx => by have := (ho.lt _ hx).1; (try have := or_ho_b4 _ hx); omega)
    replace hb5 := hb5.tr hs (fun hx => by have := (ho.lt _ hx).1; (try have := or_ho_b5 _ hx); omega)
    replace hb18 := hb18.tr hs (fun hx => by have := (ho.lt _ hx).1; (try have := or_ho_b18 _ hx); omega)
    replace hb13 := hb13.tr hs (fun hx => by have := (ho.lt _ hx).1; (try have := or_ho_b13 _ hx); omega)
    refine waS rfl (x_nil (e_B (e_S (c_region (wl (r_add rfl rfl rfl om) ?_)))))
    refine wmI rfl (x_nil (e_LS ((ga[i]'hin).ln.length - (q + 1)) om agA ?_))
    first
      | exact ⟨q + 1, st2 ++ [(t : Int)], _, _, setI out2 t (tgt (gb[jn]'hjl).ln ((ga[i]'hin).ln[q]'hql).1), by omega, rfl, rfl, sl_snoc _ _ _ _, by rw [setI_ne (fun e => by rw [← e, hoi] at c104; omega)]; exact hoi, by have := lack_got htl c104 (show 0 ≤ tgt (gb[jn]'hjl).ln ((ga[i]'hin).ln[q]'hql).1 by omega); simp only [List.length_append, List.length_cons, List.length_nil]; omega, hB, hb3, hb4, hb5, hb18, own_snoc ho114, hnew⟩
      | exact ⟨q + 1, st2, _, _, out2, by omega, rfl, rfl, rfl, hoi, hms, hB, hb3, hb4, hb5, hb18, ho, hold⟩
   have hold := hfs2.old hin hql hty2 (by rw [ht, Int.toNat_natCast]; omega) (by rw [hte, ht, Int.toNat_natCast]; omega)
   refine c_skip (e_B (e_S (c_region (wl (r_add rfl rfl rfl om) (wmI rfl ?_)))))
   refine x_nil (e_LS ((ga[i]'hin).ln.length - (q + 1)) om agA ?_)
   first
     | exact ⟨q + 1, st2 ++ [(t : Int)], _, _, setI out2 t (tgt (gb[jn]'hjl).ln ((ga[i]'hin).ln[q]'hql).1), by omega, rfl, rfl, sl_snoc _ _ _ _, by rw [setI_ne (fun e => by rw [← e, hoi] at c104; omega)]; exact hoi, by have := lack_got htl c104 (show 0 ≤ tgt (gb[jn]'hjl).ln ((ga[i]'hin).ln[q]'hql).1 by omega); simp only [List.length_append, List.length_cons, List.length_nil]; omega, hB, hb3, hb4, hb5, hb18, own_snoc ho114, hnew⟩
     | exact ⟨q + 1, st2, _, _, out2, by omega, rfl, rfl, rfl, hoi, hms, hB, hb3, hb4, hb5, hb18, ho, hold⟩
  have hqx : q = (ga[i]'hin).ln.length := by omega
  refine c_exit (e_Sx (e_LSx (e_Bx (e_B (e_LS (2 * lackN ga.length (got out2) + st2.length) om agA ?_)))))
  exact ⟨st2, _, _, out2, rfl, by omega, rfl, hB, hb3, hb4, hb5, hb18, ho, hfs2.done hin hqx (by rw [hoi, Int.toNat_natCast]; exact hty)⟩
 have hst : st = [] := List.length_eq_zero_iff.1 om
 subst hst
 refine c_exit (e_Sx (e_LSx (e_Bx (e_S (c_seq ?_)))))
 refine c_region (wmS rfl (waS rfl (x_nil (e_S (c_ret ?_)))))
 refine fin1 (.inl rfl) rfl rfl ?_
 exact ⟨find_yes hva.rch hfs hb18 hn6 lo18, hB⟩
set_option maxHeartbeats 1000000 in
theorem subs_any (A B G1 G2 : Option Addr) (c d c1 c2 : Nat) (l : List Ty) (fs : List Ft) (ga gb : List Nd) (w : World) (hTab : TabIn w) (hT : TypesIn w A l) (hF : FeatsIn w B fs) (hG1 : NodesIn w G1 ga) (hG2 : NodesIn w G2 gb) : Calls Tryd.prog 33 #[.agg #[.slice A l.length c, .slice B fs.length d], .agg #[.slice G1 ga.length c1], .agg #[.slice G2 gb.length c2]] w fun e w' => e = .returned (.tuple #[.bool (subB l fs ga gb), .agg #[.int .i64 (twoG l fs ga gb).1, .int .i64 (twoG l fs ga gb).2]]) ∧ Bel w w' := by
 refine enter Tryd.func33 Tryd.ntmps33 rfl (Nat.le_of_ble_eq_true rfl) ?_
 have hB : Bel w w := Below.refl _ _
 refine c_seq (c_region ?_)
 refine wl_bx (v := .agg #[_, _]) (cs := #[_, _]) rfl rfl (fun b3 w1 hb3 hs hr => ?_)
 have lo3 := nLT (Bel.size hB) hr
 replace hB := hB.tr0 hs
 clear hs
 clear hr
 refine wl_bx (v := .agg #[_]) (cs := #[_]) rfl rfl (fun b4 w2 hb4 hs hr => ?_)
 have or_b3_b4 : b3 < b4 := nLL hb3.lt hr
 have lo4 := nLT (Bel.size hB) hr
 replace hB := hB.tr0 hs
 replace hb3 := hb3.tr0 hs
 clear hs
 clear hr
 refine wl_bx (v := .agg #[_]) (cs := #[_]) rfl rfl (fun b5 w3 hb5 hs hr => ?_)
 have or_b3_b5 : b3 < b5 := nLL hb3.lt hr
 have or_b4_b5 : b4 < b5 := nLL hb4.lt hr
 have lo5 := nLT (Bel.size hB) hr
 replace hB := hB.tr0 hs
 replace hb3 := hb3.tr0 hs
 replace hb4 := hb4.tr0 hs
 clear hs
 clear hr
 refine waB rfl ?_
 refine wl_al (cs := #[.int .i64 0, .int .i64 0]) ze35_SFind rfl (fun b7 w4 hb7 hs hr => ?_)
 have or_b3_b7 : b3 < b7 := nLL hb3.lt hr
 have or_b4_b7 : b4 < b7 := nLL hb4.lt hr
 have or_b5_b7 : b5 < b7 := nLL hb5.lt hr
 have lo7 := nLT (Bel.size hB) hr
 replace hB := hB.tr0 hs
 replace hb3 := hb3.tr0 hs
 replace hb4 := hb4.tr0 hs
 replace hb5 := hb5.tr0 hs
 clear hs
 clear hr
 refine x_nil (e_S (c_seq (c_region (wl (r_ldS U25 rfl rfl hb3.range0 sz25_SFind) (wl (r_ldS U28 rfl rfl hb4.range0 sz28_GTgt) ?_)))))
 refine wl (r_ldS U28 rfl rfl hb5.range0 sz28_GTgt) ?_
 refine wl_cl fn67 (both_any A B G1 G2 c d c1 c2 l fs ga gb _ (hTab.mono hB) (hT.mono hB) (hF.mono hB) (hG1.mono hB) (hG2.mono hB)) rfl (fun e' w5 hr => ?_)
 obtain ⟨⟨U, D, n1, k1, n2, k2, rfl, hTB⟩, hs⟩ := hr
 replace hs := Same.of_bel hs
 replace hB := hB.tr0 hs
 replace hb3 := hb3.tr0 hs
 replace hb4 := hb4.tr0 hs
 replace hb5 := hb5.tr0 hs
 replace hb7 := hb7.tr0 hs
 clear hs
 have hB9 : Bel w5 w5 := Below.refl _ _
 refine ⟨_, rfl, ?_⟩
 refine wmT rfl (wl (r_ex (v := _) rfl rfl) (wl (r_ex (v := _) rfl rfl) ?_))
 refine wl_al (cs := #[.slice none 0 0, .slice none 0 0]) ze92_SFind rfl (fun b8 w6 hb8 hs hr => ?_)
 have or_b3_b8 : b3 < b8 := nLL hb3.lt hr
 have or_b4_b8 : b4 < b8 := nLL hb4.lt hr
 have or_b5_b8 : b5 < b8 := nLL hb5.lt hr
 have or_b7_b8 : b7 < b8 := nLL hb7.lt hr
 have lo8 := nLT (Bel.size hB) hr
 have lo_hB9_b8 := nLT (Bel.size hB9) hr
 replace hB := hB.tr0 hs
 replace hb3 := hb3.tr0 hs
 replace hb4 := hb4.tr0 hs
 replace hb5 := hb5.tr0 hs
 replace hb7 := hb7.tr0 hs
 replace hB9 := hB9.tr0 hs
 clear hs
 clear hr
 refine wl_al (cs := #[.int .i64 0, .int .i64 0]) ze35_SFind rfl (fun b9 w7 hb9 hs hr => ?_)
 have or_b3_b9 : b3 < b9 := nLL hb3.lt hr
 have or_b4_b9 : b4 < b9 := nLL hb4.lt hr
 have or_b5_b9 : b5 < b9 := nLL hb5.lt hr
 have or_b7_b9 : b7 < b9 := nLL hb7.lt hr
 have or_b8_b9 : b8 < b9 := nLL hb8.lt hr
 have lo9 := nLT (Bel.size hB) hr
 have lo_hB9_b9 := nLT (Bel.size hB9) hr
 replace hB := hB.tr0 hs
 replace hb3 := hb3.tr0 hs
 replace hb4 := hb4.tr0 hs
 replace hb5 := hb5.tr0 hs
 replace hb7 := hb7.tr0 hs
 replace hB9 := hB9.tr0 hs
 replace hb8 := hb8.tr0 hs
 clear hs
 clear hr
 refine wl_stW hb8 rfl rfl sz92_SFind rfl oneA (fun w8 hq hs => ?_)
 replace hB := hB.tr1 hs lo8
 replace hb3 := hb3.tr1 hs om
 replace hb4 := hb4.tr1 hs om
 replace hb5 := hb5.tr1 hs om
 replace hb7 := hb7.tr1 hs om
 replace hB9 := hB9.tr1 hs lo_hB9_b8
 replace hb9 := hb9.tr1 hs om
 clear hs
 replace hb8 := hq
 refine wl_stW hb9 rfl rfl sz35_SFind rfl oneA (fun w9 hq hs => ?_)
 replace hB := hB.tr1 hs lo9
 replace hb3 := hb3.tr1 hs om
 replace hb4 := hb4.tr1 hs om
 replace hb5 := hb5.tr1 hs om
 replace hb7 := hb7.tr1 hs om
 replace hB9 := hB9.tr1 hs lo_hB9_b9
 replace hb8 := hb8.tr1 hs om
 clear hs
 replace hb9 := hq
 refine x_nil (e_S (c_seq (c_seq (c_region (wl (r_fa U35 sz3_GSearch dE rfl rfl rfl) ?_)))))
 refine wl (r_ld1 (v := .int _ _) U3 rfl rfl (hb9.cell rfl)) (wl (r_neq rfl rfl) (x_nil (e_S ?_)))
 refine c_ifd rfl (fun c19 => ?_) (fun c19 => ?_)
 ·
  refine c_seq ?_
  refine c_all #[false, false, false] kR (by rfl) (fun w10 hs => ?_)
  replace hB := hB.tr0 hs
  replace hb3 := hb3.tr0 hs
  replace hb4 := hb4.tr0 hs
  replace hb5 := hb5.tr0 hs
  replace hb7 := hb7.tr0 hs
  replace hb8 := hb8.tr0 hs
  replace hb9 := hb9.tr0 hs
  clear hs
  refine a_step [0, 1] kR rfl ⟨fun o hoq => ?_, fun o hoq => ?_, trivial⟩
  ·
   obtain rfl := sI hoq
   refine wl (r_ldS U35 rfl rfl hb9.range0 sz35_SFind) (x_nil (e_A (listed' := #[true, false, false]) (by rfl) ?_))
   refine a_step [1] kR rfl ⟨fun o hoq => ?_, trivial⟩
   obtain rfl := sI hoq
   refine waB rfl (x_nil (e_A (listed' := #[true, true, false]) (by rfl) ?_))
   refine a_step [2] kR rfl ⟨fun o hoq => ?_, trivial⟩
   obtain rfl := sI hoq
   refine wl_stW hb7 rfl rfl sz35_SFind rfl oneA (fun w11 hq hs => ?_)
   replace hB := hB.tr1 hs lo7
   replace hb3 := hb3.tr1 hs om
   replace hb4 := hb4.tr1 hs om
   replace hb5 := hb5.tr1 hs om
   replace hb8 := hb8.tr1 hs om
   replace hb9 := hb9.tr1 hs om
   clear hs
   replace hb7 := hq
   refine x_nil (e_A (listed' := #[true, true, true]) (by rfl) (a_end kR (e_S (c_ret (e_Sr ?_)))))
   refine fin2 (.inl rfl) rfl rfl (rr_cell U35 rfl rfl hb7.range0 sz35_SFind) ?_
   exact ⟨ret_sb (subB_no c19) rfl, hB⟩
  obtain rfl := sI hoq
  refine waB rfl (x_nil (e_A (listed' := #[false, true, false]) (by rfl) ?_))
  refine a_step [0] kR rfl ⟨fun o hoq => ?_, trivial⟩
  obtain rfl := sI hoq
  refine wl (r_ldS U35 rfl rfl hb9.range0 sz35_SFind) (x_nil (e_A (listed' := #[true, true, false]) (by rfl) ?_))
  refine a_step [2] kR rfl ⟨fun o hoq => ?_, trivial⟩
  obtain rfl := sI hoq
  refine wl_stW hb7 rfl rfl sz35_SFind rfl oneA (fun w12 hq hs => ?_)
  replace hB := hB.tr1 hs lo7
  replace hb3 := hb3.tr1 hs om
  replace hb4 := hb4.tr1 hs om
  replace hb5 := hb5.tr1 hs om
  replace hb8 := hb8.tr1 hs om
  replace hb9 := hb9.tr1 hs om
  clear hs
  replace hb7 := hq
  refine x_nil (e_A (listed' := #[true, true, true]) (by rfl) (a_end kR (e_S (c_ret (e_Sr ?_)))))
  refine fin2 (.inl rfl) rfl rfl (rr_cell U35 rfl rfl hb7.range0 sz35_SFind) ?_
  exact ⟨ret_sb (subB_no c19) rfl, hB⟩
 have h0 := Decidable.not_not.1 c19
 obtain ⟨⟨hva, hvb⟩, _⟩ := two_gv h0
 have hzz := two_zz h0
 obtain ⟨bu, bd, ⟨rfl, rfl, rfl, rfl, rfl, rfl⟩, hTI⟩ := hTB h0
 refine c_skip (e_S (c_seq (c_region (wl (r_ldS U92 rfl rfl hb8.range0 sz92_SFind) (wl (r_ldS U28 rfl rfl hb4.range0 sz28_GTgt) ?_)))))
 refine wl (r_ldS U28 rfl rfl hb5.range0 sz28_GTgt) ?_
 refine wl_cl fn68 (find_any G1 G2 c1 c2 bu bd l fs ga gb _ (hTI.mono hB9) (hG1.mono hB) (hG2.mono hB) hva hvb) rfl (fun e' w13 hr => ?_)
 obtain ⟨⟨FA, fc, rfl, _, hFN⟩, hs⟩ := hr
 replace hs := Same.of_bel hs
 replace hB := hB.tr0 hs
 replace hb3 := hb3.tr0 hs
 replace hb4 := hb4.tr0 hs
 replace hb5 := hb5.tr0 hs
 replace hb7 := hb7.tr0 hs
 replace hB9 := hB9.tr0 hs
 replace hb8 := hb8.tr0 hs
 replace hb9 := hb9.tr0 hs
 clear hs
 refine ⟨_, rfl, ?_⟩
 refine wl (r_neqNil U43 rfl rfl) (wl (r_bd (vs := #[]) (cs := #[.int .i64 0, .int .i64 0]) (by simp) kR) (waB rfl ?_))
 refine wl_stW hb7 rfl rfl sz35_SFind rfl oneA (fun w14 hq hs => ?_)
 replace hB := hB.tr1 hs lo7
 replace hb3 := hb3.tr1 hs om
 replace hb4 := hb4.tr1 hs om
 replace hb5 := hb5.tr1 hs om
 replace hb8 := hb8.tr1 hs om
 replace hb9 := hb9.tr1 hs om
 clear hs
 replace hb7 := hq
 refine x_nil (e_S (c_ret (fin2 (.inl rfl) rfl rfl (rr_cell U35 rfl rfl hb7.range0 sz35_SFind) ?_)))
 exact ⟨ret_sb (by rw [subB_yes h0, hFN, Bool.not_not]) hzz, hB⟩
theorem twof_any (A B G1 G2 : Option Addr) (c d c1 c2 : Nat) (l : List Ty) (fs : List Ft) (ga gb : List Nd) (w : World) (hcl : l.length ≤ c) (hdl : fs.length ≤ d) (hT : TypesIn w A l) (hF : FeatsIn w B fs) (hG1 : NodesIn w G1 ga) (hG2 : NodesIn w G2 gb) : Calls Tryd.prog 32 #[.agg #[.slice A l.length c, .slice B fs.length d], .agg #[.slice G1 ga.length c1], .agg #[.slice G2 gb.length c2]] w fun e w' => e = .returned (.agg #[.int .i64 (twoG l fs ga gb).1, .int .i64 (twoG l fs ga gb).2]) ∧ Bel w w' := by
 refine enter Tryd.func32 Tryd.ntmps32 rfl (Nat.le_of_ble_eq_true rfl) ?_
 have hB : Bel w w := Below.refl _ _
 refine c_seq (c_region ?_)
 refine wl_bx (v := .agg #[_, _]) (cs := #[_, _]) rfl rfl (fun b3 w1 hb3 hs hr => ?_)
 have lo3 := nLT (Bel.size hB) hr
 replace hB := hB.tr0 hs
 clear hs
 clear hr
 refine wl_bx (v := .agg #[_]) (cs := #[_]) rfl rfl (fun b4 w2 hb4 hs hr => ?_)
 have or_b3_b4 : b3 < b4 := nLL hb3.lt hr
 have lo4 := nLT (Bel.size hB) hr
 replace hB := hB.tr0 hs
 replace hb3 := hb3.tr0 hs
 clear hs
 clear hr
 refine wl_bx (v := .agg #[_]) (cs := #[_]) rfl rfl (fun b5 w3 hb5 hs hr => ?_)
 have or_b3_b5 : b3 < b5 := nLL hb3.lt hr
 have or_b4_b5 : b4 < b5 := nLL hb4.lt hr
 have lo5 := nLT (Bel.size hB) hr
 replace hB := hB.tr0 hs
 replace hb3 := hb3.tr0 hs
 replace hb4 := hb4.tr0 hs
 clear hs
 clear hr
 refine wl_al (cs := #[.int .i64 0, .int .i64 0]) ze35_SFind rfl (fun b6 w4 hb6 hs hr => ?_)
 have or_b3_b6 : b3 < b6 := nLL hb3.lt hr
 have or_b4_b6 : b4 < b6 := nLL hb4.lt hr
 have or_b5_b6 : b5 < b6 := nLL hb5.lt hr
 have lo6 := nLT (Bel.size hB) hr
 replace hB := hB.tr0 hs
 replace hb3 := hb3.tr0 hs
 replace hb4 := hb4.tr0 hs
 replace hb5 := hb5.tr0 hs
 clear hs
 clear hr
 refine x_nil (e_S (c_seq (c_seq (c_region (wl (r_ldS U25 rfl rfl hb3.range0 sz25_SFind) ?_)))))
 refine wl (r_ldS U28 rfl rfl hb4.range0 sz28_GTgt) ?_
 refine wl_cl fn13 (gfau_any A B G1 c d c1 l fs ga _ hcl hdl (hT.mono hB) (hF.mono hB) (hG1.mono hB)) rfl (fun e' w5 hr => ?_)
 obtain ⟨rfl, hs⟩ := hr
 replace hs := Same.of_bel hs
 replace hB := hB.tr0 hs
 replace hb3 := hb3.tr0 hs
 replace hb4 := hb4.tr0 hs
 replace hb5 := hb5.tr0 hs
 replace hb6 := hb6.tr0 hs
 clear hs
 refine ⟨_, rfl, ?_⟩
 refine wl_al (cs := #[.int .i64 0, .int .i64 0]) ze35_SFind rfl (fun b7 w6 hb7 hs hr => ?_)
 have or_b3_b7 : b3 < b7 := nLL hb3.lt hr
 have or_b4_b7 : b4 < b7 := nLL hb4.lt hr
 have or_b5_b7 : b5 < b7 := nLL hb5.lt hr
 have or_b6_b7 : b6 < b7 := nLL hb6.lt hr
 have lo7 := nLT (Bel.size hB) hr
 replace hB := hB.tr0 hs
 replace hb3 := hb3.tr0 hs
 replace hb4 := hb4.tr0 hs
 replace hb5 := hb5.tr0 hs
 replace hb6 := hb6.tr0 hs
 clear hs
 clear hr
 refine wl_stW hb7 rfl rfl sz35_SFind rfl oneA (fun w7 hq hs => ?_)
 replace hB := hB.tr1 hs lo7
 replace hb3 := hb3.tr1 hs om
 replace hb4 := hb4.tr1 hs om
 replace hb5 := hb5.tr1 hs om
 replace hb6 := hb6.tr1 hs om
 clear hs
 replace hb7 := hq
 refine x_nil (e_S (c_seq (c_region (wl (r_fa U35 sz3_GSearch dE rfl rfl rfl) (wl (r_ld1 (v := .int _ _) U3 rfl rfl (hb7.cell rfl)) ?_)))))
 refine wl (r_neq rfl rfl) (x_nil (e_S ?_))
 refine c_ifd rfl (fun c13 => ?_) (fun c13 => ?_)
 ·
  refine c_seq (c_region (wl (r_ldS U35 rfl rfl hb7.range0 sz35_SFind) ?_))
  refine wl_stW hb6 rfl rfl sz35_SFind rfl oneA (fun w8 hq hs => ?_)
  replace hB := hB.tr1 hs lo6
  replace hb3 := hb3.tr1 hs om
  replace hb4 := hb4.tr1 hs om
  replace hb5 := hb5.tr1 hs om
  replace hb7 := hb7.tr1 hs om
  clear hs
  replace hb6 := hq
  refine x_nil (e_S (c_ret (e_Sr (fin1 (.inl rfl) rfl (rr_cell U35 rfl rfl hb6.range0 sz35_SFind) ?_))))
  exact ⟨by unfold twoG; rw [if_pos c13], hB⟩
 have h0 := Decidable.not_not.1 c13
 have hgv := gv_of h0
 have e2 : twoG l fs ga gb = withinF l fs gb := by unfold twoG; rw [if_neg (fun k => k h0)]
 refine c_skip (e_S (c_seq (c_region (wl (r_ldS U25 rfl rfl hb3.range0 sz25_SFind) (wl (r_ldS U28 rfl rfl hb5.range0 sz28_GTgt) ?_)))))
 refine wl_cl fn40_SFind (inh_any A B G2 c d c2 l fs gb _ (hT.mono hB) hgv.s.vt hgv.s.le (hF.mono hB) (hG2.mono hB) hgv.f) rfl (fun e' w9 hr => ?_)
 obtain ⟨rfl, hs⟩ := hr
 replace hs := Same.of_bel hs
 replace hB := hB.tr0 hs
 replace hb3 := hb3.tr0 hs
 replace hb4 := hb4.tr0 hs
 replace hb5 := hb5.tr0 hs
 replace hb6 := hb6.tr0 hs
 replace hb7 := hb7.tr0 hs
 clear hs
 refine ⟨_, rfl, ?_⟩
 refine wl_stW hb6 rfl rfl sz35_SFind rfl oneA (fun w10 hq hs => ?_)
 replace hB := hB.tr1 hs lo6
 replace hb3 := hb3.tr1 hs om
 replace hb4 := hb4.tr1 hs om
 replace hb5 := hb5.tr1 hs om
 replace hb7 := hb7.tr1 hs om
 clear hs
 replace hb6 := hq
 refine x_nil (e_S (c_ret (fin1 (.inl rfl) rfl (rr_cell U35 rfl rfl hb6.range0 sz35_SFind) ?_)))
 exact ⟨by rw [e2], hB⟩
end Go.Proofs.YtegngekpmpdngaaDoor
