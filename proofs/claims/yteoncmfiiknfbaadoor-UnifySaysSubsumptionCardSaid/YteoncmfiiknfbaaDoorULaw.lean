/- What these functions of the program compute, at every world: glosswright/glosswrightlaw3.UnifySaysSubsumption. -/
import Derived.Test.YteoncmfiiknfbaaDoorSBase
import Derived.Test.YteoncmfiiknfbaaDoorLub
namespace Go.Proofs.YteoncmfiiknfbaaDoor
open Go.RowKit

theorem unip_any {w : World} {A B G1 G2 : Option Addr} (hTab : TabIn w) (hT : TypesIn w A pairT) (hF : FeatsIn w B pairF) (hG1 : NodesIn w G1 zeroG) (hG2 : NodesIn w G2 sharedG) : Calls Tryd.prog 16 #[.agg #[.slice A 4 4, .slice B 2 2], .agg #[.slice G1 1 1], .agg #[.slice G2 2 2]] w fun e w' => (∃ GA, e = .returned (.tuple #[.agg #[.slice GA 2 2], .bool true, .agg #[.int .i64 0, .int .i64 0]]) ∧ NodesIn w' GA sharedG) ∧ Bel w w' := by
  refine (unify_any A B G1 G2 4 2 1 2 pairT pairF zeroG sharedG w hTab hT hF hG1 hG2).mono fun e w' h => ?_
  obtain ⟨⟨GA, X, ok, f, he, hN, hU⟩, hs⟩ := h
  have h0 := two_mk zero_ok shared_ok
  obtain ⟨hu1, hu2⟩ := unify_says h0 hU
  have hok : ok = true := by
    rcases Bool.eq_false_or_eq_true ok with h | h
    · exact h
    · have := hu1 h
      rw [subB_zs] at this
      cases this
  obtain ⟨hf, hd⟩ := hu2 hok
  rw [subB_zs, canF_ok shared_ok shared_dl] at hd
  have hX : X = sharedG := (of_decide_eq_true hd).trans (by decide)
  subst hX hok hf
  exact ⟨⟨GA, he, hN _ (FrSame.refl _ _)⟩, hs⟩

theorem fn10 : callable Tryd.prog 10 = true := by kernel_rfl
theorem fn11 : callable Tryd.prog 11 = true := by kernel_rfl
theorem fn13 : callable Tryd.prog 13 = true := by kernel_rfl
theorem fn14 : callable Tryd.prog 14 = true := by kernel_rfl
theorem fn16 : callable Tryd.prog 16 = true := by kernel_rfl
theorem fn17 : callable Tryd.prog 17 = true := by kernel_rfl
theorem fn18 : callable Tryd.prog 18 = true := by kernel_rfl
theorem fn19 : callable Tryd.prog 19 = true := by kernel_rfl
set_option maxHeartbeats 4000000 in
theorem law21_any (A B G1 G2 : Option Addr) (c d c1 c2 : Nat) (l : List Ty) (fs : List Ft) (ga gb : List Nd) (w : World) (hTab : TabIn w) (hcl : l.length ≤ c) (hdl : fs.length ≤ d) (hT : TypesIn w A l) (hF : FeatsIn w B fs) (hG1 : NodesIn w G1 ga) (hG2 : NodesIn w G2 gb) : Calls Tryd.prog 4 #[.agg #[.slice A l.length c, .slice B fs.length d], .agg #[.slice G1 ga.length c1], .agg #[.slice G2 gb.length c2]] w fun e w' => e = .returned (.bool true) ∧ Bel w w' := by
 refine enter Tryd.func4 Tryd.ntmps4 rfl (Nat.le_of_ble_eq_true rfl) ?_
 have hB : Bel w w := Below.refl _ _
 refine c_seq ?_
 refine c_region ?_
 refine wl_bx (v := .agg #[_, _]) (cs := #[_, _]) rfl rfl (fun b3 w1 hb3 hs hr => ?_)
 have lo3 := Nat.le_trans (Bel.size hB) hr
 replace hB := hB.tr0 hs
 clear hs
 clear hr
 refine wl_bx (v := .agg #[_]) (cs := #[_]) rfl rfl (fun b4 w2 hb4 hs hr => ?_)
 have or_b3_b4 : b3 < b4 := Nat.lt_of_lt_of_le hb3.lt hr
 have lo4 := Nat.le_trans (Bel.size hB) hr
 replace hB := hB.tr0 hs
 replace hb3 := hb3.tr0 hs
 clear hs
 clear hr
 refine wl_bx (v := .agg #[_]) (cs := #[_]) rfl rfl (fun b5 w3 hb5 hs hr => ?_)
 have or_b3_b5 : b3 < b5 := Nat.lt_of_lt_of_le hb3.lt hr
 have or_b4_b5 : b4 < b5 := Nat.lt_of_lt_of_le hb4.lt hr
 have lo5 := Nat.le_trans (Bel.size hB) hr
 replace hB := hB.tr0 hs
 replace hb3 := hb3.tr0 hs
 replace hb4 := hb4.tr0 hs
 clear hs
 clear hr
 refine wl (r_as (v := .bool _) rfl) ?_
 refine x_nil ?_
 refine e_S ?_
 refine c_seq ?_
 refine c_seq ?_
 refine c_region ?_
 refine wl_cl fn10 (pair_any _) rfl (fun e' w4 hr => ?_)
 obtain ⟨⟨Ap, Bp, rfl, hTp, hFp⟩, hs⟩ := hr
 replace hs := Same.of_bel hs
 replace hB := hB.tr0 hs
 replace hb3 := hb3.tr0 hs
 replace hb4 := hb4.tr0 hs
 replace hb5 := hb5.tr0 hs
 clear hs
 have hB0 : Bel w4 w4 := Below.refl _ _
 refine ⟨_, rfl, ?_⟩
 refine wl_cl fn17 (single_any 0 _) rfl (fun e' w5 hr => ?_)
 obtain ⟨⟨Gz, rfl, hGz⟩, hs⟩ := hr
 replace hs := Same.of_bel hs
 replace hB := hB.tr0 hs
 replace hb3 := hb3.tr0 hs
 replace hb4 := hb4.tr0 hs
 replace hb5 := hb5.tr0 hs
 replace hB0 := hB0.tr0 hs
 clear hs
 have hB1 : Bel w5 w5 := Below.refl _ _
 refine ⟨_, rfl, ?_⟩
 refine wl_cl fn11 (shared_any _) rfl (fun e' w6 hr => ?_)
 obtain ⟨⟨Gb, rfl, hGb⟩, hs⟩ := hr
 replace hs := Same.of_bel hs
 replace hB := hB.tr0 hs
 replace hb3 := hb3.tr0 hs
 replace hb4 := hb4.tr0 hs
 replace hb5 := hb5.tr0 hs
 replace hB0 := hB0.tr0 hs
 replace hB1 := hB1.tr0 hs
 clear hs
 have hB2 : Bel w6 w6 := Below.refl _ _
 refine ⟨_, rfl, ?_⟩
 refine wl_cl fn16 (unip_any (hTab.mono hB) (hTp.mono hB0) (hFp.mono hB0) (hGz.mono hB1) (hGb.mono hB2)) rfl (fun e' w7 hr => ?_)
 obtain ⟨⟨GW, rfl, hGW⟩, hs⟩ := hr
 replace hs := Same.of_bel hs
 replace hB := hB.tr0 hs
 replace hb3 := hb3.tr0 hs
 replace hb4 := hb4.tr0 hs
 replace hb5 := hb5.tr0 hs
 replace hB0 := hB0.tr0 hs
 replace hB1 := hB1.tr0 hs
 replace hB2 := hB2.tr0 hs
 clear hs
 have hBW : Bel w7 w7 := Below.refl _ _
 refine ⟨_, rfl, ?_⟩
 refine wl (r_mv (v := .tuple _) rfl) ?_
 refine wl (r_ex (v := _) rfl rfl) ?_
 refine wl (r_ex (v := _) rfl rfl) ?_
 refine wl (r_ex (v := _) rfl rfl) ?_
 refine wl_al (cs := #[.slice none 0 0]) ze28 rfl (fun b7 w8 hb7 hs hr => ?_)
 have or_b3_b7 : b3 < b7 := Nat.lt_of_lt_of_le hb3.lt hr
 have or_b4_b7 : b4 < b7 := Nat.lt_of_lt_of_le hb4.lt hr
 have or_b5_b7 : b5 < b7 := Nat.lt_of_lt_of_le hb5.lt hr
 have lo7 := Nat.le_trans (Bel.size hB) hr
 have lo_hBW_b7 := Nat.le_trans (Bel.size hBW) hr
 replace hB := hB.tr0 hs
 replace hb3 := hb3.tr0 hs
 replace hb4 := hb4.tr0 hs
 replace hb5 := hb5.tr0 hs
 replace hBW := hBW.tr0 hs
 clear hs
 clear hr
 refine wl_al (cs := #[.int .i64 0, .int .i64 0]) ze30_GLoose rfl (fun b9 w9 hb9 hs hr => ?_)
 have or_b3_b9 : b3 < b9 := Nat.lt_of_lt_of_le hb3.lt hr
 have or_b4_b9 : b4 < b9 := Nat.lt_of_lt_of_le hb4.lt hr
 have or_b5_b9 : b5 < b9 := Nat.lt_of_lt_of_le hb5.lt hr
 have or_b7_b9 : b7 < b9 := Nat.lt_of_lt_of_le hb7.lt hr
 have lo9 := Nat.le_trans (Bel.size hB) hr
 have lo_hBW_b9 := Nat.le_trans (Bel.size hBW) hr
 replace hB := hB.tr0 hs
 replace hb3 := hb3.tr0 hs
 replace hb4 := hb4.tr0 hs
 replace hb5 := hb5.tr0 hs
 replace hBW := hBW.tr0 hs
 replace hb7 := hb7.tr0 hs
 clear hs
 clear hr
 refine wl_stW hb7 rfl rfl sz28 rfl (by repeat (first | rfl | refine one_cons (by first | rfl | assumption) ?_)) (fun w10 hq hs => ?_)
 replace hB := hB.tr1 hs lo7
 replace hb3 := hb3.tr1 hs (by omega)
 replace hb4 := hb4.tr1 hs (by omega)
 replace hb5 := hb5.tr1 hs (by omega)
 replace hBW := hBW.tr1 hs lo_hBW_b7
 replace hb9 := hb9.tr1 hs (by omega)
 clear hs
 replace hb7 := hq
 refine wl (r_as (v := .bool _) rfl) ?_
 refine wl_stW hb9 rfl rfl sz30_GLoose rfl (by repeat (first | rfl | refine one_cons (by first | rfl | assumption) ?_)) (fun w11 hq hs => ?_)
 replace hB := hB.tr1 hs lo9
 replace hb3 := hb3.tr1 hs (by omega)
 replace hb4 := hb4.tr1 hs (by omega)
 replace hb5 := hb5.tr1 hs (by omega)
 replace hBW := hBW.tr1 hs lo_hBW_b9
 replace hb7 := hb7.tr1 hs (by omega)
 clear hs
 replace hb9 := hq
 refine x_nil ?_
 refine e_S ?_
 refine c_seq ?_
 refine c_monoGO 8 [23, 24, 25, 26, 27, 28, 29, 30] (fun _ => false) (fun ix v wv => match ix with | 0 => v = .bool true | 1 => v = .bool false | 2 => v = .bool false | 3 => v = .agg #[.slice GW 2 2] | 4 => ∃ AS, v = .agg #[.slice AS 2 2] ∧ NodesIn wv AS sharedG | 5 => v = .bool true | 6 => v = .bool false | 7 => v = .bool false | _ => True) (by kernel_rfl) (by kernel_rfl) ?_ ?_ ?_
 ·
  intro ix v wv wv2 h hs
  match ix, h with
  | 0, h => exact h
  | 1, h => exact h
  | 2, h => exact h
  | 3, h => exact h
  | 4, h =>
   obtain ⟨AS, e27, hNS⟩ := (show ∃ AS, v = .agg #[.slice AS 2 2] ∧ NodesIn wv AS sharedG from h)
   exact ⟨AS, e27, hNS.mono hs.bel⟩
  | 5, h => exact h
  | 6, h => exact h
  | 7, h => exact h
  | _ + 8, h => exact trivial
 ·
  intro ix o hix hoq gg wx hs hd hdis
  match ix, hix, hoq with
  | 0, _, hoq =>
   obtain rfl : _ = o := Option.some.inj hoq
   have hs0 := hs
   clear hs
   refine ⟨fun _ => ?_, fun hw => Bool.noConfusion (show true = false from hw)⟩
   refine os_rv (r_mv (v := .bool _) rfl) ⟨Same.refl _ _, ?_, frsh_no⟩
   exact rfl
  | 1, _, hoq =>
   obtain rfl : _ = o := Option.some.inj hoq
   have hs0 := hs
   clear hs
   have d0 : gg 23 = .bool true := hd 0 (dep_of (by kernel_rfl))
   have e23 := d0
   refine ⟨fun _ => ?_, fun hw => Bool.noConfusion (show true = false from hw)⟩
   refine os_know 23 (.bool true) e23 (by simp [undef]) ?_
   refine os_rv (r_not rfl) ⟨Same.refl _ _, ?_, frsh_no⟩
   exact rfl
  | 2, _, hoq =>
   obtain rfl : _ = o := Option.some.inj hoq
   have hs0 := hs
   clear hs
   have d1 : gg 24 = .bool false := hd 1 (dep_of (by kernel_rfl))
   have e24 := d1
   refine ⟨fun _ => ?_, fun hw => Bool.noConfusion (show true = false from hw)⟩
   refine os_know 24 (.bool false) e24 (by simp [undef]) ?_
   refine os_rv (r_mv (v := .bool _) rfl) ⟨Same.refl _ _, ?_, frsh_no⟩
   exact rfl
  | 3, _, hoq =>
   obtain rfl : _ = o := Option.some.inj hoq
   have hs0 := hs
   replace hb7 := hb7.tr0 hs
   clear hs
   have d2 : gg 25 = .bool false := hd 2 (dep_of (by kernel_rfl))
   have e25 := d2
   refine guard_case 25 false rfl e25 (fun _ => ?_) (fun h => absurd h (by decide))
   refine os_know 25 (.bool false) e25 (by simp [undef]) ?_
   refine os_rv (r_ldS Tryd.underlying28 rfl rfl hb7.range0 sz28) ⟨Same.refl _ _, ?_, frsh_no⟩
   exact rfl
  | 4, _, hoq =>
   obtain rfl : _ = o := Option.some.inj hoq
   have hs0 := hs
   clear hs
   have d2 : gg 25 = .bool false := hd 2 (dep_of (by kernel_rfl))
   have e25 := d2
   refine guard_case 25 false rfl e25 (fun _ => ?_) (fun h => absurd h (by decide))
   refine os_know 25 (.bool false) e25 (by simp [undef]) ?_
   refine os_cl fn11 (shared_any wx) rfl (fun e' w2 hr => ?_)
   obtain ⟨⟨AS, rfl, hNS⟩, hs⟩ := hr
   exact ⟨_, rfl, Same.of_bel hs, ⟨_, rfl, hNS⟩, frsh_no⟩
  | 5, _, hoq =>
   obtain rfl : _ = o := Option.some.inj hoq
   have hs0 := hs
   replace hBW := hBW.tr0 hs
   clear hs
   have d2 : gg 25 = .bool false := hd 2 (dep_of (by kernel_rfl))
   have e25 := d2
   have d3 : gg 26 = .agg #[.slice GW 2 2] := hd 3 (dep_of (by kernel_rfl))
   have e26 := d3
   have d4 : ∃ AS, gg 27 = .agg #[.slice AS 2 2] ∧ NodesIn wx AS sharedG := hd 4 (dep_of (by kernel_rfl))
   obtain ⟨AS, e27, hNS⟩ := d4
   refine guard_case 25 false rfl e25 (fun _ => ?_) (fun h => absurd h (by decide))
   refine os_know 25 (.bool false) e25 (by simp [undef]) ?_
   refine os_know 26 (.agg #[.slice GW 2 2]) e26 (by simp [undef]) ?_
   refine os_know 27 (.agg #[.slice AS 2 2]) e27 (by simp [undef]) ?_
   refine os_cl fn13 (same_any GW AS 2 2 2 2 sharedG sharedG wx (hGW.mono hBW) hNS rfl rfl rfl) rfl (fun e' w2 hr => ?_)
   obtain ⟨rfl, hs⟩ := hr
   exact ⟨_, rfl, Same.of_bel hs, rfl, frsh_no⟩
  | 6, _, hoq =>
   obtain rfl : _ = o := Option.some.inj hoq
   have hs0 := hs
   clear hs
   have d2 : gg 25 = .bool false := hd 2 (dep_of (by kernel_rfl))
   have e25 := d2
   have d5 : gg 28 = .bool true := hd 5 (dep_of (by kernel_rfl))
   have e28 := d5
   refine guard_case 25 false rfl e25 (fun _ => ?_) (fun h => absurd h (by decide))
   refine os_know 25 (.bool false) e25 (by simp [undef]) ?_
   refine os_know 28 (.bool true) e28 (by simp [undef]) ?_
   refine os_rv (r_not rfl) ⟨Same.refl _ _, ?_, frsh_no⟩
   exact rfl
  | 7, _, hoq =>
   obtain rfl : _ = o := Option.some.inj hoq
   have hs0 := hs
   clear hs
   have d2 : gg 25 = .bool false := hd 2 (dep_of (by kernel_rfl))
   have e25 := d2
   have d6 : gg 29 = .bool false := hd 6 (dep_of (by kernel_rfl))
   have e29 := d6
   refine ⟨fun _ => ?_, fun hw => Bool.noConfusion (show true = false from hw)⟩
   refine os_know 25 (.bool false) e25 (by simp [undef]) ?_
   refine os_know 29 (.bool false) e29 (by simp [undef]) ?_
   refine os_rv (r_pf (v := .bool _) rfl rfl) ⟨Same.refl _ _, ?_, frsh_no⟩
   exact rfl
  | _ + 8, hix, _ => exact absurd hix (by omega)
 ·
  intro gg w12 hs hR hdis
  have hs0 := hs
  replace hB := hB.tr0 hs
  replace hb3 := hb3.tr0 hs
  replace hb4 := hb4.tr0 hs
  replace hb5 := hb5.tr0 hs
  replace hBW := hBW.tr0 hs
  replace hb7 := hb7.tr0 hs
  replace hb9 := hb9.tr0 hs
  clear hs
  have d7 : gg 30 = .bool false := hR 7 (by decide)
  have e30 := d7
  refine wl_know 30 (.bool false) e30 (by simp [undef]) ?_
  refine x_nil ?_
  refine e_S ?_
  refine c_if rfl (fun c30 => ?_) (fun c30 => ?_)
  ·
   exact absurd c30 (by decide)
  ·
   refine c_skip ?_
   refine e_S ?_
   refine c_seq ?_
   refine c_seq ?_
   refine c_region ?_
   refine wl (r_ldS Tryd.underlying25 rfl rfl hb3.range0 sz25_SFind) ?_
   refine wl (r_ldS Tryd.underlying28 rfl rfl hb4.range0 sz28) ?_
   refine wl (r_ldS Tryd.underlying28 rfl rfl hb5.range0 sz28) ?_
   refine wl_cl fn14 (twof_any A B G1 G2 c d c1 c2 l fs ga gb _ hcl hdl (hT.mono hB) (hF.mono hB) (hG1.mono hB) (hG2.mono hB)) rfl (fun e' w13 hr => ?_)
   obtain ⟨rfl, hs⟩ := hr
   replace hs := Same.of_bel hs
   replace hB := hB.tr0 hs
   replace hb3 := hb3.tr0 hs
   replace hb4 := hb4.tr0 hs
   replace hb5 := hb5.tr0 hs
   replace hb7 := hb7.tr0 hs
   replace hb9 := hb9.tr0 hs
   clear hs
   refine ⟨_, rfl, ?_⟩
   refine wl (r_fd1 (v := .int _ _) Tryd.underlying30 rfl Tryd.underlying3 rfl rfl rfl) ?_
   refine wl (r_neq rfl rfl) ?_
   refine x_nil ?_
   refine e_S ?_
   refine c_ifd rfl (fun c36 => ?_) (fun c36 => ?_)
   ·
    refine c_seq ?_
    refine c_region ?_
    refine wl (r_as (v := .bool _) rfl) ?_
    refine x_nil ?_
    refine e_S ?_
    refine c_ret ?_
    refine e_Sr ?_
    refine fin1 (.inl rfl) rfl rfl ?_
    exact ⟨rfl, hB⟩
   ·
    have h0 := Decidable.not_not.1 c36
    obtain ⟨⟨hva, hvb⟩, hga0, hgb0⟩ := two_gv h0
    refine c_skip ?_
    refine e_S ?_
    refine c_seq ?_
    refine c_region ?_
    refine wl (r_ldS Tryd.underlying25 rfl rfl hb3.range0 sz25_SFind) ?_
    refine wl (r_ldS Tryd.underlying28 rfl rfl hb4.range0 sz28) ?_
    refine wl (r_ldS Tryd.underlying28 rfl rfl hb5.range0 sz28) ?_
    refine wl_cl fn16 (unify_any A B G1 G2 c d c1 c2 l fs ga gb _ (hTab.mono hB) (hT.mono hB) (hF.mono hB) (hG1.mono hB) (hG2.mono hB)) rfl (fun e' w14 hr => ?_)
    obtain ⟨⟨AX, XX, okX, fX, rfl, hNX, hUX⟩, hs⟩ := hr
    replace hs := Same.of_bel hs
    replace hB := hB.tr0 hs
    replace hb3 := hb3.tr0 hs
    replace hb4 := hb4.tr0 hs
    replace hb5 := hb5.tr0 hs
    replace hb7 := hb7.tr0 hs
    replace hb9 := hb9.tr0 hs
    clear hs
    replace hNX := hNX w14 (FrSame.refl _ _)
    have hBuX : Bel w14 w14 := Below.refl _ _
    refine ⟨_, rfl, ?_⟩
    refine wl (r_mv (v := .tuple _) rfl) ?_
    refine wl (r_ex (v := _) rfl rfl) ?_
    refine wl (r_ex (v := _) rfl rfl) ?_
    refine wl (r_ex (v := _) rfl rfl) ?_
    refine wl_al (cs := #[.slice none 0 0]) ze28 rfl (fun b10 w15 hb10 hs hr => ?_)
    have or_b3_b10 : b3 < b10 := Nat.lt_of_lt_of_le hb3.lt hr
    have or_b4_b10 : b4 < b10 := Nat.lt_of_lt_of_le hb4.lt hr
    have or_b5_b10 : b5 < b10 := Nat.lt_of_lt_of_le hb5.lt hr
    have or_b7_b10 : b7 < b10 := Nat.lt_of_lt_of_le hb7.lt hr
    have or_b9_b10 : b9 < b10 := Nat.lt_of_lt_of_le hb9.lt hr
    have lo10 := Nat.le_trans (Bel.size hB) hr
    have lo_hBuX_b10 := Nat.le_trans (Bel.size hBuX) hr
    replace hB := hB.tr0 hs
    replace hb3 := hb3.tr0 hs
    replace hb4 := hb4.tr0 hs
    replace hb5 := hb5.tr0 hs
    replace hb7 := hb7.tr0 hs
    replace hb9 := hb9.tr0 hs
    replace hBuX := hBuX.tr0 hs
    clear hs
    clear hr
    refine wl_al (cs := #[.int .i64 0, .int .i64 0]) ze30_GLoose rfl (fun b12 w16 hb12 hs hr => ?_)
    have or_b3_b12 : b3 < b12 := Nat.lt_of_lt_of_le hb3.lt hr
    have or_b4_b12 : b4 < b12 := Nat.lt_of_lt_of_le hb4.lt hr
    have or_b5_b12 : b5 < b12 := Nat.lt_of_lt_of_le hb5.lt hr
    have or_b7_b12 : b7 < b12 := Nat.lt_of_lt_of_le hb7.lt hr
    have or_b9_b12 : b9 < b12 := Nat.lt_of_lt_of_le hb9.lt hr
    have or_b10_b12 : b10 < b12 := Nat.lt_of_lt_of_le hb10.lt hr
    have lo12 := Nat.le_trans (Bel.size hB) hr
    have lo_hBuX_b12 := Nat.le_trans (Bel.size hBuX) hr
    replace hB := hB.tr0 hs
    replace hb3 := hb3.tr0 hs
    replace hb4 := hb4.tr0 hs
    replace hb5 := hb5.tr0 hs
    replace hb7 := hb7.tr0 hs
    replace hb9 := hb9.tr0 hs
    replace hBuX := hBuX.tr0 hs
    replace hb10 := hb10.tr0 hs
    clear hs
    clear hr
    refine wl_stW hb10 rfl rfl sz28 rfl (by repeat (first | rfl | refine one_cons (by first | rfl | assumption) ?_)) (fun w17 hq hs => ?_)
    replace hB := hB.tr1 hs lo10
    replace hb3 := hb3.tr1 hs (by omega)
    replace hb4 := hb4.tr1 hs (by omega)
    replace hb5 := hb5.tr1 hs (by omega)
    replace hb7 := hb7.tr1 hs (by omega)
    replace hb9 := hb9.tr1 hs (by omega)
    replace hBuX := hBuX.tr1 hs lo_hBuX_b10
    replace hb12 := hb12.tr1 hs (by omega)
    clear hs
    replace hb10 := hq
    refine wl (r_as (v := .bool _) rfl) ?_
    refine wl_stW hb12 rfl rfl sz30_GLoose rfl (by repeat (first | rfl | refine one_cons (by first | rfl | assumption) ?_)) (fun w18 hq hs => ?_)
    replace hB := hB.tr1 hs lo12
    replace hb3 := hb3.tr1 hs (by omega)
    replace hb4 := hb4.tr1 hs (by omega)
    replace hb5 := hb5.tr1 hs (by omega)
    replace hb7 := hb7.tr1 hs (by omega)
    replace hb9 := hb9.tr1 hs (by omega)
    replace hBuX := hBuX.tr1 hs lo_hBuX_b12
    replace hb10 := hb10.tr1 hs (by omega)
    clear hs
    replace hb12 := hq
    refine x_nil ?_
    refine e_S ?_
    refine c_seq ?_
    refine c_region ?_
    refine wl (r_ldS Tryd.underlying25 rfl rfl hb3.range0 sz25_SFind) ?_
    refine wl (r_ldS Tryd.underlying28 rfl rfl hb4.range0 sz28) ?_
    refine wl (r_ldS Tryd.underlying28 rfl rfl hb5.range0 sz28) ?_
    refine wl_cl fn18 (subs_any A B G1 G2 c d c1 c2 l fs ga gb _ (hTab.mono hB) (hT.mono hB) (hF.mono hB) (hG1.mono hB) (hG2.mono hB)) rfl (fun e' w19 hr => ?_)
    obtain ⟨rfl, hs⟩ := hr
    replace hs := Same.of_bel hs
    replace hB := hB.tr0 hs
    replace hb3 := hb3.tr0 hs
    replace hb4 := hb4.tr0 hs
    replace hb5 := hb5.tr0 hs
    replace hb7 := hb7.tr0 hs
    replace hb9 := hb9.tr0 hs
    replace hBuX := hBuX.tr0 hs
    replace hb10 := hb10.tr0 hs
    replace hb12 := hb12.tr0 hs
    clear hs
    refine ⟨_, rfl, ?_⟩
    refine wl (r_mv (v := .tuple _) rfl) ?_
    refine wl (r_ex (v := _) rfl rfl) ?_
    refine wl (r_ex (v := _) rfl rfl) ?_
    refine wl_al (cs := #[.int .i64 0, .int .i64 0]) ze30_GLoose rfl (fun b14 w20 hb14 hs hr => ?_)
    have or_b3_b14 : b3 < b14 := Nat.lt_of_lt_of_le hb3.lt hr
    have or_b4_b14 : b4 < b14 := Nat.lt_of_lt_of_le hb4.lt hr
    have or_b5_b14 : b5 < b14 := Nat.lt_of_lt_of_le hb5.lt hr
    have or_b7_b14 : b7 < b14 := Nat.lt_of_lt_of_le hb7.lt hr
    have or_b9_b14 : b9 < b14 := Nat.lt_of_lt_of_le hb9.lt hr
    have or_b10_b14 : b10 < b14 := Nat.lt_of_lt_of_le hb10.lt hr
    have or_b12_b14 : b12 < b14 := Nat.lt_of_lt_of_le hb12.lt hr
    have lo14 := Nat.le_trans (Bel.size hB) hr
    have lo_hBuX_b14 := Nat.le_trans (Bel.size hBuX) hr
    replace hB := hB.tr0 hs
    replace hb3 := hb3.tr0 hs
    replace hb4 := hb4.tr0 hs
    replace hb5 := hb5.tr0 hs
    replace hb7 := hb7.tr0 hs
    replace hb9 := hb9.tr0 hs
    replace hBuX := hBuX.tr0 hs
    replace hb10 := hb10.tr0 hs
    replace hb12 := hb12.tr0 hs
    clear hs
    clear hr
    refine wl (r_as (v := .bool _) rfl) ?_
    refine wl_stW hb14 rfl rfl sz30_GLoose rfl (by repeat (first | rfl | refine one_cons (by first | rfl | assumption) ?_)) (fun w21 hq hs => ?_)
    replace hB := hB.tr1 hs lo14
    replace hb3 := hb3.tr1 hs (by omega)
    replace hb4 := hb4.tr1 hs (by omega)
    replace hb5 := hb5.tr1 hs (by omega)
    replace hb7 := hb7.tr1 hs (by omega)
    replace hb9 := hb9.tr1 hs (by omega)
    replace hBuX := hBuX.tr1 hs lo_hBuX_b14
    replace hb10 := hb10.tr1 hs (by omega)
    replace hb12 := hb12.tr1 hs (by omega)
    clear hs
    replace hb14 := hq
    refine x_nil ?_
    refine e_S ?_
    refine c_seq ?_
    rcases Bool.eq_false_or_eq_true (okX) with hok | hok
    ·
     refine c_know 11 (.bool true) (congrArg Value.bool hok) (by simp [undef]) ?_
     rcases Bool.eq_false_or_eq_true (subB l fs ga gb) with hsub | hsub
     ·
      refine c_know 13 (.bool true) (congrArg Value.bool hsub) (by simp [undef]) ?_
      obtain ⟨hfX, hdX⟩ := (unify_says h0 hUX).2 hok
      rw [hsub] at hdX
      have hfx1 : fX.1 = 0 := by rw [hfX]
      refine c_monoGO 19 [52, 53, 54, 55, 56, 57, 58, 59, 60, 61, 62, 63, 64, 65, 66, 67, 68, 69, 70] (fun _ => false) (fun ix v wv => match ix with | 0 => v = .pointer (some ⟨b14, 0, none⟩) | 1 => v = .int .i64 (twoG l fs ga gb).1 | 2 => v = .bool true | 3 => v = .bool true | 4 => v = .bool true | 5 => v = .pointer (some ⟨b12, 0, none⟩) | 6 => v = .int .i64 fX.1 | 7 => v = .bool true | 8 => v = .bool true | 9 => v = .bool true | 10 => v = .bool true | 11 => v = .bool true | 12 => v = .agg #[.slice AX XX.length XX.length] | 13 => v = .agg #[.slice G2 gb.length c2] | 14 => ∃ AR c, v = .agg #[.slice AR (canF l fs gb).length c] ∧ NodesIn wv AR (canF l fs gb) | 15 => v = .bool true | 16 => v = .bool true | 17 => v = .bool true | 18 => v = .bool true | _ => True) (by kernel_rfl) (by kernel_rfl) ?_ ?_ ?_
      ·
       intro ix v wv wv2 h hs
       match ix, h with
       | 0, h => exact h
       | 1, h => exact h
       | 2, h => exact h
       | 3, h => exact h
       | 4, h => exact h
       | 5, h => exact h
       | 6, h => exact h
       | 7, h => exact h
       | 8, h => exact h
       | 9, h => exact h
       | 10, h => exact h
       | 11, h => exact h
       | 12, h => exact h
       | 13, h => exact h
       | 14, h =>
        obtain ⟨AR66, cR66, e66, hNR66⟩ := (show ∃ AR c, v = .agg #[.slice AR (canF l fs gb).length c] ∧ NodesIn wv AR (canF l fs gb) from h)
        exact ⟨AR66, cR66, e66, hNR66.mono hs.bel⟩
       | 15, h => exact h
       | 16, h => exact h
       | 17, h => exact h
       | 18, h => exact h
       | _ + 19, h => exact trivial
      ·
       intro ix o hix hoq gg wx hs hd hdis
       match ix, hix, hoq with
       | 0, _, hoq =>
        obtain rfl : _ = o := Option.some.inj hoq
        have hs0 := hs
        replace hb14 := hb14.tr0 hs
        clear hs
        refine ⟨fun _ => ?_, fun hw => Bool.noConfusion (show true = false from hw)⟩
        refine os_rv (r_fa Tryd.underlying30 sz3_GLoose (by decide) rfl rfl rfl) ⟨Same.refl _ _, ?_, frsh_no⟩
        exact rfl
       | 1, _, hoq =>
        obtain rfl : _ = o := Option.some.inj hoq
        have hs0 := hs
        replace hb14 := hb14.tr0 hs
        clear hs
        have d0 : gg 52 = .pointer (some ⟨b14, 0, none⟩) := hd 0 (dep_of (by kernel_rfl))
        have e52 := d0
        refine ⟨fun _ => ?_, fun hw => Bool.noConfusion (show true = false from hw)⟩
        refine os_know 52 (.pointer (some ⟨b14, 0, none⟩)) e52 (by simp [undef]) ?_
        refine os_rv (r_ld1 (v := .int _ _) Tryd.underlying3 rfl rfl (hb14.cell rfl)) ⟨Same.refl _ _, ?_, frsh_no⟩
        exact rfl
       | 2, _, hoq =>
        obtain rfl : _ = o := Option.some.inj hoq
        have hs0 := hs
        clear hs
        have d1 : gg 53 = .int .i64 (twoG l fs ga gb).1 := hd 1 (dep_of (by kernel_rfl))
        have e53 := d1
        refine ⟨fun _ => ?_, fun hw => Bool.noConfusion (show true = false from hw)⟩
        refine os_know 53 (.int .i64 (twoG l fs ga gb).1) e53 (by simp [undef]) ?_
        refine os_rv (r_eql rfl rfl) ⟨Same.refl _ _, ?_, frsh_no⟩
        exact (congrArg Value.bool (decide_eq_true h0))
       | 3, _, hoq =>
        obtain rfl : _ = o := Option.some.inj hoq
        have hs0 := hs
        clear hs
        have d2 : gg 54 = .bool true := hd 2 (dep_of (by kernel_rfl))
        have e54 := d2
        refine ⟨fun _ => ?_, fun hw => Bool.noConfusion (show true = false from hw)⟩
        refine os_know 54 (.bool true) e54 (by simp [undef]) ?_
        refine os_rv (r_mv (v := .bool _) rfl) ⟨Same.refl _ _, ?_, frsh_no⟩
        exact rfl
       | 4, _, hoq =>
        obtain rfl : _ = o := Option.some.inj hoq
        have hs0 := hs
        clear hs
        have d3 : gg 55 = .bool true := hd 3 (dep_of (by kernel_rfl))
        have e55 := d3
        refine guard_case 55 true rfl e55 (fun _ => ?_) (fun h => absurd h (by decide))
        refine os_know 55 (.bool true) e55 (by simp [undef]) ?_
        refine os_rv (r_mv (v := .bool _) rfl) ⟨Same.refl _ _, ?_, frsh_no⟩
        exact rfl
       | 5, _, hoq =>
        obtain rfl : _ = o := Option.some.inj hoq
        have hs0 := hs
        replace hb12 := hb12.tr0 hs
        clear hs
        have d3 : gg 55 = .bool true := hd 3 (dep_of (by kernel_rfl))
        have e55 := d3
        refine guard_case 55 true rfl e55 (fun _ => ?_) (fun h => absurd h (by decide))
        refine os_know 55 (.bool true) e55 (by simp [undef]) ?_
        refine os_rv (r_fa Tryd.underlying30 sz3_GLoose (by decide) rfl rfl rfl) ⟨Same.refl _ _, ?_, frsh_no⟩
        exact rfl
       | 6, _, hoq =>
        obtain rfl : _ = o := Option.some.inj hoq
        have hs0 := hs
        replace hb12 := hb12.tr0 hs
        clear hs
        have d3 : gg 55 = .bool true := hd 3 (dep_of (by kernel_rfl))
        have e55 := d3
        have d5 : gg 57 = .pointer (some ⟨b12, 0, none⟩) := hd 5 (dep_of (by kernel_rfl))
        have e57 := d5
        refine guard_case 55 true rfl e55 (fun _ => ?_) (fun h => absurd h (by decide))
        refine os_know 55 (.bool true) e55 (by simp [undef]) ?_
        refine os_know 57 (.pointer (some ⟨b12, 0, none⟩)) e57 (by simp [undef]) ?_
        refine os_rv (r_ld1 (v := .int _ _) Tryd.underlying3 rfl rfl (hb12.cell rfl)) ⟨Same.refl _ _, ?_, frsh_no⟩
        exact rfl
       | 7, _, hoq =>
        obtain rfl : _ = o := Option.some.inj hoq
        have hs0 := hs
        clear hs
        have d3 : gg 55 = .bool true := hd 3 (dep_of (by kernel_rfl))
        have e55 := d3
        have d6 : gg 58 = .int .i64 fX.1 := hd 6 (dep_of (by kernel_rfl))
        have e58 := d6
        refine guard_case 55 true rfl e55 (fun _ => ?_) (fun h => absurd h (by decide))
        refine os_know 55 (.bool true) e55 (by simp [undef]) ?_
        refine os_know 58 (.int .i64 fX.1) e58 (by simp [undef]) ?_
        refine os_rv (r_eql rfl rfl) ⟨Same.refl _ _, ?_, frsh_no⟩
        exact (congrArg Value.bool (decide_eq_true hfx1))
       | 8, _, hoq =>
        obtain rfl : _ = o := Option.some.inj hoq
        have hs0 := hs
        clear hs
        have d3 : gg 55 = .bool true := hd 3 (dep_of (by kernel_rfl))
        have e55 := d3
        have d7 : gg 59 = .bool true := hd 7 (dep_of (by kernel_rfl))
        have e59 := d7
        refine guard_case 55 true rfl e55 (fun _ => ?_) (fun h => absurd h (by decide))
        refine os_know 55 (.bool true) e55 (by simp [undef]) ?_
        refine os_know 59 (.bool true) e59 (by simp [undef]) ?_
        refine os_rv (r_mv (v := .bool _) rfl) ⟨Same.refl _ _, ?_, frsh_no⟩
        exact rfl
       | 9, _, hoq =>
        obtain rfl : _ = o := Option.some.inj hoq
        have hs0 := hs
        clear hs
        have d8 : gg 60 = .bool true := hd 8 (dep_of (by kernel_rfl))
        have e60 := d8
        refine guard_case 60 true rfl e60 (fun _ => ?_) (fun h => absurd h (by decide))
        refine os_know 60 (.bool true) e60 (by simp [undef]) ?_
        refine os_rv (r_mv (v := .bool _) rfl) ⟨Same.refl _ _, ?_, frsh_no⟩
        exact rfl
       | 10, _, hoq =>
        obtain rfl : _ = o := Option.some.inj hoq
        have hs0 := hs
        clear hs
        have d3 : gg 55 = .bool true := hd 3 (dep_of (by kernel_rfl))
        have e55 := d3
        have d8 : gg 60 = .bool true := hd 8 (dep_of (by kernel_rfl))
        have e60 := d8
        have d9 : gg 61 = .bool true := hd 9 (dep_of (by kernel_rfl))
        have e61 := d9
        refine guard_case 55 true rfl e55 (fun _ => ?_) (fun h => absurd h (by decide))
        refine os_know 55 (.bool true) e55 (by simp [undef]) ?_
        refine os_know 60 (.bool true) e60 (by simp [undef]) ?_
        refine os_know 61 (.bool true) e61 (by simp [undef]) ?_
        refine os_rv (r_pt (v := .bool _) rfl rfl) ⟨Same.refl _ _, ?_, frsh_no⟩
        exact rfl
       | 11, _, hoq =>
        obtain rfl : _ = o := Option.some.inj hoq
        have hs0 := hs
        clear hs
        have d3 : gg 55 = .bool true := hd 3 (dep_of (by kernel_rfl))
        have e55 := d3
        have d10 : gg 62 = .bool true := hd 10 (dep_of (by kernel_rfl))
        have e62 := d10
        refine guard_case 55 true rfl e55 (fun _ => ?_) (fun h => absurd h (by decide))
        refine os_know 55 (.bool true) e55 (by simp [undef]) ?_
        refine os_know 62 (.bool true) e62 (by simp [undef]) ?_
        refine os_rv (r_mv (v := .bool _) rfl) ⟨Same.refl _ _, ?_, frsh_no⟩
        exact rfl
       | 12, _, hoq =>
        obtain rfl : _ = o := Option.some.inj hoq
        have hs0 := hs
        replace hb10 := hb10.tr0 hs
        clear hs
        have d11 : gg 63 = .bool true := hd 11 (dep_of (by kernel_rfl))
        have e63 := d11
        refine guard_case 63 true rfl e63 (fun _ => ?_) (fun h => absurd h (by decide))
        refine os_know 63 (.bool true) e63 (by simp [undef]) ?_
        refine os_rv (r_ldS Tryd.underlying28 rfl rfl hb10.range0 sz28) ⟨Same.refl _ _, ?_, frsh_no⟩
        exact rfl
       | 13, _, hoq =>
        obtain rfl : _ = o := Option.some.inj hoq
        have hs0 := hs
        replace hb5 := hb5.tr0 hs
        clear hs
        have d11 : gg 63 = .bool true := hd 11 (dep_of (by kernel_rfl))
        have e63 := d11
        refine guard_case 63 true rfl e63 (fun _ => ?_) (fun h => absurd h (by decide))
        refine os_know 63 (.bool true) e63 (by simp [undef]) ?_
        refine os_rv (r_ldS Tryd.underlying28 rfl rfl hb5.range0 sz28) ⟨Same.refl _ _, ?_, frsh_no⟩
        exact rfl
       | 14, _, hoq =>
        obtain rfl : _ = o := Option.some.inj hoq
        have hs0 := hs
        replace hB := hB.tr0 hs
        clear hs
        have d11 : gg 63 = .bool true := hd 11 (dep_of (by kernel_rfl))
        have e63 := d11
        have d13 : gg 65 = .agg #[.slice G2 gb.length c2] := hd 13 (dep_of (by kernel_rfl))
        have e65 := d13
        refine guard_case 63 true rfl e63 (fun _ => ?_) (fun h => absurd h (by decide))
        refine os_know 63 (.bool true) e63 (by simp [undef]) ?_
        refine os_know 65 (.agg #[.slice G2 gb.length c2]) e65 (by simp [undef]) ?_
        refine os_cl fn19 (rcan_any G2 _ c2 l fs gb wx (hG2.mono hB) rfl hgb0) rfl (fun e' w2 hr => ?_)
        obtain ⟨⟨AR, cR, rfl, hNR⟩, hs⟩ := hr
        exact ⟨_, rfl, Same.of_bel hs, ⟨_, _, rfl, hNR _ (FrSame.refl _ _)⟩, frsh_no⟩
       | 15, _, hoq =>
        obtain rfl : _ = o := Option.some.inj hoq
        have hs0 := hs
        replace hBuX := hBuX.tr0 hs
        clear hs
        have d11 : gg 63 = .bool true := hd 11 (dep_of (by kernel_rfl))
        have e63 := d11
        have d12 : gg 64 = .agg #[.slice AX XX.length XX.length] := hd 12 (dep_of (by kernel_rfl))
        have e64 := d12
        have d14 : ∃ AR c, gg 66 = .agg #[.slice AR (canF l fs gb).length c] ∧ NodesIn wx AR (canF l fs gb) := hd 14 (dep_of (by kernel_rfl))
        obtain ⟨AR66, cR66, e66, hNR66⟩ := d14
        refine guard_case 63 true rfl e63 (fun _ => ?_) (fun h => absurd h (by decide))
        refine os_know 63 (.bool true) e63 (by simp [undef]) ?_
        refine os_know 64 (.agg #[.slice AX XX.length XX.length]) e64 (by simp [undef]) ?_
        refine os_know 66 (.agg #[.slice AR66 (canF l fs gb).length cR66]) e66 (by simp [undef]) ?_
        refine os_cl fn13 (nodesb_any AX AR66 _ _ _ cR66 _ _ true wx (hNX.mono hBuX) hNR66 rfl rfl hdX) rfl (fun e' w2 hr => ?_)
        obtain ⟨rfl, hs⟩ := hr
        exact ⟨_, rfl, Same.of_bel hs, rfl, frsh_no⟩
       | 16, _, hoq =>
        obtain rfl : _ = o := Option.some.inj hoq
        have hs0 := hs
        clear hs
        have d3 : gg 55 = .bool true := hd 3 (dep_of (by kernel_rfl))
        have e55 := d3
        have d11 : gg 63 = .bool true := hd 11 (dep_of (by kernel_rfl))
        have e63 := d11
        have d15 : gg 67 = .bool true := hd 15 (dep_of (by kernel_rfl))
        have e67 := d15
        refine guard_case 55 true rfl e55 (fun _ => ?_) (fun h => absurd h (by decide))
        refine os_know 55 (.bool true) e55 (by simp [undef]) ?_
        refine os_know 63 (.bool true) e63 (by simp [undef]) ?_
        refine os_know 67 (.bool true) e67 (by simp [undef]) ?_
        refine os_rv (r_pt (v := .bool _) rfl rfl) ⟨Same.refl _ _, ?_, frsh_no⟩
        exact rfl
       | 17, _, hoq =>
        obtain rfl : _ = o := Option.some.inj hoq
        have hs0 := hs
        clear hs
        have d3 : gg 55 = .bool true := hd 3 (dep_of (by kernel_rfl))
        have e55 := d3
        have d4 : gg 56 = .bool true := hd 4 (dep_of (by kernel_rfl))
        have e56 := d4
        have d16 : gg 68 = .bool true := hd 16 (dep_of (by kernel_rfl))
        have e68 := d16
        refine guard_case 55 true rfl e55 (fun _ => ?_) (fun h => absurd h (by decide))
        refine os_know 55 (.bool true) e55 (by simp [undef]) ?_
        refine os_know 56 (.bool true) e56 (by simp [undef]) ?_
        refine os_know 68 (.bool true) e68 (by simp [undef]) ?_
        refine os_rv (r_eqlB Tryd.underlying4 rfl rfl) ⟨Same.refl _ _, ?_, frsh_no⟩
        exact rfl
       | 18, _, hoq =>
        obtain rfl : _ = o := Option.some.inj hoq
        have hs0 := hs
        clear hs
        have d3 : gg 55 = .bool true := hd 3 (dep_of (by kernel_rfl))
        have e55 := d3
        have d17 : gg 69 = .bool true := hd 17 (dep_of (by kernel_rfl))
        have e69 := d17
        refine ⟨fun _ => ?_, fun hw => Bool.noConfusion (show true = false from hw)⟩
        refine os_know 55 (.bool true) e55 (by simp [undef]) ?_
        refine os_know 69 (.bool true) e69 (by simp [undef]) ?_
        refine os_rv (r_pt (v := .bool _) rfl rfl) ⟨Same.refl _ _, ?_, frsh_no⟩
        exact rfl
       | _ + 19, hix, _ => exact absurd hix (by omega)
      ·
       intro gg w22 hs hR hdis
       have hs0 := hs
       replace hB := hB.tr0 hs
       replace hb3 := hb3.tr0 hs
       replace hb4 := hb4.tr0 hs
       replace hb5 := hb5.tr0 hs
       replace hb7 := hb7.tr0 hs
       replace hb9 := hb9.tr0 hs
       replace hBuX := hBuX.tr0 hs
       replace hb10 := hb10.tr0 hs
       replace hb12 := hb12.tr0 hs
       replace hb14 := hb14.tr0 hs
       clear hs
       have d18 : gg 70 = .bool true := hR 18 (by decide)
       have e70 := d18
       refine wl_know 70 (.bool true) e70 (by simp [undef]) ?_
       refine wl (r_as (v := .bool _) rfl) ?_
       refine x_nil ?_
       refine e_S ?_
       refine c_ret ?_
       refine fin1 (.inl rfl) rfl rfl ?_
       exact ⟨rfl, hB⟩
     ·
      refine c_know 13 (.bool false) (congrArg Value.bool hsub) (by simp [undef]) ?_
      obtain ⟨hfX, hdX⟩ := (unify_says h0 hUX).2 hok
      rw [hsub] at hdX
      have hfx1 : fX.1 = 0 := by rw [hfX]
      refine c_monoGO 19 [52, 53, 54, 55, 56, 57, 58, 59, 60, 61, 62, 63, 64, 65, 66, 67, 68, 69, 70] (fun _ => false) (fun ix v wv => match ix with | 0 => v = .pointer (some ⟨b14, 0, none⟩) | 1 => v = .int .i64 (twoG l fs ga gb).1 | 2 => v = .bool true | 3 => v = .bool true | 4 => v = .bool false | 5 => v = .pointer (some ⟨b12, 0, none⟩) | 6 => v = .int .i64 fX.1 | 7 => v = .bool true | 8 => v = .bool true | 9 => v = .bool true | 10 => v = .bool true | 11 => v = .bool true | 12 => v = .agg #[.slice AX XX.length XX.length] | 13 => v = .agg #[.slice G2 gb.length c2] | 14 => ∃ AR c, v = .agg #[.slice AR (canF l fs gb).length c] ∧ NodesIn wv AR (canF l fs gb) | 15 => v = .bool false | 16 => v = .bool false | 17 => v = .bool true | 18 => v = .bool true | _ => True) (by kernel_rfl) (by kernel_rfl) ?_ ?_ ?_
      ·
       intro ix v wv wv2 h hs
       match ix, h with
       | 0, h => exact h
       | 1, h => exact h
       | 2, h => exact h
       | 3, h => exact h
       | 4, h => exact h
       | 5, h => exact h
       | 6, h => exact h
       | 7, h => exact h
       | 8, h => exact h
       | 9, h => exact h
       | 10, h => exact h
       | 11, h => exact h
       | 12, h => exact h
       | 13, h => exact h
       | 14, h =>
        obtain ⟨AR66, cR66, e66, hNR66⟩ := (show ∃ AR c, v = .agg #[.slice AR (canF l fs gb).length c] ∧ NodesIn wv AR (canF l fs gb) from h)
        exact ⟨AR66, cR66, e66, hNR66.mono hs.bel⟩
       | 15, h => exact h
       | 16, h => exact h
       | 17, h => exact h
       | 18, h => exact h
       | _ + 19, h => exact trivial
      ·
       intro ix o hix hoq gg wx hs hd hdis
       match ix, hix, hoq with
       | 0, _, hoq =>
        obtain rfl : _ = o := Option.some.inj hoq
        have hs0 := hs
        replace hb14 := hb14.tr0 hs
        clear hs
        refine ⟨fun _ => ?_, fun hw => Bool.noConfusion (show true = false from hw)⟩
        refine os_rv (r_fa Tryd.underlying30 sz3_GLoose (by decide) rfl rfl rfl) ⟨Same.refl _ _, ?_, frsh_no⟩
        exact rfl
       | 1, _, hoq =>
        obtain rfl : _ = o := Option.some.inj hoq
        have hs0 := hs
        replace hb14 := hb14.tr0 hs
        clear hs
        have d0 : gg 52 = .pointer (some ⟨b14, 0, none⟩) := hd 0 (dep_of (by kernel_rfl))
        have e52 := d0
        refine ⟨fun _ => ?_, fun hw => Bool.noConfusion (show true = false from hw)⟩
        refine os_know 52 (.pointer (some ⟨b14, 0, none⟩)) e52 (by simp [undef]) ?_
        refine os_rv (r_ld1 (v := .int _ _) Tryd.underlying3 rfl rfl (hb14.cell rfl)) ⟨Same.refl _ _, ?_, frsh_no⟩
        exact rfl
       | 2, _, hoq =>
        obtain rfl : _ = o := Option.some.inj hoq
        have hs0 := hs
        clear hs
        have d1 : gg 53 = .int .i64 (twoG l fs ga gb).1 := hd 1 (dep_of (by kernel_rfl))
        have e53 := d1
        refine ⟨fun _ => ?_, fun hw => Bool.noConfusion (show true = false from hw)⟩
        refine os_know 53 (.int .i64 (twoG l fs ga gb).1) e53 (by simp [undef]) ?_
        refine os_rv (r_eql rfl rfl) ⟨Same.refl _ _, ?_, frsh_no⟩
        exact (congrArg Value.bool (decide_eq_true h0))
       | 3, _, hoq =>
        obtain rfl : _ = o := Option.some.inj hoq
        have hs0 := hs
        clear hs
        have d2 : gg 54 = .bool true := hd 2 (dep_of (by kernel_rfl))
        have e54 := d2
        refine ⟨fun _ => ?_, fun hw => Bool.noConfusion (show true = false from hw)⟩
        refine os_know 54 (.bool true) e54 (by simp [undef]) ?_
        refine os_rv (r_mv (v := .bool _) rfl) ⟨Same.refl _ _, ?_, frsh_no⟩
        exact rfl
       | 4, _, hoq =>
        obtain rfl : _ = o := Option.some.inj hoq
        have hs0 := hs
        clear hs
        have d3 : gg 55 = .bool true := hd 3 (dep_of (by kernel_rfl))
        have e55 := d3
        refine guard_case 55 true rfl e55 (fun _ => ?_) (fun h => absurd h (by decide))
        refine os_know 55 (.bool true) e55 (by simp [undef]) ?_
        refine os_rv (r_mv (v := .bool _) rfl) ⟨Same.refl _ _, ?_, frsh_no⟩
        exact rfl
       | 5, _, hoq =>
        obtain rfl : _ = o := Option.some.inj hoq
        have hs0 := hs
        replace hb12 := hb12.tr0 hs
        clear hs
        have d3 : gg 55 = .bool true := hd 3 (dep_of (by kernel_rfl))
        have e55 := d3
        refine guard_case 55 true rfl e55 (fun _ => ?_) (fun h => absurd h (by decide))
        refine os_know 55 (.bool true) e55 (by simp [undef]) ?_
        refine os_rv (r_fa Tryd.underlying30 sz3_GLoose (by decide) rfl rfl rfl) ⟨Same.refl _ _, ?_, frsh_no⟩
        exact rfl
       | 6, _, hoq =>
        obtain rfl : _ = o := Option.some.inj hoq
        have hs0 := hs
        replace hb12 := hb12.tr0 hs
        clear hs
        have d3 : gg 55 = .bool true := hd 3 (dep_of (by kernel_rfl))
        have e55 := d3
        have d5 : gg 57 = .pointer (some ⟨b12, 0, none⟩) := hd 5 (dep_of (by kernel_rfl))
        have e57 := d5
        refine guard_case 55 true rfl e55 (fun _ => ?_) (fun h => absurd h (by decide))
        refine os_know 55 (.bool true) e55 (by simp [undef]) ?_
        refine os_know 57 (.pointer (some ⟨b12, 0, none⟩)) e57 (by simp [undef]) ?_
        refine os_rv (r_ld1 (v := .int _ _) Tryd.underlying3 rfl rfl (hb12.cell rfl)) ⟨Same.refl _ _, ?_, frsh_no⟩
        exact rfl
       | 7, _, hoq =>
        obtain rfl : _ = o := Option.some.inj hoq
        have hs0 := hs
        clear hs
        have d3 : gg 55 = .bool true := hd 3 (dep_of (by kernel_rfl))
        have e55 := d3
        have d6 : gg 58 = .int .i64 fX.1 := hd 6 (dep_of (by kernel_rfl))
        have e58 := d6
        refine guard_case 55 true rfl e55 (fun _ => ?_) (fun h => absurd h (by decide))
        refine os_know 55 (.bool true) e55 (by simp [undef]) ?_
        refine os_know 58 (.int .i64 fX.1) e58 (by simp [undef]) ?_
        refine os_rv (r_eql rfl rfl) ⟨Same.refl _ _, ?_, frsh_no⟩
        exact (congrArg Value.bool (decide_eq_true hfx1))
       | 8, _, hoq =>
        obtain rfl : _ = o := Option.some.inj hoq
        have hs0 := hs
        clear hs
        have d3 : gg 55 = .bool true := hd 3 (dep_of (by kernel_rfl))
        have e55 := d3
        have d7 : gg 59 = .bool true := hd 7 (dep_of (by kernel_rfl))
        have e59 := d7
        refine guard_case 55 true rfl e55 (fun _ => ?_) (fun h => absurd h (by decide))
        refine os_know 55 (.bool true) e55 (by simp [undef]) ?_
        refine os_know 59 (.bool true) e59 (by simp [undef]) ?_
        refine os_rv (r_mv (v := .bool _) rfl) ⟨Same.refl _ _, ?_, frsh_no⟩
        exact rfl
       | 9, _, hoq =>
        obtain rfl : _ = o := Option.some.inj hoq
        have hs0 := hs
        clear hs
        have d8 : gg 60 = .bool true := hd 8 (dep_of (by kernel_rfl))
        have e60 := d8
        refine guard_case 60 true rfl e60 (fun _ => ?_) (fun h => absurd h (by decide))
        refine os_know 60 (.bool true) e60 (by simp [undef]) ?_
        refine os_rv (r_mv (v := .bool _) rfl) ⟨Same.refl _ _, ?_, frsh_no⟩
        exact rfl
       | 10, _, hoq =>
        obtain rfl : _ = o := Option.some.inj hoq
        have hs0 := hs
        clear hs
        have d3 : gg 55 = .bool true := hd 3 (dep_of (by kernel_rfl))
        have e55 := d3
        have d8 : gg 60 = .bool true := hd 8 (dep_of (by kernel_rfl))
        have e60 := d8
        have d9 : gg 61 = .bool true := hd 9 (dep_of (by kernel_rfl))
        have e61 := d9
        refine guard_case 55 true rfl e55 (fun _ => ?_) (fun h => absurd h (by decide))
        refine os_know 55 (.bool true) e55 (by simp [undef]) ?_
        refine os_know 60 (.bool true) e60 (by simp [undef]) ?_
        refine os_know 61 (.bool true) e61 (by simp [undef]) ?_
        refine os_rv (r_pt (v := .bool _) rfl rfl) ⟨Same.refl _ _, ?_, frsh_no⟩
        exact rfl
       | 11, _, hoq =>
        obtain rfl : _ = o := Option.some.inj hoq
        have hs0 := hs
        clear hs
        have d3 : gg 55 = .bool true := hd 3 (dep_of (by kernel_rfl))
        have e55 := d3
        have d10 : gg 62 = .bool true := hd 10 (dep_of (by kernel_rfl))
        have e62 := d10
        refine guard_case 55 true rfl e55 (fun _ => ?_) (fun h => absurd h (by decide))
        refine os_know 55 (.bool true) e55 (by simp [undef]) ?_
        refine os_know 62 (.bool true) e62 (by simp [undef]) ?_
        refine os_rv (r_mv (v := .bool _) rfl) ⟨Same.refl _ _, ?_, frsh_no⟩
        exact rfl
       | 12, _, hoq =>
        obtain rfl : _ = o := Option.some.inj hoq
        have hs0 := hs
        replace hb10 := hb10.tr0 hs
        clear hs
        have d11 : gg 63 = .bool true := hd 11 (dep_of (by kernel_rfl))
        have e63 := d11
        refine guard_case 63 true rfl e63 (fun _ => ?_) (fun h => absurd h (by decide))
        refine os_know 63 (.bool true) e63 (by simp [undef]) ?_
        refine os_rv (r_ldS Tryd.underlying28 rfl rfl hb10.range0 sz28) ⟨Same.refl _ _, ?_, frsh_no⟩
        exact rfl
       | 13, _, hoq =>
        obtain rfl : _ = o := Option.some.inj hoq
        have hs0 := hs
        replace hb5 := hb5.tr0 hs
        clear hs
        have d11 : gg 63 = .bool true := hd 11 (dep_of (by kernel_rfl))
        have e63 := d11
        refine guard_case 63 true rfl e63 (fun _ => ?_) (fun h => absurd h (by decide))
        refine os_know 63 (.bool true) e63 (by simp [undef]) ?_
        refine os_rv (r_ldS Tryd.underlying28 rfl rfl hb5.range0 sz28) ⟨Same.refl _ _, ?_, frsh_no⟩
        exact rfl
       | 14, _, hoq =>
        obtain rfl : _ = o := Option.some.inj hoq
        have hs0 := hs
        replace hB := hB.tr0 hs
        clear hs
        have d11 : gg 63 = .bool true := hd 11 (dep_of (by kernel_rfl))
        have e63 := d11
        have d13 : gg 65 = .agg #[.slice G2 gb.length c2] := hd 13 (dep_of (by kernel_rfl))
        have e65 := d13
        refine guard_case 63 true rfl e63 (fun _ => ?_) (fun h => absurd h (by decide))
        refine os_know 63 (.bool true) e63 (by simp [undef]) ?_
        refine os_know 65 (.agg #[.slice G2 gb.length c2]) e65 (by simp [undef]) ?_
        refine os_cl fn19 (rcan_any G2 _ c2 l fs gb wx (hG2.mono hB) rfl hgb0) rfl (fun e' w2 hr => ?_)
        obtain ⟨⟨AR, cR, rfl, hNR⟩, hs⟩ := hr
        exact ⟨_, rfl, Same.of_bel hs, ⟨_, _, rfl, hNR _ (FrSame.refl _ _)⟩, frsh_no⟩
       | 15, _, hoq =>
        obtain rfl : _ = o := Option.some.inj hoq
        have hs0 := hs
        replace hBuX := hBuX.tr0 hs
        clear hs
        have d11 : gg 63 = .bool true := hd 11 (dep_of (by kernel_rfl))
        have e63 := d11
        have d12 : gg 64 = .agg #[.slice AX XX.length XX.length] := hd 12 (dep_of (by kernel_rfl))
        have e64 := d12
        have d14 : ∃ AR c, gg 66 = .agg #[.slice AR (canF l fs gb).length c] ∧ NodesIn wx AR (canF l fs gb) := hd 14 (dep_of (by kernel_rfl))
        obtain ⟨AR66, cR66, e66, hNR66⟩ := d14
        refine guard_case 63 true rfl e63 (fun _ => ?_) (fun h => absurd h (by decide))
        refine os_know 63 (.bool true) e63 (by simp [undef]) ?_
        refine os_know 64 (.agg #[.slice AX XX.length XX.length]) e64 (by simp [undef]) ?_
        refine os_know 66 (.agg #[.slice AR66 (canF l fs gb).length cR66]) e66 (by simp [undef]) ?_
        refine os_cl fn13 (nodesb_any AX AR66 _ _ _ cR66 _ _ false wx (hNX.mono hBuX) hNR66 rfl rfl hdX) rfl (fun e' w2 hr => ?_)
        obtain ⟨rfl, hs⟩ := hr
        exact ⟨_, rfl, Same.of_bel hs, rfl, frsh_no⟩
       | 16, _, hoq =>
        obtain rfl : _ = o := Option.some.inj hoq
        have hs0 := hs
        clear hs
        have d3 : gg 55 = .bool true := hd 3 (dep_of (by kernel_rfl))
        have e55 := d3
        have d11 : gg 63 = .bool true := hd 11 (dep_of (by kernel_rfl))
        have e63 := d11
        have d15 : gg 67 = .bool false := hd 15 (dep_of (by kernel_rfl))
        have e67 := d15
        refine guard_case 55 true rfl e55 (fun _ => ?_) (fun h => absurd h (by decide))
        refine os_know 55 (.bool true) e55 (by simp [undef]) ?_
        refine os_know 63 (.bool true) e63 (by simp [undef]) ?_
        refine os_know 67 (.bool false) e67 (by simp [undef]) ?_
        refine os_rv (r_pt (v := .bool _) rfl rfl) ⟨Same.refl _ _, ?_, frsh_no⟩
        exact rfl
       | 17, _, hoq =>
        obtain rfl : _ = o := Option.some.inj hoq
        have hs0 := hs
        clear hs
        have d3 : gg 55 = .bool true := hd 3 (dep_of (by kernel_rfl))
        have e55 := d3
        have d4 : gg 56 = .bool false := hd 4 (dep_of (by kernel_rfl))
        have e56 := d4
        have d16 : gg 68 = .bool false := hd 16 (dep_of (by kernel_rfl))
        have e68 := d16
        refine guard_case 55 true rfl e55 (fun _ => ?_) (fun h => absurd h (by decide))
        refine os_know 55 (.bool true) e55 (by simp [undef]) ?_
        refine os_know 56 (.bool false) e56 (by simp [undef]) ?_
        refine os_know 68 (.bool false) e68 (by simp [undef]) ?_
        refine os_rv (r_eqlB Tryd.underlying4 rfl rfl) ⟨Same.refl _ _, ?_, frsh_no⟩
        exact rfl
       | 18, _, hoq =>
        obtain rfl : _ = o := Option.some.inj hoq
        have hs0 := hs
        clear hs
        have d3 : gg 55 = .bool true := hd 3 (dep_of (by kernel_rfl))
        have e55 := d3
        have d17 : gg 69 = .bool true := hd 17 (dep_of (by kernel_rfl))
        have e69 := d17
        refine ⟨fun _ => ?_, fun hw => Bool.noConfusion (show true = false from hw)⟩
        refine os_know 55 (.bool true) e55 (by simp [undef]) ?_
        refine os_know 69 (.bool true) e69 (by simp [undef]) ?_
        refine os_rv (r_pt (v := .bool _) rfl rfl) ⟨Same.refl _ _, ?_, frsh_no⟩
        exact rfl
       | _ + 19, hix, _ => exact absurd hix (by omega)
      ·
       intro gg w23 hs hR hdis
       have hs0 := hs
       replace hB := hB.tr0 hs
       replace hb3 := hb3.tr0 hs
       replace hb4 := hb4.tr0 hs
       replace hb5 := hb5.tr0 hs
       replace hb7 := hb7.tr0 hs
       replace hb9 := hb9.tr0 hs
       replace hBuX := hBuX.tr0 hs
       replace hb10 := hb10.tr0 hs
       replace hb12 := hb12.tr0 hs
       replace hb14 := hb14.tr0 hs
       clear hs
       have d18 : gg 70 = .bool true := hR 18 (by decide)
       have e70 := d18
       refine wl_know 70 (.bool true) e70 (by simp [undef]) ?_
       refine wl (r_as (v := .bool _) rfl) ?_
       refine x_nil ?_
       refine e_S ?_
       refine c_ret ?_
       refine fin1 (.inl rfl) rfl rfl ?_
       exact ⟨rfl, hB⟩
    ·
     refine c_know 11 (.bool false) (congrArg Value.bool hok) (by simp [undef]) ?_
     by_cases hfz : fX.1 = 0
     ·
      have hsF := (unify_says h0 hUX).1 hok
      refine c_monoGO 19 [52, 53, 54, 55, 56, 57, 58, 59, 60, 61, 62, 63, 64, 65, 66, 67, 68, 69, 70] (fun _ => false) (fun ix v wv => match ix with | 0 => v = .pointer (some ⟨b14, 0, none⟩) | 1 => v = .int .i64 (twoG l fs ga gb).1 | 2 => v = .bool true | 3 => v = .bool true | 4 => v = .bool false | 5 => v = .pointer (some ⟨b12, 0, none⟩) | 6 => v = .int .i64 fX.1 | 7 => v = .bool true | 8 => v = .bool true | 9 => v = .bool false | 10 => v = .bool false | 11 => v = .bool false | 12 => v = undef | 13 => v = undef | 14 => v = undef | 15 => v = undef | 16 => v = .bool false | 17 => v = .bool true | 18 => v = .bool true | _ => True) (by kernel_rfl) (by kernel_rfl) ?_ ?_ ?_
      ·
       intro ix v wv wv2 h hs
       match ix, h with
       | 0, h => exact h
       | 1, h => exact h
       | 2, h => exact h
       | 3, h => exact h
       | 4, h => exact h
       | 5, h => exact h
       | 6, h => exact h
       | 7, h => exact h
       | 8, h => exact h
       | 9, h => exact h
       | 10, h => exact h
       | 11, h => exact h
       | 12, h => exact h
       | 13, h => exact h
       | 14, h => exact h
       | 15, h => exact h
       | 16, h => exact h
       | 17, h => exact h
       | 18, h => exact h
       | _ + 19, h => exact trivial
      ·
       intro ix o hix hoq gg wx hs hd hdis
       match ix, hix, hoq with
       | 0, _, hoq =>
        obtain rfl : _ = o := Option.some.inj hoq
        have hs0 := hs
        replace hb14 := hb14.tr0 hs
        clear hs
        refine ⟨fun _ => ?_, fun hw => Bool.noConfusion (show true = false from hw)⟩
        refine os_rv (r_fa Tryd.underlying30 sz3_GLoose (by decide) rfl rfl rfl) ⟨Same.refl _ _, ?_, frsh_no⟩
        exact rfl
       | 1, _, hoq =>
        obtain rfl : _ = o := Option.some.inj hoq
        have hs0 := hs
        replace hb14 := hb14.tr0 hs
        clear hs
        have d0 : gg 52 = .pointer (some ⟨b14, 0, none⟩) := hd 0 (dep_of (by kernel_rfl))
        have e52 := d0
        refine ⟨fun _ => ?_, fun hw => Bool.noConfusion (show true = false from hw)⟩
        refine os_know 52 (.pointer (some ⟨b14, 0, none⟩)) e52 (by simp [undef]) ?_
        refine os_rv (r_ld1 (v := .int _ _) Tryd.underlying3 rfl rfl (hb14.cell rfl)) ⟨Same.refl _ _, ?_, frsh_no⟩
        exact rfl
       | 2, _, hoq =>
        obtain rfl : _ = o := Option.some.inj hoq
        have hs0 := hs
        clear hs
        have d1 : gg 53 = .int .i64 (twoG l fs ga gb).1 := hd 1 (dep_of (by kernel_rfl))
        have e53 := d1
        refine ⟨fun _ => ?_, fun hw => Bool.noConfusion (show true = false from hw)⟩
        refine os_know 53 (.int .i64 (twoG l fs ga gb).1) e53 (by simp [undef]) ?_
        refine os_rv (r_eql rfl rfl) ⟨Same.refl _ _, ?_, frsh_no⟩
        exact (congrArg Value.bool (decide_eq_true h0))
       | 3, _, hoq =>
        obtain rfl : _ = o := Option.some.inj hoq
        have hs0 := hs
        clear hs
        have d2 : gg 54 = .bool true := hd 2 (dep_of (by kernel_rfl))
        have e54 := d2
        refine ⟨fun _ => ?_, fun hw => Bool.noConfusion (show true = false from hw)⟩
        refine os_know 54 (.bool true) e54 (by simp [undef]) ?_
        refine os_rv (r_mv (v := .bool _) rfl) ⟨Same.refl _ _, ?_, frsh_no⟩
        exact rfl
       | 4, _, hoq =>
        obtain rfl : _ = o := Option.some.inj hoq
        have hs0 := hs
        clear hs
        have d3 : gg 55 = .bool true := hd 3 (dep_of (by kernel_rfl))
        have e55 := d3
        refine guard_case 55 true rfl e55 (fun _ => ?_) (fun h => absurd h (by decide))
        refine os_know 55 (.bool true) e55 (by simp [undef]) ?_
        refine os_rv (r_mv (v := .bool _) rfl) ⟨Same.refl _ _, ?_, frsh_no⟩
        exact (congrArg Value.bool hsF)
       | 5, _, hoq =>
        obtain rfl : _ = o := Option.some.inj hoq
        have hs0 := hs
        replace hb12 := hb12.tr0 hs
        clear hs
        have d3 : gg 55 = .bool true := hd 3 (dep_of (by kernel_rfl))
        have e55 := d3
        refine guard_case 55 true rfl e55 (fun _ => ?_) (fun h => absurd h (by decide))
        refine os_know 55 (.bool true) e55 (by simp [undef]) ?_
        refine os_rv (r_fa Tryd.underlying30 sz3_GLoose (by decide) rfl rfl rfl) ⟨Same.refl _ _, ?_, frsh_no⟩
        exact rfl
       | 6, _, hoq =>
        obtain rfl : _ = o := Option.some.inj hoq
        have hs0 := hs
        replace hb12 := hb12.tr0 hs
        clear hs
        have d3 : gg 55 = .bool true := hd 3 (dep_of (by kernel_rfl))
        have e55 := d3
        have d5 : gg 57 = .pointer (some ⟨b12, 0, none⟩) := hd 5 (dep_of (by kernel_rfl))
        have e57 := d5
        refine guard_case 55 true rfl e55 (fun _ => ?_) (fun h => absurd h (by decide))
        refine os_know 55 (.bool true) e55 (by simp [undef]) ?_
        refine os_know 57 (.pointer (some ⟨b12, 0, none⟩)) e57 (by simp [undef]) ?_
        refine os_rv (r_ld1 (v := .int _ _) Tryd.underlying3 rfl rfl (hb12.cell rfl)) ⟨Same.refl _ _, ?_, frsh_no⟩
        exact rfl
       | 7, _, hoq =>
        obtain rfl : _ = o := Option.some.inj hoq
        have hs0 := hs
        clear hs
        have d3 : gg 55 = .bool true := hd 3 (dep_of (by kernel_rfl))
        have e55 := d3
        have d6 : gg 58 = .int .i64 fX.1 := hd 6 (dep_of (by kernel_rfl))
        have e58 := d6
        refine guard_case 55 true rfl e55 (fun _ => ?_) (fun h => absurd h (by decide))
        refine os_know 55 (.bool true) e55 (by simp [undef]) ?_
        refine os_know 58 (.int .i64 fX.1) e58 (by simp [undef]) ?_
        refine os_rv (r_eql rfl rfl) ⟨Same.refl _ _, ?_, frsh_no⟩
        exact (congrArg Value.bool (decide_eq_true hfz))
       | 8, _, hoq =>
        obtain rfl : _ = o := Option.some.inj hoq
        have hs0 := hs
        clear hs
        have d3 : gg 55 = .bool true := hd 3 (dep_of (by kernel_rfl))
        have e55 := d3
        have d7 : gg 59 = .bool true := hd 7 (dep_of (by kernel_rfl))
        have e59 := d7
        refine guard_case 55 true rfl e55 (fun _ => ?_) (fun h => absurd h (by decide))
        refine os_know 55 (.bool true) e55 (by simp [undef]) ?_
        refine os_know 59 (.bool true) e59 (by simp [undef]) ?_
        refine os_rv (r_mv (v := .bool _) rfl) ⟨Same.refl _ _, ?_, frsh_no⟩
        exact rfl
       | 9, _, hoq =>
        obtain rfl : _ = o := Option.some.inj hoq
        have hs0 := hs
        clear hs
        have d8 : gg 60 = .bool true := hd 8 (dep_of (by kernel_rfl))
        have e60 := d8
        refine guard_case 60 true rfl e60 (fun _ => ?_) (fun h => absurd h (by decide))
        refine os_know 60 (.bool true) e60 (by simp [undef]) ?_
        refine os_rv (r_mv (v := .bool _) rfl) ⟨Same.refl _ _, ?_, frsh_no⟩
        exact rfl
       | 10, _, hoq =>
        obtain rfl : _ = o := Option.some.inj hoq
        have hs0 := hs
        clear hs
        have d3 : gg 55 = .bool true := hd 3 (dep_of (by kernel_rfl))
        have e55 := d3
        have d8 : gg 60 = .bool true := hd 8 (dep_of (by kernel_rfl))
        have e60 := d8
        have d9 : gg 61 = .bool false := hd 9 (dep_of (by kernel_rfl))
        have e61 := d9
        refine guard_case 55 true rfl e55 (fun _ => ?_) (fun h => absurd h (by decide))
        refine os_know 55 (.bool true) e55 (by simp [undef]) ?_
        refine os_know 60 (.bool true) e60 (by simp [undef]) ?_
        refine os_know 61 (.bool false) e61 (by simp [undef]) ?_
        refine os_rv (r_pt (v := .bool _) rfl rfl) ⟨Same.refl _ _, ?_, frsh_no⟩
        exact rfl
       | 11, _, hoq =>
        obtain rfl : _ = o := Option.some.inj hoq
        have hs0 := hs
        clear hs
        have d3 : gg 55 = .bool true := hd 3 (dep_of (by kernel_rfl))
        have e55 := d3
        have d10 : gg 62 = .bool false := hd 10 (dep_of (by kernel_rfl))
        have e62 := d10
        refine guard_case 55 true rfl e55 (fun _ => ?_) (fun h => absurd h (by decide))
        refine os_know 55 (.bool true) e55 (by simp [undef]) ?_
        refine os_know 62 (.bool false) e62 (by simp [undef]) ?_
        refine os_rv (r_mv (v := .bool _) rfl) ⟨Same.refl _ _, ?_, frsh_no⟩
        exact rfl
       | 12, _, hoq =>
        obtain rfl : _ = o := Option.some.inj hoq
        have hs0 := hs
        replace hb10 := hb10.tr0 hs
        clear hs
        have d11 : gg 63 = .bool false := hd 11 (dep_of (by kernel_rfl))
        have e63 := d11
        exact guard_case 63 false rfl e63 (fun h => absurd h (by decide)) (fun _ => rfl)
       | 13, _, hoq =>
        obtain rfl : _ = o := Option.some.inj hoq
        have hs0 := hs
        replace hb5 := hb5.tr0 hs
        clear hs
        have d11 : gg 63 = .bool false := hd 11 (dep_of (by kernel_rfl))
        have e63 := d11
        exact guard_case 63 false rfl e63 (fun h => absurd h (by decide)) (fun _ => rfl)
       | 14, _, hoq =>
        obtain rfl : _ = o := Option.some.inj hoq
        have hs0 := hs
        clear hs
        have d11 : gg 63 = .bool false := hd 11 (dep_of (by kernel_rfl))
        have e63 := d11
        have d13 : gg 65 = undef := hd 13 (dep_of (by kernel_rfl))
        have e65 := d13
        exact guard_case 63 false rfl e63 (fun h => absurd h (by decide)) (fun _ => rfl)
       | 15, _, hoq =>
        obtain rfl : _ = o := Option.some.inj hoq
        have hs0 := hs
        clear hs
        have d11 : gg 63 = .bool false := hd 11 (dep_of (by kernel_rfl))
        have e63 := d11
        have d12 : gg 64 = undef := hd 12 (dep_of (by kernel_rfl))
        have e64 := d12
        have d14 : gg 66 = undef := hd 14 (dep_of (by kernel_rfl))
        have e66 := d14
        exact guard_case 63 false rfl e63 (fun h => absurd h (by decide)) (fun _ => rfl)
       | 16, _, hoq =>
        obtain rfl : _ = o := Option.some.inj hoq
        have hs0 := hs
        clear hs
        have d3 : gg 55 = .bool true := hd 3 (dep_of (by kernel_rfl))
        have e55 := d3
        have d11 : gg 63 = .bool false := hd 11 (dep_of (by kernel_rfl))
        have e63 := d11
        have d15 : gg 67 = undef := hd 15 (dep_of (by kernel_rfl))
        have e67 := d15
        refine guard_case 55 true rfl e55 (fun _ => ?_) (fun h => absurd h (by decide))
        refine os_know 55 (.bool true) e55 (by simp [undef]) ?_
        refine os_know 63 (.bool false) e63 (by simp [undef]) ?_
        refine os_rv (r_pf (v := .bool _) rfl rfl) ⟨Same.refl _ _, ?_, frsh_no⟩
        exact rfl
       | 17, _, hoq =>
        obtain rfl : _ = o := Option.some.inj hoq
        have hs0 := hs
        clear hs
        have d3 : gg 55 = .bool true := hd 3 (dep_of (by kernel_rfl))
        have e55 := d3
        have d4 : gg 56 = .bool false := hd 4 (dep_of (by kernel_rfl))
        have e56 := d4
        have d16 : gg 68 = .bool false := hd 16 (dep_of (by kernel_rfl))
        have e68 := d16
        refine guard_case 55 true rfl e55 (fun _ => ?_) (fun h => absurd h (by decide))
        refine os_know 55 (.bool true) e55 (by simp [undef]) ?_
        refine os_know 56 (.bool false) e56 (by simp [undef]) ?_
        refine os_know 68 (.bool false) e68 (by simp [undef]) ?_
        refine os_rv (r_eqlB Tryd.underlying4 rfl rfl) ⟨Same.refl _ _, ?_, frsh_no⟩
        exact rfl
       | 18, _, hoq =>
        obtain rfl : _ = o := Option.some.inj hoq
        have hs0 := hs
        clear hs
        have d3 : gg 55 = .bool true := hd 3 (dep_of (by kernel_rfl))
        have e55 := d3
        have d17 : gg 69 = .bool true := hd 17 (dep_of (by kernel_rfl))
        have e69 := d17
        refine ⟨fun _ => ?_, fun hw => Bool.noConfusion (show true = false from hw)⟩
        refine os_know 55 (.bool true) e55 (by simp [undef]) ?_
        refine os_know 69 (.bool true) e69 (by simp [undef]) ?_
        refine os_rv (r_pt (v := .bool _) rfl rfl) ⟨Same.refl _ _, ?_, frsh_no⟩
        exact rfl
       | _ + 19, hix, _ => exact absurd hix (by omega)
      ·
       intro gg w24 hs hR hdis
       have hs0 := hs
       replace hB := hB.tr0 hs
       replace hb3 := hb3.tr0 hs
       replace hb4 := hb4.tr0 hs
       replace hb5 := hb5.tr0 hs
       replace hb7 := hb7.tr0 hs
       replace hb9 := hb9.tr0 hs
       replace hBuX := hBuX.tr0 hs
       replace hb10 := hb10.tr0 hs
       replace hb12 := hb12.tr0 hs
       replace hb14 := hb14.tr0 hs
       clear hs
       have d18 : gg 70 = .bool true := hR 18 (by decide)
       have e70 := d18
       refine wl_know 70 (.bool true) e70 (by simp [undef]) ?_
       refine wl (r_as (v := .bool _) rfl) ?_
       refine x_nil ?_
       refine e_S ?_
       refine c_ret ?_
       refine fin1 (.inl rfl) rfl rfl ?_
       exact ⟨rfl, hB⟩
     ·
      have hsF := (unify_says h0 hUX).1 hok
      refine c_monoGO 19 [52, 53, 54, 55, 56, 57, 58, 59, 60, 61, 62, 63, 64, 65, 66, 67, 68, 69, 70] (fun _ => false) (fun ix v wv => match ix with | 0 => v = .pointer (some ⟨b14, 0, none⟩) | 1 => v = .int .i64 (twoG l fs ga gb).1 | 2 => v = .bool true | 3 => v = .bool true | 4 => v = .bool false | 5 => v = .pointer (some ⟨b12, 0, none⟩) | 6 => v = .int .i64 fX.1 | 7 => v = .bool false | 8 => v = .bool false | 9 => v = undef | 10 => v = .bool false | 11 => v = .bool false | 12 => v = undef | 13 => v = undef | 14 => v = undef | 15 => v = undef | 16 => v = .bool false | 17 => v = .bool true | 18 => v = .bool true | _ => True) (by kernel_rfl) (by kernel_rfl) ?_ ?_ ?_
      ·
       intro ix v wv wv2 h hs
       match ix, h with
       | 0, h => exact h
       | 1, h => exact h
       | 2, h => exact h
       | 3, h => exact h
       | 4, h => exact h
       | 5, h => exact h
       | 6, h => exact h
       | 7, h => exact h
       | 8, h => exact h
       | 9, h => exact h
       | 10, h => exact h
       | 11, h => exact h
       | 12, h => exact h
       | 13, h => exact h
       | 14, h => exact h
       | 15, h => exact h
       | 16, h => exact h
       | 17, h => exact h
       | 18, h => exact h
       | _ + 19, h => exact trivial
      ·
       intro ix o hix hoq gg wx hs hd hdis
       match ix, hix, hoq with
       | 0, _, hoq =>
        obtain rfl : _ = o := Option.some.inj hoq
        have hs0 := hs
        replace hb14 := hb14.tr0 hs
        clear hs
        refine ⟨fun _ => ?_, fun hw => Bool.noConfusion (show true = false from hw)⟩
        refine os_rv (r_fa Tryd.underlying30 sz3_GLoose (by decide) rfl rfl rfl) ⟨Same.refl _ _, ?_, frsh_no⟩
        exact rfl
       | 1, _, hoq =>
        obtain rfl : _ = o := Option.some.inj hoq
        have hs0 := hs
        replace hb14 := hb14.tr0 hs
        clear hs
        have d0 : gg 52 = .pointer (some ⟨b14, 0, none⟩) := hd 0 (dep_of (by kernel_rfl))
        have e52 := d0
        refine ⟨fun _ => ?_, fun hw => Bool.noConfusion (show true = false from hw)⟩
        refine os_know 52 (.pointer (some ⟨b14, 0, none⟩)) e52 (by simp [undef]) ?_
        refine os_rv (r_ld1 (v := .int _ _) Tryd.underlying3 rfl rfl (hb14.cell rfl)) ⟨Same.refl _ _, ?_, frsh_no⟩
        exact rfl
       | 2, _, hoq =>
        obtain rfl : _ = o := Option.some.inj hoq
        have hs0 := hs
        clear hs
        have d1 : gg 53 = .int .i64 (twoG l fs ga gb).1 := hd 1 (dep_of (by kernel_rfl))
        have e53 := d1
        refine ⟨fun _ => ?_, fun hw => Bool.noConfusion (show true = false from hw)⟩
        refine os_know 53 (.int .i64 (twoG l fs ga gb).1) e53 (by simp [undef]) ?_
        refine os_rv (r_eql rfl rfl) ⟨Same.refl _ _, ?_, frsh_no⟩
        exact (congrArg Value.bool (decide_eq_true h0))
       | 3, _, hoq =>
        obtain rfl : _ = o := Option.some.inj hoq
        have hs0 := hs
        clear hs
        have d2 : gg 54 = .bool true := hd 2 (dep_of (by kernel_rfl))
        have e54 := d2
        refine ⟨fun _ => ?_, fun hw => Bool.noConfusion (show true = false from hw)⟩
        refine os_know 54 (.bool true) e54 (by simp [undef]) ?_
        refine os_rv (r_mv (v := .bool _) rfl) ⟨Same.refl _ _, ?_, frsh_no⟩
        exact rfl
       | 4, _, hoq =>
        obtain rfl : _ = o := Option.some.inj hoq
        have hs0 := hs
        clear hs
        have d3 : gg 55 = .bool true := hd 3 (dep_of (by kernel_rfl))
        have e55 := d3
        refine guard_case 55 true rfl e55 (fun _ => ?_) (fun h => absurd h (by decide))
        refine os_know 55 (.bool true) e55 (by simp [undef]) ?_
        refine os_rv (r_mv (v := .bool _) rfl) ⟨Same.refl _ _, ?_, frsh_no⟩
        exact (congrArg Value.bool hsF)
       | 5, _, hoq =>
        obtain rfl : _ = o := Option.some.inj hoq
        have hs0 := hs
        replace hb12 := hb12.tr0 hs
        clear hs
        have d3 : gg 55 = .bool true := hd 3 (dep_of (by kernel_rfl))
        have e55 := d3
        refine guard_case 55 true rfl e55 (fun _ => ?_) (fun h => absurd h (by decide))
        refine os_know 55 (.bool true) e55 (by simp [undef]) ?_
        refine os_rv (r_fa Tryd.underlying30 sz3_GLoose (by decide) rfl rfl rfl) ⟨Same.refl _ _, ?_, frsh_no⟩
        exact rfl
       | 6, _, hoq =>
        obtain rfl : _ = o := Option.some.inj hoq
        have hs0 := hs
        replace hb12 := hb12.tr0 hs
        clear hs
        have d3 : gg 55 = .bool true := hd 3 (dep_of (by kernel_rfl))
        have e55 := d3
        have d5 : gg 57 = .pointer (some ⟨b12, 0, none⟩) := hd 5 (dep_of (by kernel_rfl))
        have e57 := d5
        refine guard_case 55 true rfl e55 (fun _ => ?_) (fun h => absurd h (by decide))
        refine os_know 55 (.bool true) e55 (by simp [undef]) ?_
        refine os_know 57 (.pointer (some ⟨b12, 0, none⟩)) e57 (by simp [undef]) ?_
        refine os_rv (r_ld1 (v := .int _ _) Tryd.underlying3 rfl rfl (hb12.cell rfl)) ⟨Same.refl _ _, ?_, frsh_no⟩
        exact rfl
       | 7, _, hoq =>
        obtain rfl : _ = o := Option.some.inj hoq
        have hs0 := hs
        clear hs
        have d3 : gg 55 = .bool true := hd 3 (dep_of (by kernel_rfl))
        have e55 := d3
        have d6 : gg 58 = .int .i64 fX.1 := hd 6 (dep_of (by kernel_rfl))
        have e58 := d6
        refine guard_case 55 true rfl e55 (fun _ => ?_) (fun h => absurd h (by decide))
        refine os_know 55 (.bool true) e55 (by simp [undef]) ?_
        refine os_know 58 (.int .i64 fX.1) e58 (by simp [undef]) ?_
        refine os_rv (r_eql rfl rfl) ⟨Same.refl _ _, ?_, frsh_no⟩
        exact (congrArg Value.bool (decide_eq_false hfz))
       | 8, _, hoq =>
        obtain rfl : _ = o := Option.some.inj hoq
        have hs0 := hs
        clear hs
        have d3 : gg 55 = .bool true := hd 3 (dep_of (by kernel_rfl))
        have e55 := d3
        have d7 : gg 59 = .bool false := hd 7 (dep_of (by kernel_rfl))
        have e59 := d7
        refine guard_case 55 true rfl e55 (fun _ => ?_) (fun h => absurd h (by decide))
        refine os_know 55 (.bool true) e55 (by simp [undef]) ?_
        refine os_know 59 (.bool false) e59 (by simp [undef]) ?_
        refine os_rv (r_mv (v := .bool _) rfl) ⟨Same.refl _ _, ?_, frsh_no⟩
        exact rfl
       | 9, _, hoq =>
        obtain rfl : _ = o := Option.some.inj hoq
        have hs0 := hs
        clear hs
        have d8 : gg 60 = .bool false := hd 8 (dep_of (by kernel_rfl))
        have e60 := d8
        exact guard_case 60 false rfl e60 (fun h => absurd h (by decide)) (fun _ => rfl)
       | 10, _, hoq =>
        obtain rfl : _ = o := Option.some.inj hoq
        have hs0 := hs
        clear hs
        have d3 : gg 55 = .bool true := hd 3 (dep_of (by kernel_rfl))
        have e55 := d3
        have d8 : gg 60 = .bool false := hd 8 (dep_of (by kernel_rfl))
        have e60 := d8
        have d9 : gg 61 = undef := hd 9 (dep_of (by kernel_rfl))
        have e61 := d9
        refine guard_case 55 true rfl e55 (fun _ => ?_) (fun h => absurd h (by decide))
        refine os_know 55 (.bool true) e55 (by simp [undef]) ?_
        refine os_know 60 (.bool false) e60 (by simp [undef]) ?_
        refine os_rv (r_pf (v := .bool _) rfl rfl) ⟨Same.refl _ _, ?_, frsh_no⟩
        exact rfl
       | 11, _, hoq =>
        obtain rfl : _ = o := Option.some.inj hoq
        have hs0 := hs
        clear hs
        have d3 : gg 55 = .bool true := hd 3 (dep_of (by kernel_rfl))
        have e55 := d3
        have d10 : gg 62 = .bool false := hd 10 (dep_of (by kernel_rfl))
        have e62 := d10
        refine guard_case 55 true rfl e55 (fun _ => ?_) (fun h => absurd h (by decide))
        refine os_know 55 (.bool true) e55 (by simp [undef]) ?_
        refine os_know 62 (.bool false) e62 (by simp [undef]) ?_
        refine os_rv (r_mv (v := .bool _) rfl) ⟨Same.refl _ _, ?_, frsh_no⟩
        exact rfl
       | 12, _, hoq =>
        obtain rfl : _ = o := Option.some.inj hoq
        have hs0 := hs
        replace hb10 := hb10.tr0 hs
        clear hs
        have d11 : gg 63 = .bool false := hd 11 (dep_of (by kernel_rfl))
        have e63 := d11
        exact guard_case 63 false rfl e63 (fun h => absurd h (by decide)) (fun _ => rfl)
       | 13, _, hoq =>
        obtain rfl : _ = o := Option.some.inj hoq
        have hs0 := hs
        replace hb5 := hb5.tr0 hs
        clear hs
        have d11 : gg 63 = .bool false := hd 11 (dep_of (by kernel_rfl))
        have e63 := d11
        exact guard_case 63 false rfl e63 (fun h => absurd h (by decide)) (fun _ => rfl)
       | 14, _, hoq =>
        obtain rfl : _ = o := Option.some.inj hoq
        have hs0 := hs
        clear hs
        have d11 : gg 63 = .bool false := hd 11 (dep_of (by kernel_rfl))
        have e63 := d11
        have d13 : gg 65 = undef := hd 13 (dep_of (by kernel_rfl))
        have e65 := d13
        exact guard_case 63 false rfl e63 (fun h => absurd h (by decide)) (fun _ => rfl)
       | 15, _, hoq =>
        obtain rfl : _ = o := Option.some.inj hoq
        have hs0 := hs
        clear hs
        have d11 : gg 63 = .bool false := hd 11 (dep_of (by kernel_rfl))
        have e63 := d11
        have d12 : gg 64 = undef := hd 12 (dep_of (by kernel_rfl))
        have e64 := d12
        have d14 : gg 66 = undef := hd 14 (dep_of (by kernel_rfl))
        have e66 := d14
        exact guard_case 63 false rfl e63 (fun h => absurd h (by decide)) (fun _ => rfl)
       | 16, _, hoq =>
        obtain rfl : _ = o := Option.some.inj hoq
        have hs0 := hs
        clear hs
        have d3 : gg 55 = .bool true := hd 3 (dep_of (by kernel_rfl))
        have e55 := d3
        have d11 : gg 63 = .bool false := hd 11 (dep_of (by kernel_rfl))
        have e63 := d11
        have d15 : gg 67 = undef := hd 15 (dep_of (by kernel_rfl))
        have e67 := d15
        refine guard_case 55 true rfl e55 (fun _ => ?_) (fun h => absurd h (by decide))
        refine os_know 55 (.bool true) e55 (by simp [undef]) ?_
        refine os_know 63 (.bool false) e63 (by simp [undef]) ?_
        refine os_rv (r_pf (v := .bool _) rfl rfl) ⟨Same.refl _ _, ?_, frsh_no⟩
        exact rfl
       | 17, _, hoq =>
        obtain rfl : _ = o := Option.some.inj hoq
        have hs0 := hs
        clear hs
        have d3 : gg 55 = .bool true := hd 3 (dep_of (by kernel_rfl))
        have e55 := d3
        have d4 : gg 56 = .bool false := hd 4 (dep_of (by kernel_rfl))
        have e56 := d4
        have d16 : gg 68 = .bool false := hd 16 (dep_of (by kernel_rfl))
        have e68 := d16
        refine guard_case 55 true rfl e55 (fun _ => ?_) (fun h => absurd h (by decide))
        refine os_know 55 (.bool true) e55 (by simp [undef]) ?_
        refine os_know 56 (.bool false) e56 (by simp [undef]) ?_
        refine os_know 68 (.bool false) e68 (by simp [undef]) ?_
        refine os_rv (r_eqlB Tryd.underlying4 rfl rfl) ⟨Same.refl _ _, ?_, frsh_no⟩
        exact rfl
       | 18, _, hoq =>
        obtain rfl : _ = o := Option.some.inj hoq
        have hs0 := hs
        clear hs
        have d3 : gg 55 = .bool true := hd 3 (dep_of (by kernel_rfl))
        have e55 := d3
        have d17 : gg 69 = .bool true := hd 17 (dep_of (by kernel_rfl))
        have e69 := d17
        refine ⟨fun _ => ?_, fun hw => Bool.noConfusion (show true = false from hw)⟩
        refine os_know 55 (.bool true) e55 (by simp [undef]) ?_
        refine os_know 69 (.bool true) e69 (by simp [undef]) ?_
        refine os_rv (r_pt (v := .bool _) rfl rfl) ⟨Same.refl _ _, ?_, frsh_no⟩
        exact rfl
       | _ + 19, hix, _ => exact absurd hix (by omega)
      ·
       intro gg w25 hs hR hdis
       have hs0 := hs
       replace hB := hB.tr0 hs
       replace hb3 := hb3.tr0 hs
       replace hb4 := hb4.tr0 hs
       replace hb5 := hb5.tr0 hs
       replace hb7 := hb7.tr0 hs
       replace hb9 := hb9.tr0 hs
       replace hBuX := hBuX.tr0 hs
       replace hb10 := hb10.tr0 hs
       replace hb12 := hb12.tr0 hs
       replace hb14 := hb14.tr0 hs
       clear hs
       have d18 : gg 70 = .bool true := hR 18 (by decide)
       have e70 := d18
       refine wl_know 70 (.bool true) e70 (by simp [undef]) ?_
       refine wl (r_as (v := .bool _) rfl) ?_
       refine x_nil ?_
       refine e_S ?_
       refine c_ret ?_
       refine fin1 (.inl rfl) rfl rfl ?_
       exact ⟨rfl, hB⟩
end Go.Proofs.YteoncmfiiknfbaaDoor
