/- What these functions of the program compute, at every world: glosswright/glosswrightlaw3.HierarchyValidateMatchesSpec. -/
import Derived.Test.YthhkbhapfcfdjaaDoorUnmt
namespace Go.Proofs.YthhkbhapfcfdjaaDoor
open Go.RowKit

theorem fd27 : (Tryd.prog.fieldsOf 27).toList.map (fun f => (f.name == "_", f.type, f.offset)) = [(false, 3, 0), (false, 3, 1)] := by kernel_rfl
theorem fn10 : callable Tryd.prog 10 = true := by kernel_rfl
theorem fn7 : callable Tryd.prog 7 = true := by kernel_rfl
theorem fn8 : callable Tryd.prog 8 = true := by kernel_rfl
theorem fn9 : callable Tryd.prog 9 = true := by kernel_rfl
theorem ft27 : Tryd.prog.underlying 27 = some (.struct (Tryd.prog.fieldsOf 27)) := by kernel_rfl
theorem law3_any (A B : Option Addr) (c d : Nat) (l : List Ty) (fs : List Ft) (w : World) (hTab : TabIn w) (hcl : l.length ≤ c) (hdl : fs.length ≤ d) (hT : TypesIn w A l) (hF : FeatsIn w B fs) : Calls Tryd.prog 3 #[.agg #[.slice A l.length c, .slice B fs.length d]] w fun e w' => e = .returned (.bool true) ∧ Bel w w' := by
  refine enter Tryd.func3 Tryd.ntmps3 rfl (Nat.le_of_ble_eq_true rfl) ?_
  have hB : Bel w w := Below.refl _ _
  refine c_seq ?_
  refine c_region ?_
  refine wl_bx (v := .agg #[_, _]) (cs := #[_, _]) rfl rfl (fun b1 w1 hb1 hs hr => ?_)
  have lo1 := Nat.le_trans (Bel.size hB) hr
  replace hB := hB.tr0 hs
  clear hs
  clear hr
  refine wl (r_as (v := .bool _) rfl) ?_
  refine x_nil ?_
  refine e_S ?_
  refine c_seq ?_
  refine c_seq ?_
  refine c_region ?_
  refine wl_cl fn8 (unmetT_any _) rfl (fun e' w2 hr => ?_)
  obtain ⟨⟨A3, c3, rfl, hT3⟩, hs⟩ := hr
  replace hs := Same.of_bel hs
  replace hB := hB.tr0 hs
  replace hb1 := hb1.tr0 hs
  clear hs
  refine ⟨_, rfl, ?_⟩
  refine wl (r_bd1 (v0 := .slice _ _ _) (fun v0 => #[v0, .slice none 0 0]) rfl (by kernel_rfl)) ?_
  refine wl_cl fn7 (unmet_val (hTab.mono hB) hT3) rfl (fun e' w3 hr => ?_)
  obtain ⟨rfl, hs⟩ := hr
  replace hs := Same.of_bel hs
  replace hB := hB.tr0 hs
  replace hb1 := hb1.tr0 hs
  clear hs
  refine ⟨_, rfl, ?_⟩
  refine wl (r_bd2 (v0 := .int _ _) (v1 := .int _ _) (fun v0 v1 => #[v0, v1]) rfl rfl (by kernel_rfl)) ?_
  refine wl (r_neF Tryd.eqGuardType27 ft27 Tryd.stoodInHeld27 fd27 Tryd.underlying3 rfl rfl) ?_
  refine wl (r_mv (v := .bool false) rfl) ?_
  refine wl_gd 8 rfl rfl ?_
  refine wl_cl fn9 (small_any _) rfl (fun e' w4 hr => ?_)
  obtain ⟨⟨A9, c9, B9, d9, x9, y9, z9, rfl, hT9, hF9⟩, hs⟩ := hr
  replace hs := Same.of_bel hs
  replace hB := hB.tr0 hs
  replace hb1 := hb1.tr0 hs
  clear hs
  refine ⟨_, rfl, ?_⟩
  refine wl_gd 8 rfl rfl ?_
  refine wl (r_fdS (cs' := #[_, _]) Tryd.underlying36 rfl Tryd.underlying25 rfl sz25 rfl rfl) ?_
  refine wl_gd 8 rfl rfl ?_
  refine wl_cl fn7 (small_val (hTab.mono hB) hT9 hF9) rfl (fun e' w5 hr => ?_)
  obtain ⟨rfl, hs⟩ := hr
  replace hs := Same.of_bel hs
  replace hB := hB.tr0 hs
  replace hb1 := hb1.tr0 hs
  clear hs
  refine ⟨_, rfl, ?_⟩
  refine wl_gd 8 rfl rfl ?_
  refine wl (r_bd (vs := #[]) (cs := #[.int .i64 0, .int .i64 0]) (by simp) (by kernel_rfl)) ?_
  refine wl_gd 8 rfl rfl ?_
  refine wl (r_neF Tryd.eqGuardType27 ft27 Tryd.stoodInHeld27 fd27 Tryd.underlying3 rfl rfl) ?_
  refine wl (r_pf (v := .bool _) rfl rfl) ?_
  refine x_nil ?_
  refine e_S ?_
  refine c_if rfl (fun c14 => ?_) (fun c14 => ?_)
  · exact absurd c14 (by decide)
  · skip
    refine c_skip ?_
    refine e_S ?_
    refine c_seq ?_
    refine c_monoTO 6 [15, 16, 17, 18, 19, 2] (fun _ => false) (fun ix v wv => match ix with | 0 => v = .agg #[.slice A l.length c, .slice B fs.length d] | 1 => v = .agg #[.int .i64 (hierFault l fs).1, .int .i64 (hierFault l fs).2] | 2 => v = .agg #[.slice A l.length c, .slice B fs.length d] | 3 => v = .agg #[.int .i64 (hierFault l fs).1, .int .i64 (hierFault l fs).2] | 4 => v = .bool true | 5 => v = .bool true | _ => True) (by kernel_rfl) (by kernel_rfl) ?_ ?_ ?_
    · intro ix v wv wv2 h hs
      match ix, h with
      | 0, h => exact h
      | 1, h => exact h
      | 2, h => exact h
      | 3, h => exact h
      | 4, h => exact h
      | 5, h => exact h
      | _ + 6, h => exact trivial
    · intro ix o hix hoq gg wx hs hd hdis
      match ix, hix, hoq with
      | 0, _, hoq =>
        obtain rfl : _ = o := Option.some.inj hoq
        have hs0 := hs
        replace hB := hB.tr0 hs
        replace hb1 := hb1.tr0 hs
        clear hs
        refine os_rv (r_ldS Tryd.underlying25 rfl rfl hb1.range0 sz25) ⟨Same.refl _ _, ?_, frsh_no⟩
        exact rfl
      | 1, _, hoq =>
        obtain rfl : _ = o := Option.some.inj hoq
        have hs0 := hs
        replace hB := hB.tr0 hs
        replace hb1 := hb1.tr0 hs
        clear hs
        have d0 : gg 15 = .agg #[.slice A l.length c, .slice B fs.length d] := hd 0 (dep_of (by kernel_rfl))
        have e15 := d0
        refine os_know 15 (.agg #[.slice A l.length c, .slice B fs.length d]) e15 (by simp [undef]) ?_
        refine os_cl fn7 (validate_any A B c d l fs wx (hTab.mono hB) (hT.mono hB) (hF.mono hB)) rfl (fun e' w2 hr => ?_)
        obtain ⟨rfl, hs⟩ := hr
        exact ⟨_, rfl, Same.of_bel hs, rfl, frsh_no⟩
      | 2, _, hoq =>
        obtain rfl : _ = o := Option.some.inj hoq
        have hs0 := hs
        replace hB := hB.tr0 hs
        replace hb1 := hb1.tr0 hs
        clear hs
        refine os_rv (r_ldS Tryd.underlying25 rfl rfl hb1.range0 sz25) ⟨Same.refl _ _, ?_, frsh_no⟩
        exact rfl
      | 3, _, hoq =>
        obtain rfl : _ = o := Option.some.inj hoq
        have hs0 := hs
        replace hB := hB.tr0 hs
        replace hb1 := hb1.tr0 hs
        clear hs
        have d2 : gg 17 = .agg #[.slice A l.length c, .slice B fs.length d] := hd 2 (dep_of (by kernel_rfl))
        have e17 := d2
        refine os_know 17 (.agg #[.slice A l.length c, .slice B fs.length d]) e17 (by simp [undef]) ?_
        refine os_cl fn10 (hierFault_any A B c d l fs wx hcl hdl (hT.mono hB) (hF.mono hB)) rfl (fun e' w2 hr => ?_)
        obtain ⟨rfl, hs⟩ := hr
        exact ⟨_, rfl, Same.of_bel hs, rfl, frsh_no⟩
      | 4, _, hoq =>
        obtain rfl : _ = o := Option.some.inj hoq
        have hs0 := hs
        replace hB := hB.tr0 hs
        replace hb1 := hb1.tr0 hs
        clear hs
        have d1 : gg 16 = .agg #[.int .i64 (hierFault l fs).1, .int .i64 (hierFault l fs).2] := hd 1 (dep_of (by kernel_rfl))
        have e16 := d1
        have d3 : gg 18 = .agg #[.int .i64 (hierFault l fs).1, .int .i64 (hierFault l fs).2] := hd 3 (dep_of (by kernel_rfl))
        have e18 := d3
        refine os_know 16 (.agg #[.int .i64 (hierFault l fs).1, .int .i64 (hierFault l fs).2]) e16 (by simp [undef]) ?_
        refine os_know 18 (.agg #[.int .i64 (hierFault l fs).1, .int .i64 (hierFault l fs).2]) e18 (by simp [undef]) ?_
        refine os_rv (r_eqF Tryd.eqGuardType27 ft27 Tryd.stoodInHeld27 fd27 Tryd.underlying3 rfl rfl) ⟨Same.refl _ _, ?_, frsh_no⟩
        exact (congrArg Value.bool (decide_eq_true ⟨rfl, rfl⟩))
      | 5, _, hoq =>
        obtain rfl : _ = o := Option.some.inj hoq
        have hs0 := hs
        replace hB := hB.tr0 hs
        replace hb1 := hb1.tr0 hs
        clear hs
        have d4 : gg 19 = .bool true := hd 4 (dep_of (by kernel_rfl))
        have e19 := d4
        refine os_know 19 (.bool true) e19 (by simp [undef]) ?_
        refine os_rv (r_as (v := .bool _) rfl) ⟨Same.refl _ _, ?_, frsh_no⟩
        exact rfl
      | _ + 6, hix, _ => exact absurd hix (by omega)
    · intro gg w6 hs hR hdis
      have hs0 := hs
      replace hB := hB.tr0 hs
      replace hb1 := hb1.tr0 hs
      clear hs
      have d5 : gg 2 = .bool true := hR 5 (by decide)
      have e2 := d5
      refine wl_know 2 (.bool true) e2 (by simp [undef]) ?_
      refine x_nil ?_
      refine e_S ?_
      refine c_ret ?_
      refine fin1 (.inl rfl) rfl rfl ?_
      exact ⟨rfl, hB⟩
end Go.Proofs.YthhkbhapfcfdjaaDoor
