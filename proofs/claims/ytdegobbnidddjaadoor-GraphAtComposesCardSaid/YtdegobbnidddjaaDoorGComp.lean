/- What these functions of the program compute, at every world: glosswright/glosswrightlaw3.shared, glosswright/glosswrightlaw3.GraphAtComposes. -/
import Derived.Test.YtdegobbnidddjaaDoorConc
import Derived.Test.YtdegobbnidddjaaDoorComp
import Derived.Test.YtdegobbnidddjaaDoorGAt
namespace Go.Proofs.YtdegobbnidddjaaDoor
open Go.RowKit

theorem kept_fr {lo : Nat} {w : World} {p : World → Prop} (h : ∀ w2, FrSame lo w w2 → p w2) : Kept lo w.heap.size w p := ⟨Nat.le_refl _, fun w2 h2 hb => h w2 ⟨h2, hb⟩⟩
theorem conc2_any {b t : Nat} {A1 A2 : Option Addr} {c1 c2 : Nat} {p q : List Int} (w : World) (h : Blk w b t #[.slice A1 p.length c1, .slice A2 q.length c2]) (h1 : IntsIn w A1 p) (h2 : IntsIn w A2 q) (hl : p.length + q.length ≤ 17592186044416) : Calls Tryd.prog 27 #[.slice (some ⟨b, 0, none⟩) 2 2] w fun e w' => (∃ A' cap', e = .returned (.slice A' (p ++ q).length cap') ∧ IntsIn w' A' (p ++ q)) ∧ Bel w w' := by
  have e0 : [p, q].flatten = p ++ q := by simp
  have h0 := conc_any (some ⟨b, 0, none⟩) 2 [p, q] w (mat_two h h1 h2) (by simp) (by rw [e0, List.length_append]; omega)
  rw [e0] at h0
  exact h0
def sharedG : List Nd := [⟨1, [(0, 1), (1, 1)]⟩, ⟨2, []⟩]
theorem shared_dl : DL sharedG [0] [] [0, 1] :=
  .new (by decide) (.new (is := [1]) (i := 1) (o1 := [0, 1]) (by decide) .nil (.old (by decide) .nil)) .nil
theorem shared_ok : (graphF pairT pairF sharedG).1 = 0 := by
  have h0 : Rch sharedG 0 := .zero
  have hu : (-1 : Int) = unrI sharedG := unr_is (.inl ⟨rfl, fun i hi => by
    have hi3 : i < 2 := hi
    match i, hi3 with
    | 0, _ => exact h0
    | 1, _ => exact Rch.step (x := (0, 1)) h0 (by decide) (by decide)⟩)
  rw [gf_in (by rw [pair_fault]), wi_zero (by decide +kernel) (by decide +kernel) (by omega)]
theorem shat_f : atF pairT pairF sharedG [] = (0, 0) := by
  rw [atF_p shared_ok (by decide)]; decide
theorem shat_w : walkT sharedG [] 0 = ((0 : Nat) : Int) := by decide
theorem shat_ok : AtOk pairT pairF sharedG [] := ⟨by rw [shat_f], by rw [shat_w]; decide⟩
theorem shat_g : atG pairT pairF sharedG [] = sharedG := by rw [atG_yes shat_ok shat_w shared_dl]; decide
theorem atsh_any {w : World} {A B G : Option Addr} (hTab : TabIn w) (hT : TypesIn w A pairT) (hF : FeatsIn w B pairF) (hG : NodesIn w G sharedG) : Calls Tryd.prog 22 #[.agg #[.slice A 4 4, .slice B 2 2], .agg #[.slice G 2 2], .slice none 0 0] w fun e w' => (∃ A', e = .returned (.tuple #[.agg #[.slice A' 2 2], .bool true, .agg #[.int .i64 0, .int .i64 0]]) ∧ NodesIn w' A' sharedG) ∧ Bel w w' := by
  refine (at_any A B G 4 2 2 pairT pairF sharedG w none 0 [] hTab hT hF hG ⟨Nat.zero_le _, fun h => absurd rfl h⟩).mono fun e w' h => ?_
  obtain ⟨⟨A', he, hN, _⟩, hs⟩ := h
  unfold atV at he
  rw [shat_g] at hN
  rw [shat_g, shat_f, decide_eq_true shat_ok] at he
  exact ⟨⟨A', he, hN _ (FrSame.refl _ _)⟩, hs⟩

theorem fn22 : callable Tryd.prog 22 = true := by kernel_rfl
theorem fn26 : callable Tryd.prog 26 = true := by kernel_rfl
theorem fn27 : callable Tryd.prog 27 = true := by kernel_rfl
theorem shared_any (w : World) : Calls Tryd.prog 26 #[] w fun e w' => (∃ A, e = .returned (.agg #[.slice A 2 2]) ∧ NodesIn w' A sharedG) ∧ Bel w w' := by
  refine enter Tryd.func26 Tryd.ntmps26 rfl (Nat.le_of_ble_eq_true rfl) ?_
  have hB : Bel w w := Below.refl _ _
  refine c_seq ?_
  refine c_region ?_
  refine wl_al (cs := #[.slice none 0 0]) ze28 rfl (fun b0 w1 hb0 hs hr => ?_)
  have lo0 := Nat.le_trans (Bel.size hB) hr
  replace hB := hB.tr0 hs
  clear hs
  clear hr
  refine x_nil ?_
  refine e_S ?_
  refine c_seq ?_
  refine c_region ?_
  refine wl (r_bd2 (v0 := .int _ _) (v1 := .int _ _) (fun v0 v1 => #[v0, v1]) rfl rfl (by kernel_rfl)) ?_
  refine wl (r_bd2 (v0 := .int _ _) (v1 := .int _ _) (fun v0 v1 => #[v0, v1]) rfl rfl (by kernel_rfl)) ?_
  refine wl_bs (cs := #[_, _, _, _]) [(0, .agg _), (1, .agg _)] rfl Tryd.underlying37 sz41 ze41 (by decide) (by decide) (by kernel_rfl) rfl (fun b3 w2 hb3 hs hr => ?_)
  have or_b0_b3 : b0 < b3 := Nat.lt_of_lt_of_le hb0.lt hr
  have lo3 := Nat.le_trans (Bel.size hB) hr
  replace hB := hB.tr0 hs
  replace hb0 := hb0.tr0 hs
  clear hs
  clear hr
  refine wl (r_bd2 (v0 := .int _ _) (v1 := .slice _ _ _) (fun v0 v1 => #[v0, v1]) rfl rfl (by kernel_rfl)) ?_
  refine wl (r_bd1 (v0 := .int _ _) (fun v0 => #[v0, .slice none 0 0]) rfl (by kernel_rfl)) ?_
  refine wl_bs (cs := #[_, _, _, _]) [(0, .agg _), (1, .agg _)] rfl Tryd.underlying26 sz39 ze39 (by decide) (by decide) (by kernel_rfl) rfl (fun b6 w3 hb6 hs hr => ?_)
  have or_b0_b6 : b0 < b6 := Nat.lt_of_lt_of_le hb0.lt hr
  have or_b3_b6 : b3 < b6 := Nat.lt_of_lt_of_le hb3.lt hr
  have lo6 := Nat.le_trans (Bel.size hB) hr
  replace hB := hB.tr0 hs
  replace hb0 := hb0.tr0 hs
  replace hb3 := hb3.tr0 hs
  clear hs
  clear hr
  refine wl (r_bd1 (v0 := .slice _ _ _) (fun v0 => #[v0]) rfl (by kernel_rfl)) ?_
  refine wl_stW hb0 rfl rfl sz28 rfl (by repeat (first | rfl | refine one_cons (by first | rfl | assumption) ?_)) (fun w4 hq hs => ?_)
  replace hB := hB.tr1 hs lo0
  replace hb3 := hb3.tr1 hs (by omega)
  replace hb6 := hb6.tr1 hs (by omega)
  clear hs
  replace hb0 := hq
  refine x_nil ?_
  refine e_S ?_
  refine c_ret ?_
  refine fin1 (.inl rfl) rfl (rr_cell Tryd.underlying28 rfl rfl hb0.range0 sz28) ?_
  exact ⟨⟨_, rfl, nodes_of_blk (l := sharedG) hb6 (.cons (links_of_blk [(0, 1), (1, 1)] hb3 rfl (by decide)) (.cons (links_nil _ _) .nil)) (by decide)⟩, hB⟩

set_option maxHeartbeats 4000000 in
theorem law14_any (A B G : Option Addr) (c d cg : Nat) (l : List Ty) (fs : List Ft) (gr : List Nd) (w : World) (PA QA : Option Addr) (cp cq : Nat) (p q : List Int) (hTab : TabIn w) (hT : TypesIn w A l) (hF : FeatsIn w B fs) (hG : NodesIn w G gr) (hP : IntsIn w PA p) (hQ : IntsIn w QA q) (hql : q.length ≤ 17592186043904) : Calls Tryd.prog 8 #[.agg #[.slice A l.length c, .slice B fs.length d], .agg #[.slice G gr.length cg], .slice PA p.length cp, .slice QA q.length cq] w fun e w' => e = .returned (.bool true) ∧ Bel w w' := by
  refine enter Tryd.func8 Tryd.ntmps8 rfl (Nat.le_of_ble_eq_true rfl) ?_
  have hB : Bel w w := Below.refl _ _
  refine c_seq ?_
  refine c_region ?_
  refine wl_bx (v := .agg #[_, _]) (cs := #[_, _]) rfl rfl (fun b4 w1 hb4 hs hr => ?_)
  have lo4 := Nat.le_trans (Bel.size hB) hr
  replace hB := hB.tr0 hs
  clear hs
  clear hr
  refine wl_bx (v := .agg #[_]) (cs := #[_]) rfl rfl (fun b5 w2 hb5 hs hr => ?_)
  have or_b4_b5 : b4 < b5 := Nat.lt_of_lt_of_le hb4.lt hr
  have lo5 := Nat.le_trans (Bel.size hB) hr
  replace hB := hB.tr0 hs
  replace hb4 := hb4.tr0 hs
  clear hs
  clear hr
  refine wl (r_as (v := .bool _) rfl) ?_
  refine x_nil ?_
  refine e_S ?_
  refine c_seq ?_
  refine c_seq ?_
  refine c_region ?_
  refine wl_cl fn10 (pair_any _) rfl (fun e' w3 hr => ?_)
  obtain ⟨⟨Ap, Bp, rfl, hTp, hFp⟩, hs⟩ := hr
  replace hs := Same.of_bel hs
  replace hB := hB.tr0 hs
  replace hb4 := hb4.tr0 hs
  replace hb5 := hb5.tr0 hs
  clear hs
  have hB0 : Bel w3 w3 := Below.refl _ _
  refine ⟨_, rfl, ?_⟩
  refine wl_cl fn26 (shared_any _) rfl (fun e' w4 hr => ?_)
  obtain ⟨⟨Ga, rfl, hGa⟩, hs⟩ := hr
  replace hs := Same.of_bel hs
  replace hB := hB.tr0 hs
  replace hb4 := hb4.tr0 hs
  replace hb5 := hb5.tr0 hs
  replace hB0 := hB0.tr0 hs
  clear hs
  have hB1 : Bel w4 w4 := Below.refl _ _
  refine ⟨_, rfl, ?_⟩
  refine wl_cl fn22 (atsh_any (hTab.mono hB) (hTp.mono hB0) (hFp.mono hB0) (hGa.mono hB1)) rfl (fun e' w5 hr => ?_)
  obtain ⟨⟨GW, rfl, hGW⟩, hs⟩ := hr
  replace hs := Same.of_bel hs
  replace hB := hB.tr0 hs
  replace hb4 := hb4.tr0 hs
  replace hb5 := hb5.tr0 hs
  replace hB0 := hB0.tr0 hs
  replace hB1 := hB1.tr0 hs
  clear hs
  have hB2 : Bel w5 w5 := Below.refl _ _
  refine ⟨_, rfl, ?_⟩
  refine wl (r_mv (v := .tuple _) rfl) ?_
  refine wl (r_ex (v := .agg _) rfl rfl) ?_
  refine wl (r_ex (v := .bool _) rfl rfl) ?_
  refine wl (r_ex (v := .agg _) rfl rfl) ?_
  refine wl_al (cs := #[.slice none 0 0]) ze28 rfl (fun b9 w6 hb9 hs hr => ?_)
  have or_b4_b9 : b4 < b9 := Nat.lt_of_lt_of_le hb4.lt hr
  have or_b5_b9 : b5 < b9 := Nat.lt_of_lt_of_le hb5.lt hr
  have lo9 := Nat.le_trans (Bel.size hB) hr
  have lo_hB2_b9 := Nat.le_trans (Bel.size hB2) hr
  replace hB := hB.tr0 hs
  replace hb4 := hb4.tr0 hs
  replace hb5 := hb5.tr0 hs
  replace hB2 := hB2.tr0 hs
  clear hs
  clear hr
  refine wl_al (cs := #[.int .i64 0, .int .i64 0]) ze30 rfl (fun b11 w7 hb11 hs hr => ?_)
  have or_b4_b11 : b4 < b11 := Nat.lt_of_lt_of_le hb4.lt hr
  have or_b5_b11 : b5 < b11 := Nat.lt_of_lt_of_le hb5.lt hr
  have or_b9_b11 : b9 < b11 := Nat.lt_of_lt_of_le hb9.lt hr
  have lo11 := Nat.le_trans (Bel.size hB) hr
  have lo_hB2_b11 := Nat.le_trans (Bel.size hB2) hr
  replace hB := hB.tr0 hs
  replace hb4 := hb4.tr0 hs
  replace hb5 := hb5.tr0 hs
  replace hB2 := hB2.tr0 hs
  replace hb9 := hb9.tr0 hs
  clear hs
  clear hr
  refine wl_stW hb9 rfl rfl sz28 rfl (by repeat (first | rfl | refine one_cons (by first | rfl | assumption) ?_)) (fun w8 hq hs => ?_)
  replace hB := hB.tr1 hs lo9
  replace hb4 := hb4.tr1 hs (by omega)
  replace hb5 := hb5.tr1 hs (by omega)
  replace hB2 := hB2.tr1 hs lo_hB2_b9
  replace hb11 := hb11.tr1 hs (by omega)
  clear hs
  replace hb9 := hq
  refine wl (r_as (v := .bool _) rfl) ?_
  refine wl_stW hb11 rfl rfl sz30 rfl (by repeat (first | rfl | refine one_cons (by first | rfl | assumption) ?_)) (fun w9 hq hs => ?_)
  replace hB := hB.tr1 hs lo11
  replace hb4 := hb4.tr1 hs (by omega)
  replace hb5 := hb5.tr1 hs (by omega)
  replace hB2 := hB2.tr1 hs lo_hB2_b11
  replace hb9 := hb9.tr1 hs (by omega)
  clear hs
  replace hb11 := hq
  refine x_nil ?_
  refine e_S ?_
  refine c_seq ?_
  refine c_monoGO 8 [28, 29, 30, 31, 32, 33, 34, 35] (fun _ => false) (fun ix v wv => match ix with | 0 => v = .bool true | 1 => v = .bool false | 2 => v = .bool false | 3 => v = .agg #[.slice GW 2 2] | 4 => ∃ AS, v = .agg #[.slice AS 2 2] ∧ NodesIn wv AS sharedG | 5 => v = .bool true | 6 => v = .bool false | 7 => v = .bool false | _ => True) (by kernel_rfl) (by kernel_rfl) ?_ ?_ ?_
  · intro ix v wv wv2 h hs
    match ix, h with
    | 0, h => exact h
    | 1, h => exact h
    | 2, h => exact h
    | 3, h => exact h
    | 4, h =>
      obtain ⟨AS, e32, hNS⟩ := (show ∃ AS, v = .agg #[.slice AS 2 2] ∧ NodesIn wv AS sharedG from h)
      exact ⟨AS, e32, hNS.mono hs.bel⟩
    | 5, h => exact h
    | 6, h => exact h
    | 7, h => exact h
    | _ + 8, h => exact trivial
  · intro ix o hix hoq gg wx hs hd hdis
    match ix, hix, hoq with
    | 0, _, hoq =>
      obtain rfl : _ = o := Option.some.inj hoq
      have hs0 := hs
      replace hB := hB.tr0 hs
      replace hb4 := hb4.tr0 hs
      replace hb5 := hb5.tr0 hs
      replace hB2 := hB2.tr0 hs
      replace hb9 := hb9.tr0 hs
      replace hb11 := hb11.tr0 hs
      clear hs
      refine ⟨fun _ => ?_, fun hw => Bool.noConfusion (show true = false from hw)⟩
      refine os_rv (r_mv (v := .bool _) rfl) ⟨Same.refl _ _, ?_, frsh_no⟩
      exact rfl
    | 1, _, hoq =>
      obtain rfl : _ = o := Option.some.inj hoq
      have hs0 := hs
      replace hB := hB.tr0 hs
      replace hb4 := hb4.tr0 hs
      replace hb5 := hb5.tr0 hs
      replace hB2 := hB2.tr0 hs
      replace hb9 := hb9.tr0 hs
      replace hb11 := hb11.tr0 hs
      clear hs
      have d0 : gg 28 = .bool true := hd 0 (dep_of (by kernel_rfl))
      have e28 := d0
      refine ⟨fun _ => ?_, fun hw => Bool.noConfusion (show true = false from hw)⟩
      refine os_know 28 (.bool true) e28 (by simp [undef]) ?_
      refine os_rv (r_not rfl) ⟨Same.refl _ _, ?_, frsh_no⟩
      exact rfl
    | 2, _, hoq =>
      obtain rfl : _ = o := Option.some.inj hoq
      have hs0 := hs
      replace hB := hB.tr0 hs
      replace hb4 := hb4.tr0 hs
      replace hb5 := hb5.tr0 hs
      replace hB2 := hB2.tr0 hs
      replace hb9 := hb9.tr0 hs
      replace hb11 := hb11.tr0 hs
      clear hs
      have d1 : gg 29 = .bool false := hd 1 (dep_of (by kernel_rfl))
      have e29 := d1
      refine ⟨fun _ => ?_, fun hw => Bool.noConfusion (show true = false from hw)⟩
      refine os_know 29 (.bool false) e29 (by simp [undef]) ?_
      refine os_rv (r_mv (v := .bool _) rfl) ⟨Same.refl _ _, ?_, frsh_no⟩
      exact rfl
    | 3, _, hoq =>
      obtain rfl : _ = o := Option.some.inj hoq
      have hs0 := hs
      replace hB := hB.tr0 hs
      replace hb4 := hb4.tr0 hs
      replace hb5 := hb5.tr0 hs
      replace hB2 := hB2.tr0 hs
      replace hb9 := hb9.tr0 hs
      replace hb11 := hb11.tr0 hs
      clear hs
      have d2 : gg 30 = .bool false := hd 2 (dep_of (by kernel_rfl))
      have e30 := d2
      refine guard_case 30 false rfl e30 (fun _ => ?_) (fun h => absurd h (by decide))
      refine os_know 30 (.bool false) e30 (by simp [undef]) ?_
      refine os_rv (r_ldS Tryd.underlying28 rfl rfl hb9.range0 sz28) ⟨Same.refl _ _, ?_, frsh_no⟩
      exact rfl
    | 4, _, hoq =>
      obtain rfl : _ = o := Option.some.inj hoq
      have hs0 := hs
      replace hB := hB.tr0 hs
      replace hb4 := hb4.tr0 hs
      replace hb5 := hb5.tr0 hs
      replace hB2 := hB2.tr0 hs
      replace hb9 := hb9.tr0 hs
      replace hb11 := hb11.tr0 hs
      clear hs
      have d2 : gg 30 = .bool false := hd 2 (dep_of (by kernel_rfl))
      have e30 := d2
      refine guard_case 30 false rfl e30 (fun _ => ?_) (fun h => absurd h (by decide))
      refine os_know 30 (.bool false) e30 (by simp [undef]) ?_
      refine os_cl fn26 (shared_any wx) rfl (fun e' w2 hr => ?_)
      obtain ⟨⟨AS, rfl, hNS⟩, hs⟩ := hr
      exact ⟨_, rfl, Same.of_bel hs, ⟨_, rfl, hNS⟩, frsh_no⟩
    | 5, _, hoq =>
      obtain rfl : _ = o := Option.some.inj hoq
      have hs0 := hs
      replace hB := hB.tr0 hs
      replace hb4 := hb4.tr0 hs
      replace hb5 := hb5.tr0 hs
      replace hB2 := hB2.tr0 hs
      replace hb9 := hb9.tr0 hs
      replace hb11 := hb11.tr0 hs
      clear hs
      have d2 : gg 30 = .bool false := hd 2 (dep_of (by kernel_rfl))
      have e30 := d2
      have d3 : gg 31 = .agg #[.slice GW 2 2] := hd 3 (dep_of (by kernel_rfl))
      have e31 := d3
      have d4 : ∃ AS, gg 32 = .agg #[.slice AS 2 2] ∧ NodesIn wx AS sharedG := hd 4 (dep_of (by kernel_rfl))
      obtain ⟨AS, e32, hNS⟩ := d4
      refine guard_case 30 false rfl e30 (fun _ => ?_) (fun h => absurd h (by decide))
      refine os_know 30 (.bool false) e30 (by simp [undef]) ?_
      refine os_know 31 (.agg #[.slice GW 2 2]) e31 (by simp [undef]) ?_
      refine os_know 32 (.agg #[.slice AS 2 2]) e32 (by simp [undef]) ?_
      refine os_cl fn15 (same_any GW AS 2 2 2 2 sharedG sharedG wx (hGW.mono hB2) hNS rfl rfl rfl) rfl (fun e' w2 hr => ?_)
      obtain ⟨rfl, hs⟩ := hr
      exact ⟨_, rfl, Same.of_bel hs, rfl, frsh_no⟩
    | 6, _, hoq =>
      obtain rfl : _ = o := Option.some.inj hoq
      have hs0 := hs
      replace hB := hB.tr0 hs
      replace hb4 := hb4.tr0 hs
      replace hb5 := hb5.tr0 hs
      replace hB2 := hB2.tr0 hs
      replace hb9 := hb9.tr0 hs
      replace hb11 := hb11.tr0 hs
      clear hs
      have d2 : gg 30 = .bool false := hd 2 (dep_of (by kernel_rfl))
      have e30 := d2
      have d5 : gg 33 = .bool true := hd 5 (dep_of (by kernel_rfl))
      have e33 := d5
      refine guard_case 30 false rfl e30 (fun _ => ?_) (fun h => absurd h (by decide))
      refine os_know 30 (.bool false) e30 (by simp [undef]) ?_
      refine os_know 33 (.bool true) e33 (by simp [undef]) ?_
      refine os_rv (r_not rfl) ⟨Same.refl _ _, ?_, frsh_no⟩
      exact rfl
    | 7, _, hoq =>
      obtain rfl : _ = o := Option.some.inj hoq
      have hs0 := hs
      replace hB := hB.tr0 hs
      replace hb4 := hb4.tr0 hs
      replace hb5 := hb5.tr0 hs
      replace hB2 := hB2.tr0 hs
      replace hb9 := hb9.tr0 hs
      replace hb11 := hb11.tr0 hs
      clear hs
      have d2 : gg 30 = .bool false := hd 2 (dep_of (by kernel_rfl))
      have e30 := d2
      have d6 : gg 34 = .bool false := hd 6 (dep_of (by kernel_rfl))
      have e34 := d6
      refine ⟨fun _ => ?_, fun hw => Bool.noConfusion (show true = false from hw)⟩
      refine os_know 30 (.bool false) e30 (by simp [undef]) ?_
      refine os_know 34 (.bool false) e34 (by simp [undef]) ?_
      refine os_rv (r_pf (v := .bool _) rfl rfl) ⟨Same.refl _ _, ?_, frsh_no⟩
      exact rfl
    | _ + 8, hix, _ => exact absurd hix (by omega)
  · intro gg w10 hs hR hdis
    have hs0 := hs
    replace hB := hB.tr0 hs
    replace hb4 := hb4.tr0 hs
    replace hb5 := hb5.tr0 hs
    replace hB2 := hB2.tr0 hs
    replace hb9 := hb9.tr0 hs
    replace hb11 := hb11.tr0 hs
    clear hs
    have d7 : gg 35 = .bool false := hR 7 (by decide)
    have e35 := d7
    refine wl_know 35 (.bool false) e35 (by simp [undef]) ?_
    refine x_nil ?_
    refine e_S ?_
    refine c_if rfl (fun c35 => ?_) (fun c35 => ?_)
    · exact absurd c35 (by decide)
    · skip
      refine c_skip ?_
      refine e_S ?_
      refine c_seq ?_
      refine c_region ?_
      refine wl (r_ldS Tryd.underlying25 rfl rfl hb4.range0 sz25) ?_
      refine wl (r_ldS Tryd.underlying28 rfl rfl hb5.range0 sz28) ?_
      refine wl (r_mv (v := .slice _ _ _) rfl) ?_
      refine wl_cl fn22 (at_any A B G c d cg l fs gr _ PA cp p (hTab.mono hB) (hT.mono hB) (hF.mono hB) (hG.mono hB) (hP.mono hB)) rfl (fun e' w11 hr => ?_)
      obtain ⟨⟨AX, rfl, hNX, hAt⟩, hs⟩ := hr
      replace hs := Same.of_bel hs
      replace hB := hB.tr0 hs
      replace hb4 := hb4.tr0 hs
      replace hb5 := hb5.tr0 hs
      replace hB2 := hB2.tr0 hs
      replace hb9 := hb9.tr0 hs
      replace hb11 := hb11.tr0 hs
      clear hs
      obtain ⟨wX, hwwX⟩ : ∃ x, x = w11 := ⟨_, rfl⟩
      have hBX : Bel wX w11 := by rw [hwwX]; exact Below.refl _ _
      replace hNX := hNX _ (FrSame.refl _ _)
      rw [← hwwX] at hNX
      refine ⟨_, rfl, ?_⟩
      refine wl (r_mv (v := .tuple _) rfl) ?_
      refine wl (r_ex (v := .agg _) rfl rfl) ?_
      refine wl (r_ex (v := .bool _) rfl rfl) ?_
      refine wl (r_ex (v := .agg _) rfl rfl) ?_
      refine wl_al (cs := #[.slice none 0 0]) ze28 rfl (fun b12 w12 hb12 hs hr => ?_)
      have or_b4_b12 : b4 < b12 := Nat.lt_of_lt_of_le hb4.lt hr
      have or_b5_b12 : b5 < b12 := Nat.lt_of_lt_of_le hb5.lt hr
      have or_b9_b12 : b9 < b12 := Nat.lt_of_lt_of_le hb9.lt hr
      have or_b11_b12 : b11 < b12 := Nat.lt_of_lt_of_le hb11.lt hr
      have lo12 := Nat.le_trans (Bel.size hB) hr
      have lo_hBX_b12 := Nat.le_trans (Bel.size hBX) hr
      replace hB := hB.tr0 hs
      replace hb4 := hb4.tr0 hs
      replace hb5 := hb5.tr0 hs
      replace hb9 := hb9.tr0 hs
      replace hb11 := hb11.tr0 hs
      replace hBX := hBX.tr0 hs
      clear hs
      clear hr
      refine wl_al (cs := #[.int .i64 0, .int .i64 0]) ze30 rfl (fun b14 w13 hb14 hs hr => ?_)
      have or_b4_b14 : b4 < b14 := Nat.lt_of_lt_of_le hb4.lt hr
      have or_b5_b14 : b5 < b14 := Nat.lt_of_lt_of_le hb5.lt hr
      have or_b9_b14 : b9 < b14 := Nat.lt_of_lt_of_le hb9.lt hr
      have or_b11_b14 : b11 < b14 := Nat.lt_of_lt_of_le hb11.lt hr
      have or_b12_b14 : b12 < b14 := Nat.lt_of_lt_of_le hb12.lt hr
      have lo14 := Nat.le_trans (Bel.size hB) hr
      have lo_hBX_b14 := Nat.le_trans (Bel.size hBX) hr
      replace hB := hB.tr0 hs
      replace hb4 := hb4.tr0 hs
      replace hb5 := hb5.tr0 hs
      replace hb9 := hb9.tr0 hs
      replace hb11 := hb11.tr0 hs
      replace hBX := hBX.tr0 hs
      replace hb12 := hb12.tr0 hs
      clear hs
      clear hr
      refine wl_stW hb12 rfl rfl sz28 rfl (by repeat (first | rfl | refine one_cons (by first | rfl | assumption) ?_)) (fun w14 hq hs => ?_)
      replace hB := hB.tr1 hs lo12
      replace hb4 := hb4.tr1 hs (by omega)
      replace hb5 := hb5.tr1 hs (by omega)
      replace hb9 := hb9.tr1 hs (by omega)
      replace hb11 := hb11.tr1 hs (by omega)
      replace hBX := hBX.tr1 hs lo_hBX_b12
      replace hb14 := hb14.tr1 hs (by omega)
      clear hs
      replace hb12 := hq
      refine wl (r_as (v := .bool _) rfl) ?_
      refine wl_stW hb14 rfl rfl sz30 rfl (by repeat (first | rfl | refine one_cons (by first | rfl | assumption) ?_)) (fun w15 hq hs => ?_)
      replace hB := hB.tr1 hs lo14
      replace hb4 := hb4.tr1 hs (by omega)
      replace hb5 := hb5.tr1 hs (by omega)
      replace hb9 := hb9.tr1 hs (by omega)
      replace hb11 := hb11.tr1 hs (by omega)
      replace hBX := hBX.tr1 hs lo_hBX_b14
      replace hb12 := hb12.tr1 hs (by omega)
      clear hs
      replace hb14 := hq
      refine x_nil ?_
      refine e_S ?_
      refine c_seq ?_
      refine c_seq ?_
      refine c_cut1 [44, 45, 46, 47, 48, 49, 50] 50 (.bool (decide (¬ (atF l fs gr p).1 = 0 ∨ ¬ AtOk l fs gr p))) (by simp [undef]) ?_ (fun gq => ?_)
      · refine c_region ?_
        refine wl (r_fa Tryd.underlying30 sz3 (by decide) rfl rfl rfl) ?_
        refine wl (r_ld1 (v := .int _ _) Tryd.underlying3 rfl rfl (hb14.cell rfl)) ?_
        refine wl (r_neq rfl rfl) ?_
        refine wl (r_mv (v := .bool _) rfl) ?_
        refine wl_casesd 47 rfl (fun g47 => ?_) (fun g47 => ?_)
        · skip
          refine wlgn 47 rfl rfl rfl ?_
          refine wlgn 47 rfl rfl rfl ?_
          refine wl (r_pt (v := .bool _) rfl rfl) ?_
          refine x_nil (e_R ⟨rfl, (by repeat (first | exact ag_refl | exact ag_ovr' | refine ag_upd rfl ?_ | refine ag_sub rfl ?_ | refine ag_kn (by assumption) ?_)), ?_⟩)
          show Value.bool _ = Value.bool _
          first | exact congrArg Value.bool (decide_eq_true (Or.inl (by first | assumption | exact g47))).symm | (simp only [Value.bool.injEq]; simp [g47]; done) | (simp [g47]; done)
        · skip
          refine wl_gd 47 rfl rfl ?_
          refine wl (r_mv (v := .bool _) rfl) ?_
          refine wl_gd 47 rfl rfl ?_
          refine wl (r_not rfl) ?_
          refine wl (r_pf (v := .bool _) rfl rfl) ?_
          refine x_nil (e_R ⟨rfl, (by repeat (first | exact ag_refl | exact ag_ovr' | refine ag_upd rfl ?_ | refine ag_sub rfl ?_ | refine ag_kn (by assumption) ?_)), ?_⟩)
          show Value.bool _ = Value.bool _
          first | exact congrArg Value.bool (decide_eq_true (Or.inl (by first | assumption | exact g47))).symm | (simp only [Value.bool.injEq]; simp [g47]; done) | (simp [g47]; done)
      refine e_S ?_
      refine c_ifd rfl (fun c50 => ?_) (fun c50 => ?_)
      · skip
        refine c_seq ?_
        refine c_region ?_
        refine wl (r_as (v := .bool _) rfl) ?_
        refine x_nil ?_
        refine e_S ?_
        refine c_ret ?_
        refine e_Sr ?_
        refine fin1 (.inl rfl) rfl rfl ?_
        exact ⟨rfl, hB⟩
      · have hok : AtOk l fs gr p := Classical.not_not.1 (fun h => c50 (.inr h))
        obtain ⟨a, o, hal, haw, hdl, hXe⟩ := hAt hok
        obtain ⟨hx0, hp3, _⟩ := at_zero.1 hok.1
        refine c_skip ?_
        refine e_S ?_
        refine c_seq ?_
        refine c_region ?_
        refine wl (r_ldS Tryd.underlying25 rfl rfl hb4.range0 sz25) ?_
        refine wl (r_ldS Tryd.underlying28 rfl rfl hb12.range0 sz28) ?_
        refine wl (r_mv (v := .slice _ _ _) rfl) ?_
        refine wl_cl fn22 (at_any A B AX c d (atG l fs gr p).length l fs (atG l fs gr p) _ QA cq q (hTab.mono hB) (hT.mono hB) (hF.mono hB) (hNX.mono hBX) (hQ.mono hB)) rfl (fun e' w16 hr => ?_)
        obtain ⟨⟨AY, rfl, hNY, hAtY⟩, hs⟩ := hr
        replace hs := Same.of_bel hs
        replace hB := hB.tr0 hs
        replace hb4 := hb4.tr0 hs
        replace hb5 := hb5.tr0 hs
        replace hb9 := hb9.tr0 hs
        replace hb11 := hb11.tr0 hs
        replace hBX := hBX.tr0 hs
        replace hb12 := hb12.tr0 hs
        replace hb14 := hb14.tr0 hs
        clear hs
        obtain ⟨wY, hwwY⟩ : ∃ x, x = w16 := ⟨_, rfl⟩
        have hBY : Bel wY w16 := by rw [hwwY]; exact Below.refl _ _
        replace hNY := hNY _ (FrSame.refl _ _)
        rw [← hwwY] at hNY
        refine ⟨_, rfl, ?_⟩
        refine wl (r_mv (v := .tuple _) rfl) ?_
        refine wl (r_ex (v := .agg _) rfl rfl) ?_
        refine wl (r_ex (v := .bool _) rfl rfl) ?_
        refine wl (r_ex (v := .agg _) rfl rfl) ?_
        refine wl_al (cs := #[.slice none 0 0]) ze28 rfl (fun b15 w17 hb15 hs hr => ?_)
        have or_b4_b15 : b4 < b15 := Nat.lt_of_lt_of_le hb4.lt hr
        have or_b5_b15 : b5 < b15 := Nat.lt_of_lt_of_le hb5.lt hr
        have lo15 := Nat.le_trans (Bel.size hB) hr
        have lo_hBY_b15 := Nat.le_trans (Bel.size hBY) hr
        replace hB := hB.tr0 hs
        replace hb4 := hb4.tr0 hs
        replace hb5 := hb5.tr0 hs
        replace hBY := hBY.tr0 hs
        clear hs
        clear hr
        refine wl_al (cs := #[.int .i64 0, .int .i64 0]) ze30 rfl (fun b17 w18 hb17 hs hr => ?_)
        have or_b4_b17 : b4 < b17 := Nat.lt_of_lt_of_le hb4.lt hr
        have or_b5_b17 : b5 < b17 := Nat.lt_of_lt_of_le hb5.lt hr
        have or_b15_b17 : b15 < b17 := Nat.lt_of_lt_of_le hb15.lt hr
        have lo17 := Nat.le_trans (Bel.size hB) hr
        have lo_hBY_b17 := Nat.le_trans (Bel.size hBY) hr
        replace hB := hB.tr0 hs
        replace hb4 := hb4.tr0 hs
        replace hb5 := hb5.tr0 hs
        replace hBY := hBY.tr0 hs
        replace hb15 := hb15.tr0 hs
        clear hs
        clear hr
        refine wl_stW hb15 rfl rfl sz28 rfl (by repeat (first | rfl | refine one_cons (by first | rfl | assumption) ?_)) (fun w19 hq hs => ?_)
        replace hB := hB.tr1 hs lo15
        replace hb4 := hb4.tr1 hs (by omega)
        replace hb5 := hb5.tr1 hs (by omega)
        replace hBY := hBY.tr1 hs lo_hBY_b15
        replace hb17 := hb17.tr1 hs (by omega)
        clear hs
        replace hb15 := hq
        refine wl (r_as (v := .bool _) rfl) ?_
        refine wl_stW hb17 rfl rfl sz30 rfl (by repeat (first | rfl | refine one_cons (by first | rfl | assumption) ?_)) (fun w20 hq hs => ?_)
        replace hB := hB.tr1 hs lo17
        replace hb4 := hb4.tr1 hs (by omega)
        replace hb5 := hb5.tr1 hs (by omega)
        replace hBY := hBY.tr1 hs lo_hBY_b17
        replace hb15 := hb15.tr1 hs (by omega)
        clear hs
        replace hb17 := hq
        refine x_nil ?_
        refine e_S ?_
        refine c_seq ?_
        have hsz := Bel.size hB
        have hszY := Bel.size hBY
        have z4 := hb4.lt
        have z5 := hb5.lt
        have z15 := hb15.lt
        have z17 := hb17.lt
        refine c_cutS [18, 19, 20, 59, 60, 61, 62, 63, 64, 65, 66, 67, 68, 69] (fun g w' => ∃ (b18 b20 : Nat) (AZ : Option Addr) (lz hz : Nat), g 18 = .pointer (some ⟨b18, 0, none⟩) ∧ g 19 = .bool (decide (AtOk l fs gr (p ++ q))) ∧ g 20 = .pointer (some ⟨b20, 0, none⟩) ∧ Bel w w' ∧ Bel wY w' ∧ Blk w' b15 28 #[.slice AY (atG l fs (atG l fs gr p) q).length (atG l fs (atG l fs gr p) q).length] ∧ Blk w' b17 30 #[.int .i64 (atF l fs (atG l fs gr p) q).1, .int .i64 (atF l fs (atG l fs gr p) q).2] ∧ Blk w' b18 28 #[.slice AZ (atG l fs gr (p ++ q)).length (atG l fs gr (p ++ q)).length] ∧ Blk w' b20 30 #[.int .i64 (atF l fs gr (p ++ q)).1, .int .i64 (atF l fs gr (p ++ q)).2] ∧ Kept lz hz w' (fun wq => NodesIn wq AZ (atG l fs gr (p ++ q))) ∧ (AtOk l fs gr (p ++ q) → ∃ (a : Nat) (o : List Nat), a < gr.length ∧ walkT gr (p ++ q) 0 = a ∧ DL gr [a] [] o ∧ atG l fs gr (p ++ q) = canG gr o)) ?_ (fun g8 w21 hI => ?_)
        · skip
          refine c_monoFO 13 [60, 61, 62, 63, 64, 65, 66, 59, 67, 68, 69, 18, 20] [9, 10] (fun ix => bif Nat.beq ix 7 then 6 else bif Nat.beq ix 8 then 6 else ix) (fun ix v la ha wv => match ix with | 0 => v = .agg #[.slice A l.length c, .slice B fs.length d] | 1 => v = .agg #[.slice G gr.length cg] | 2 => v = .slice PA p.length cp | 3 => v = .slice QA q.length cq | 4 => ∃ b, v = .slice (some ⟨b, 0, none⟩) 2 2 ∧ Blk wv b 52 #[.slice PA p.length cp, .slice QA q.length cq] | 5 => ∃ AC cC, v = .slice AC (p ++ q).length cC ∧ IntsIn wv AC (p ++ q) | 6 => ∃ AZ, v = .tuple #[.agg #[.slice AZ (atG l fs gr (p ++ q)).length (atG l fs gr (p ++ q)).length], .bool (decide (AtOk l fs gr (p ++ q))), .agg #[.int .i64 (atF l fs gr (p ++ q)).1, .int .i64 (atF l fs gr (p ++ q)).2]] ∧ Kept la ha wv (fun wq => NodesIn wq AZ (atG l fs gr (p ++ q))) ∧ (AtOk l fs gr (p ++ q) → ∃ (a : Nat) (o : List Nat), a < gr.length ∧ walkT gr (p ++ q) 0 = a ∧ DL gr [a] [] o ∧ atG l fs gr (p ++ q) = canG gr o) | 7 => ∃ AZ, v = .tuple #[.agg #[.slice AZ (atG l fs gr (p ++ q)).length (atG l fs gr (p ++ q)).length], .bool (decide (AtOk l fs gr (p ++ q))), .agg #[.int .i64 (atF l fs gr (p ++ q)).1, .int .i64 (atF l fs gr (p ++ q)).2]] ∧ Kept la ha wv (fun wq => NodesIn wq AZ (atG l fs gr (p ++ q))) ∧ (AtOk l fs gr (p ++ q) → ∃ (a : Nat) (o : List Nat), a < gr.length ∧ walkT gr (p ++ q) 0 = a ∧ DL gr [a] [] o ∧ atG l fs gr (p ++ q) = canG gr o) | 8 => ∃ AZ, v = .agg #[.slice AZ (atG l fs gr (p ++ q)).length (atG l fs gr (p ++ q)).length] ∧ Kept la ha wv (fun wq => NodesIn wq AZ (atG l fs gr (p ++ q))) ∧ (AtOk l fs gr (p ++ q) → ∃ (a : Nat) (o : List Nat), a < gr.length ∧ walkT gr (p ++ q) 0 = a ∧ DL gr [a] [] o ∧ atG l fs gr (p ++ q) = canG gr o) | 9 => v = .bool (decide (AtOk l fs gr (p ++ q))) | 10 => v = .agg #[.int .i64 (atF l fs gr (p ++ q)).1, .int .i64 (atF l fs gr (p ++ q)).2] | 11 => ∃ b, v = .pointer (some ⟨b, 0, none⟩) ∧ w20.heap.size ≤ b ∧ Blk wv b 28 #[.slice none 0 0] ∧ la ≤ b ∧ b < ha | 12 => ∃ b, v = .pointer (some ⟨b, 0, none⟩) ∧ w20.heap.size ≤ b ∧ Blk wv b 30 #[.int .i64 0, .int .i64 0] ∧ la ≤ b ∧ b < ha | _ => True) (by kernel_rfl) (by kernel_rfl) (by kernel_rfl) (by kernel_rfl) ?_ ?_ ?_
          · intro ix v la ha wv wv2 h hle hs
            match ix, h with
            | 0, h => exact h
            | 1, h => exact h
            | 2, h => exact h
            | 3, h => exact h
            | 4, h =>
              obtain ⟨b64, e64, hb64⟩ := (show ∃ b, v = .slice (some ⟨b, 0, none⟩) 2 2 ∧ Blk wv b 52 #[.slice PA p.length cp, .slice QA q.length cq] from h)
              exact ⟨b64, e64, hb64.tr0 hs⟩
            | 5, h =>
              obtain ⟨AC, cC, e65, hIC⟩ := (show ∃ AC cC, v = .slice AC (p ++ q).length cC ∧ IntsIn wv AC (p ++ q) from h)
              exact ⟨AC, cC, e65, hIC.mono hs.bel⟩
            | 6, h =>
              obtain ⟨AZ, e66, hNZ, hAtZ⟩ := (show ∃ AZ, v = .tuple #[.agg #[.slice AZ (atG l fs gr (p ++ q)).length (atG l fs gr (p ++ q)).length], .bool (decide (AtOk l fs gr (p ++ q))), .agg #[.int .i64 (atF l fs gr (p ++ q)).1, .int .i64 (atF l fs gr (p ++ q)).2]] ∧ Kept la ha wv (fun wq => NodesIn wq AZ (atG l fs gr (p ++ q))) ∧ (AtOk l fs gr (p ++ q) → ∃ (a : Nat) (o : List Nat), a < gr.length ∧ walkT gr (p ++ q) 0 = a ∧ DL gr [a] [] o ∧ atG l fs gr (p ++ q) = canG gr o) from h)
              exact ⟨AZ, e66, hNZ.tr0 hs, hAtZ⟩
            | 7, h =>
              obtain ⟨AZ7, e59, hN7, hA7⟩ := (show ∃ AZ, v = .tuple #[.agg #[.slice AZ (atG l fs gr (p ++ q)).length (atG l fs gr (p ++ q)).length], .bool (decide (AtOk l fs gr (p ++ q))), .agg #[.int .i64 (atF l fs gr (p ++ q)).1, .int .i64 (atF l fs gr (p ++ q)).2]] ∧ Kept la ha wv (fun wq => NodesIn wq AZ (atG l fs gr (p ++ q))) ∧ (AtOk l fs gr (p ++ q) → ∃ (a : Nat) (o : List Nat), a < gr.length ∧ walkT gr (p ++ q) 0 = a ∧ DL gr [a] [] o ∧ atG l fs gr (p ++ q) = canG gr o) from h)
              exact ⟨AZ7, e59, hN7.tr0 hs, hA7⟩
            | 8, h =>
              obtain ⟨AZ, e67, hNZ, hAtZ⟩ := (show ∃ AZ, v = .agg #[.slice AZ (atG l fs gr (p ++ q)).length (atG l fs gr (p ++ q)).length] ∧ Kept la ha wv (fun wq => NodesIn wq AZ (atG l fs gr (p ++ q))) ∧ (AtOk l fs gr (p ++ q) → ∃ (a : Nat) (o : List Nat), a < gr.length ∧ walkT gr (p ++ q) 0 = a ∧ DL gr [a] [] o ∧ atG l fs gr (p ++ q) = canG gr o) from h)
              exact ⟨AZ, e67, hNZ.tr0 hs, hAtZ⟩
            | 9, h => exact h
            | 10, h => exact h
            | 11, h =>
              obtain ⟨b18, e18, lo18, hb18, la18, ha18⟩ := (show ∃ b, v = .pointer (some ⟨b, 0, none⟩) ∧ w20.heap.size ≤ b ∧ Blk wv b 28 #[.slice none 0 0] ∧ la ≤ b ∧ b < ha from h)
              exact ⟨b18, e18, lo18, hb18.tr0 hs, la18, ha18⟩
            | 12, h =>
              obtain ⟨b20, e20, lo20, hb20, la20, ha20⟩ := (show ∃ b, v = .pointer (some ⟨b, 0, none⟩) ∧ w20.heap.size ≤ b ∧ Blk wv b 30 #[.int .i64 0, .int .i64 0] ∧ la ≤ b ∧ b < ha from h)
              exact ⟨b20, e20, lo20, hb20.tr0 hs, la20, ha20⟩
            | _ + 13, h => exact trivial
          · intro ix o hix hoq gg wx lo hi hs hd hdis
            match ix, hix, hoq with
            | 0, _, hoq =>
              obtain rfl : _ = o := Option.some.inj hoq
              have hs0 := hs
              replace hB := hB.tr0 hs
              replace hb4 := hb4.tr0 hs
              replace hb5 := hb5.tr0 hs
              replace hBY := hBY.tr0 hs
              replace hb15 := hb15.tr0 hs
              replace hb17 := hb17.tr0 hs
              clear hs
              refine ⟨fun _ => ?_, fun hw => Bool.noConfusion (show true = false from hw)⟩
              refine os_rv (r_ldS Tryd.underlying25 rfl rfl hb4.range0 sz25) ⟨Same.refl _ _, ?_⟩
              exact rfl
            | 1, _, hoq =>
              obtain rfl : _ = o := Option.some.inj hoq
              have hs0 := hs
              replace hB := hB.tr0 hs
              replace hb4 := hb4.tr0 hs
              replace hb5 := hb5.tr0 hs
              replace hBY := hBY.tr0 hs
              replace hb15 := hb15.tr0 hs
              replace hb17 := hb17.tr0 hs
              clear hs
              refine ⟨fun _ => ?_, fun hw => Bool.noConfusion (show true = false from hw)⟩
              refine os_rv (r_ldS Tryd.underlying28 rfl rfl hb5.range0 sz28) ⟨Same.refl _ _, ?_⟩
              exact rfl
            | 2, _, hoq =>
              obtain rfl : _ = o := Option.some.inj hoq
              have hs0 := hs
              replace hB := hB.tr0 hs
              replace hb4 := hb4.tr0 hs
              replace hb5 := hb5.tr0 hs
              replace hBY := hBY.tr0 hs
              replace hb15 := hb15.tr0 hs
              replace hb17 := hb17.tr0 hs
              clear hs
              refine ⟨fun _ => ?_, fun hw => Bool.noConfusion (show true = false from hw)⟩
              refine os_rv (r_mv (v := .slice _ _ _) rfl) ⟨Same.refl _ _, ?_⟩
              exact rfl
            | 3, _, hoq =>
              obtain rfl : _ = o := Option.some.inj hoq
              have hs0 := hs
              replace hB := hB.tr0 hs
              replace hb4 := hb4.tr0 hs
              replace hb5 := hb5.tr0 hs
              replace hBY := hBY.tr0 hs
              replace hb15 := hb15.tr0 hs
              replace hb17 := hb17.tr0 hs
              clear hs
              refine ⟨fun _ => ?_, fun hw => Bool.noConfusion (show true = false from hw)⟩
              refine os_rv (r_mv (v := .slice _ _ _) rfl) ⟨Same.refl _ _, ?_⟩
              exact rfl
            | 4, _, hoq =>
              obtain rfl : _ = o := Option.some.inj hoq
              have hs0 := hs
              replace hB := hB.tr0 hs
              replace hb4 := hb4.tr0 hs
              replace hb5 := hb5.tr0 hs
              replace hBY := hBY.tr0 hs
              replace hb15 := hb15.tr0 hs
              replace hb17 := hb17.tr0 hs
              clear hs
              have d2 : gg 62 = .slice PA p.length cp := (hd 2 (dep_of (by kernel_rfl))).1
              have e62 := d2
              have d3 : gg 63 = .slice QA q.length cq := (hd 3 (dep_of (by kernel_rfl))).1
              have e63 := d3
              refine ⟨fun _ => ?_, fun hw => Bool.noConfusion (show true = false from hw)⟩
              refine os_know 62 (.slice PA p.length cp) e62 (by simp [undef]) ?_
              refine os_know 63 (.slice QA q.length cq) e63 (by simp [undef]) ?_
              refine os_wl (fun ops Q K => ?_)
              refine wl_bs (cs := #[_, _]) [(0, .slice _ _ _), (1, .slice _ _ _)] rfl Tryd.underlying48 sz52 ze52 (by decide) (by decide) (by kernel_rfl) rfl (fun b64 w22 hb64 hs hr => ?_)
              exact K _ _ ⟨hs, ⟨_, rfl, hb64⟩⟩
            | 5, _, hoq =>
              obtain rfl : _ = o := Option.some.inj hoq
              have hs0 := hs
              replace hB := hB.tr0 hs
              replace hb4 := hb4.tr0 hs
              replace hb5 := hb5.tr0 hs
              replace hBY := hBY.tr0 hs
              replace hb15 := hb15.tr0 hs
              replace hb17 := hb17.tr0 hs
              clear hs
              have d4 : ∃ b, gg 64 = .slice (some ⟨b, 0, none⟩) 2 2 ∧ Blk wx b 52 #[.slice PA p.length cp, .slice QA q.length cq] := (hd 4 (dep_of (by kernel_rfl))).1
              obtain ⟨b64, e64, hb64⟩ := d4
              refine ⟨fun _ => ?_, fun hw => Bool.noConfusion (show true = false from hw)⟩
              refine os_know 64 (.slice (some ⟨b64, 0, none⟩) 2 2) e64 (by simp [undef]) ?_
              refine os_cl fn27 (conc2_any wx hb64 (hP.mono hB) (hQ.mono hB) (by omega)) rfl (fun e' w2 hr => ?_)
              obtain ⟨⟨AC, cC, rfl, hIC⟩, hs⟩ := hr
              exact ⟨_, rfl, Same.of_bel hs, ⟨_, _, rfl, hIC⟩⟩
            | 6, _, hoq =>
              obtain rfl : _ = o := Option.some.inj hoq
              have hs0 := hs
              replace hB := hB.tr0 hs
              replace hb4 := hb4.tr0 hs
              replace hb5 := hb5.tr0 hs
              replace hBY := hBY.tr0 hs
              replace hb15 := hb15.tr0 hs
              replace hb17 := hb17.tr0 hs
              clear hs
              have d0 : gg 60 = .agg #[.slice A l.length c, .slice B fs.length d] := (hd 0 (dep_of (by kernel_rfl))).1
              have e60 := d0
              have d1 : gg 61 = .agg #[.slice G gr.length cg] := (hd 1 (dep_of (by kernel_rfl))).1
              have e61 := d1
              have d5 : ∃ AC cC, gg 65 = .slice AC (p ++ q).length cC ∧ IntsIn wx AC (p ++ q) := (hd 5 (dep_of (by kernel_rfl))).1
              obtain ⟨AC, cC, e65, hIC⟩ := d5
              refine ⟨fun _ => ?_, fun hw => Bool.noConfusion (show true = false from hw)⟩
              refine os_know 60 (.agg #[.slice A l.length c, .slice B fs.length d]) e60 (by simp [undef]) ?_
              refine os_know 61 (.agg #[.slice G gr.length cg]) e61 (by simp [undef]) ?_
              refine os_know 65 (.slice AC (p ++ q).length cC) e65 (by simp [undef]) ?_
              refine os_cl fn22 (at_any A B G c d cg l fs gr wx AC cC (p ++ q) (hTab.mono hB) (hT.mono hB) (hF.mono hB) (hG.mono hB) hIC) rfl (fun e' w2 hr => ?_)
              obtain ⟨⟨AZ, rfl, hNZ, hAtZ⟩, hs⟩ := hr
              exact ⟨_, rfl, Same.of_bel hs, ⟨_, rfl, kept_fr hNZ, hAtZ⟩⟩
            | 7, _, hoq =>
              obtain rfl : _ = o := Option.some.inj hoq
              have hs0 := hs
              replace hB := hB.tr0 hs
              replace hb4 := hb4.tr0 hs
              replace hb5 := hb5.tr0 hs
              replace hBY := hBY.tr0 hs
              replace hb15 := hb15.tr0 hs
              replace hb17 := hb17.tr0 hs
              clear hs
              have d6 : ∃ AZ, gg 66 = .tuple #[.agg #[.slice AZ (atG l fs gr (p ++ q)).length (atG l fs gr (p ++ q)).length], .bool (decide (AtOk l fs gr (p ++ q))), .agg #[.int .i64 (atF l fs gr (p ++ q)).1, .int .i64 (atF l fs gr (p ++ q)).2]] ∧ Kept (lo 6) (hi 6) wx (fun wq => NodesIn wq AZ (atG l fs gr (p ++ q))) ∧ (AtOk l fs gr (p ++ q) → ∃ (a : Nat) (o : List Nat), a < gr.length ∧ walkT gr (p ++ q) 0 = a ∧ DL gr [a] [] o ∧ atG l fs gr (p ++ q) = canG gr o) := (hd 6 (dep_of (by kernel_rfl))).1
              obtain ⟨AZ, e66, hNZ, hAtZ⟩ := d6
              refine ⟨fun _ => ?_, fun hw => Bool.noConfusion (show true = false from hw)⟩
              refine os_know 66 (.tuple #[.agg #[.slice AZ (atG l fs gr (p ++ q)).length (atG l fs gr (p ++ q)).length], .bool (decide (AtOk l fs gr (p ++ q))), .agg #[.int .i64 (atF l fs gr (p ++ q)).1, .int .i64 (atF l fs gr (p ++ q)).2]]) e66 (by simp [undef]) ?_
              refine os_rv (r_mv (v := .tuple _) rfl) ⟨Same.refl _ _, ?_⟩
              exact ⟨_, rfl, hNZ, hAtZ⟩
            | 8, _, hoq =>
              obtain rfl : _ = o := Option.some.inj hoq
              have hs0 := hs
              replace hB := hB.tr0 hs
              replace hb4 := hb4.tr0 hs
              replace hb5 := hb5.tr0 hs
              replace hBY := hBY.tr0 hs
              replace hb15 := hb15.tr0 hs
              replace hb17 := hb17.tr0 hs
              clear hs
              have d7 : ∃ AZ, gg 59 = .tuple #[.agg #[.slice AZ (atG l fs gr (p ++ q)).length (atG l fs gr (p ++ q)).length], .bool (decide (AtOk l fs gr (p ++ q))), .agg #[.int .i64 (atF l fs gr (p ++ q)).1, .int .i64 (atF l fs gr (p ++ q)).2]] ∧ Kept (lo 6) (hi 6) wx (fun wq => NodesIn wq AZ (atG l fs gr (p ++ q))) ∧ (AtOk l fs gr (p ++ q) → ∃ (a : Nat) (o : List Nat), a < gr.length ∧ walkT gr (p ++ q) 0 = a ∧ DL gr [a] [] o ∧ atG l fs gr (p ++ q) = canG gr o) := (hd 7 (dep_of (by kernel_rfl))).1
              obtain ⟨AZ7, e59, hN7, hA7⟩ := d7
              refine ⟨fun _ => ?_, fun hw => Bool.noConfusion (show true = false from hw)⟩
              refine os_know 59 (.tuple #[.agg #[.slice AZ7 (atG l fs gr (p ++ q)).length (atG l fs gr (p ++ q)).length], .bool (decide (AtOk l fs gr (p ++ q))), .agg #[.int .i64 (atF l fs gr (p ++ q)).1, .int .i64 (atF l fs gr (p ++ q)).2]]) e59 (by simp [undef]) ?_
              refine os_rv (r_ex (v := _) rfl rfl) ⟨Same.refl _ _, ?_⟩
              exact ⟨_, rfl, hN7, hA7⟩
            | 9, _, hoq =>
              obtain rfl : _ = o := Option.some.inj hoq
              have hs0 := hs
              replace hB := hB.tr0 hs
              replace hb4 := hb4.tr0 hs
              replace hb5 := hb5.tr0 hs
              replace hBY := hBY.tr0 hs
              replace hb15 := hb15.tr0 hs
              replace hb17 := hb17.tr0 hs
              clear hs
              have d7 : ∃ AZ, gg 59 = .tuple #[.agg #[.slice AZ (atG l fs gr (p ++ q)).length (atG l fs gr (p ++ q)).length], .bool (decide (AtOk l fs gr (p ++ q))), .agg #[.int .i64 (atF l fs gr (p ++ q)).1, .int .i64 (atF l fs gr (p ++ q)).2]] ∧ Kept (lo 6) (hi 6) wx (fun wq => NodesIn wq AZ (atG l fs gr (p ++ q))) ∧ (AtOk l fs gr (p ++ q) → ∃ (a : Nat) (o : List Nat), a < gr.length ∧ walkT gr (p ++ q) 0 = a ∧ DL gr [a] [] o ∧ atG l fs gr (p ++ q) = canG gr o) := (hd 7 (dep_of (by kernel_rfl))).1
              obtain ⟨AZ7, e59, hN7, hA7⟩ := d7
              refine ⟨fun _ => ?_, fun hw => Bool.noConfusion (show true = false from hw)⟩
              refine os_know 59 (.tuple #[.agg #[.slice AZ7 (atG l fs gr (p ++ q)).length (atG l fs gr (p ++ q)).length], .bool (decide (AtOk l fs gr (p ++ q))), .agg #[.int .i64 (atF l fs gr (p ++ q)).1, .int .i64 (atF l fs gr (p ++ q)).2]]) e59 (by simp [undef]) ?_
              refine os_rv (r_ex (v := _) rfl rfl) ⟨Same.refl _ _, ?_⟩
              exact rfl
            | 10, _, hoq =>
              obtain rfl : _ = o := Option.some.inj hoq
              have hs0 := hs
              replace hB := hB.tr0 hs
              replace hb4 := hb4.tr0 hs
              replace hb5 := hb5.tr0 hs
              replace hBY := hBY.tr0 hs
              replace hb15 := hb15.tr0 hs
              replace hb17 := hb17.tr0 hs
              clear hs
              have d7 : ∃ AZ, gg 59 = .tuple #[.agg #[.slice AZ (atG l fs gr (p ++ q)).length (atG l fs gr (p ++ q)).length], .bool (decide (AtOk l fs gr (p ++ q))), .agg #[.int .i64 (atF l fs gr (p ++ q)).1, .int .i64 (atF l fs gr (p ++ q)).2]] ∧ Kept (lo 6) (hi 6) wx (fun wq => NodesIn wq AZ (atG l fs gr (p ++ q))) ∧ (AtOk l fs gr (p ++ q) → ∃ (a : Nat) (o : List Nat), a < gr.length ∧ walkT gr (p ++ q) 0 = a ∧ DL gr [a] [] o ∧ atG l fs gr (p ++ q) = canG gr o) := (hd 7 (dep_of (by kernel_rfl))).1
              obtain ⟨AZ7, e59, hN7, hA7⟩ := d7
              refine ⟨fun _ => ?_, fun hw => Bool.noConfusion (show true = false from hw)⟩
              refine os_know 59 (.tuple #[.agg #[.slice AZ7 (atG l fs gr (p ++ q)).length (atG l fs gr (p ++ q)).length], .bool (decide (AtOk l fs gr (p ++ q))), .agg #[.int .i64 (atF l fs gr (p ++ q)).1, .int .i64 (atF l fs gr (p ++ q)).2]]) e59 (by simp [undef]) ?_
              refine os_rv (r_ex (v := _) rfl rfl) ⟨Same.refl _ _, ?_⟩
              exact rfl
            | 11, _, hoq =>
              obtain rfl : _ = o := Option.some.inj hoq
              have hs0 := hs
              replace hB := hB.tr0 hs
              replace hb4 := hb4.tr0 hs
              replace hb5 := hb5.tr0 hs
              replace hBY := hBY.tr0 hs
              replace hb15 := hb15.tr0 hs
              replace hb17 := hb17.tr0 hs
              clear hs
              refine ⟨fun _ => ?_, fun hw => Bool.noConfusion (show true = false from hw)⟩
              refine os_wl (fun ops Q K => ?_)
              refine wl_al (cs := #[.slice none 0 0]) ze28 rfl (fun b18 w23 hb18 hs hr => ?_)
              exact K _ _ ⟨hs, ⟨_, rfl, Nat.le_trans hs0.size hr, hb18, hr, hb18.lt⟩⟩
            | 12, _, hoq =>
              obtain rfl : _ = o := Option.some.inj hoq
              have hs0 := hs
              replace hB := hB.tr0 hs
              replace hb4 := hb4.tr0 hs
              replace hb5 := hb5.tr0 hs
              replace hBY := hBY.tr0 hs
              replace hb15 := hb15.tr0 hs
              replace hb17 := hb17.tr0 hs
              clear hs
              refine ⟨fun _ => ?_, fun hw => Bool.noConfusion (show true = false from hw)⟩
              refine os_wl (fun ops Q K => ?_)
              refine wl_al (cs := #[.int .i64 0, .int .i64 0]) ze30 rfl (fun b20 w24 hb20 hs hr => ?_)
              exact K _ _ ⟨hs, ⟨_, rfl, Nat.le_trans hs0.size hr, hb20, hr, hb20.lt⟩⟩
            | _ + 13, hix, _ => exact absurd hix (by omega)
          · refine ⟨?_, ?_, ?_, ?_, trivial⟩
            · intro x gg w25 lo hi hs hR hdis
              have hs0 := hs
              replace hB := hB.tr0 hs
              replace hb4 := hb4.tr0 hs
              replace hb5 := hb5.tr0 hs
              replace hBY := hBY.tr0 hs
              replace hb15 := hb15.tr0 hs
              replace hb17 := hb17.tr0 hs
              clear hs
              have d7 : ∃ AZ, gg 59 = .tuple #[.agg #[.slice AZ (atG l fs gr (p ++ q)).length (atG l fs gr (p ++ q)).length], .bool (decide (AtOk l fs gr (p ++ q))), .agg #[.int .i64 (atF l fs gr (p ++ q)).1, .int .i64 (atF l fs gr (p ++ q)).2]] ∧ Kept (lo 6) (hi 6) w25 (fun wq => NodesIn wq AZ (atG l fs gr (p ++ q))) ∧ (AtOk l fs gr (p ++ q) → ∃ (a : Nat) (o : List Nat), a < gr.length ∧ walkT gr (p ++ q) 0 = a ∧ DL gr [a] [] o ∧ atG l fs gr (p ++ q) = canG gr o) := (hR 7 (by decide) (by decide)).1
              obtain ⟨AZ7, e59, hN7, hA7⟩ := d7
              have d8 : ∃ AZ, gg 67 = .agg #[.slice AZ (atG l fs gr (p ++ q)).length (atG l fs gr (p ++ q)).length] ∧ Kept (lo 6) (hi 6) w25 (fun wq => NodesIn wq AZ (atG l fs gr (p ++ q))) ∧ (AtOk l fs gr (p ++ q) → ∃ (a : Nat) (o : List Nat), a < gr.length ∧ walkT gr (p ++ q) 0 = a ∧ DL gr [a] [] o ∧ atG l fs gr (p ++ q) = canG gr o) := (hR 8 (by decide) (by decide)).1
              obtain ⟨AZ, e67, hNZ, hAtZ⟩ := d8
              have d9 : gg 68 = .bool (decide (AtOk l fs gr (p ++ q))) := (hR 9 (by decide) (by decide)).1
              have e68 := d9
              have d10 : gg 69 = .agg #[.int .i64 (atF l fs gr (p ++ q)).1, .int .i64 (atF l fs gr (p ++ q)).2] := (hR 10 (by decide) (by decide)).1
              have e69 := d10
              have d11 : ∃ b, gg 18 = .pointer (some ⟨b, 0, none⟩) ∧ w20.heap.size ≤ b ∧ Blk w25 b 28 #[.slice none 0 0] ∧ (lo 11) ≤ b ∧ b < (hi 11) := (hR 11 (by decide) (by decide)).1
              obtain ⟨b18, e18, lo18, hb18, la18, ha18⟩ := d11
              have d12 : ∃ b, gg 20 = .pointer (some ⟨b, 0, none⟩) ∧ w20.heap.size ≤ b ∧ Blk w25 b 30 #[.int .i64 0, .int .i64 0] ∧ (lo 12) ≤ b ∧ b < (hi 12) := (hR 12 (by decide) (by decide)).1
              obtain ⟨b20, e20, lo20, hb20, la20, ha20⟩ := d12
              have dis_6_11 : (hi 6) ≤ (lo 11) ∨ (hi 11) ≤ (lo 6) := hdis 6 11 (by decide) (by decide) (by decide) (by decide) (by decide)
              have dis_6_12 : (hi 6) ≤ (lo 12) ∨ (hi 12) ≤ (lo 6) := hdis 6 12 (by decide) (by decide) (by decide) (by decide) (by decide)
              have ne18 : b18 ≠ b20 := fun h => absurd (blk_type (h ▸ hb18) hb20) (by decide)
              have or_b4_b18 : b4 < b18 := Nat.lt_of_lt_of_le z4 lo18
              have or_b5_b18 : b5 < b18 := Nat.lt_of_lt_of_le z5 lo18
              have or_b15_b18 : b15 < b18 := Nat.lt_of_lt_of_le z15 lo18
              have or_b17_b18 : b17 < b18 := Nat.lt_of_lt_of_le z17 lo18
              have or_b4_b20 : b4 < b20 := Nat.lt_of_lt_of_le z4 lo20
              have or_b5_b20 : b5 < b20 := Nat.lt_of_lt_of_le z5 lo20
              have or_b15_b20 : b15 < b20 := Nat.lt_of_lt_of_le z15 lo20
              have or_b17_b20 : b17 < b20 := Nat.lt_of_lt_of_le z17 lo20
              have lo_hBY_b18 := Nat.le_trans hszY lo18
              have lo_hBY_b20 := Nat.le_trans hszY lo20
              replace lo18 := Nat.le_trans hsz lo18
              replace lo20 := Nat.le_trans hsz lo20
              refine wa_know 59 (.tuple #[.agg #[.slice AZ7 (atG l fs gr (p ++ q)).length (atG l fs gr (p ++ q)).length], .bool (decide (AtOk l fs gr (p ++ q))), .agg #[.int .i64 (atF l fs gr (p ++ q)).1, .int .i64 (atF l fs gr (p ++ q)).2]]) e59 (by simp [undef]) ?_
              refine wa_know 67 (.agg #[.slice AZ (atG l fs gr (p ++ q)).length (atG l fs gr (p ++ q)).length]) e67 (by simp [undef]) ?_
              refine wa_know 68 (.bool (decide (AtOk l fs gr (p ++ q)))) e68 (by simp [undef]) ?_
              refine wa_know 69 (.agg #[.int .i64 (atF l fs gr (p ++ q)).1, .int .i64 (atF l fs gr (p ++ q)).2]) e69 (by simp [undef]) ?_
              refine wa_know 18 (.pointer (some ⟨b18, 0, none⟩)) e18 (by simp [undef]) ?_
              refine wa_know 20 (.pointer (some ⟨b20, 0, none⟩)) e20 (by simp [undef]) ?_
              refine e_fuel (k' := 3) (by kernel_rfl) ?_
              refine e_lst (listed' := #[true, true, true, true, true, true, true, true, true, true, true, true, true, false, false, false]) (by kernel_rfl) ?_
              refine a_step [13] (by kernel_rfl) rfl ⟨fun o hoq => ?_, trivial⟩
              · obtain rfl : _ = o := Option.some.inj hoq
                refine wl_stW hb18 rfl rfl sz28 rfl (by repeat (first | rfl | refine one_cons (by first | rfl | assumption) ?_)) (fun w26 hq hs => ?_)
                replace hB := hB.tr1 hs lo18
                replace hb4 := hb4.tr1 hs (by omega)
                replace hb5 := hb5.tr1 hs (by omega)
                replace hBY := hBY.tr1 hs lo_hBY_b18
                replace hb15 := hb15.tr1 hs (by omega)
                replace hb17 := hb17.tr1 hs (by omega)
                replace hNZ := hNZ.tr1 hs (by omega)
                replace hb20 := hb20.tr1 hs (by omega)
                clear hs
                replace hb18 := hq
                refine x_nil ?_
                refine e_A (listed' := #[true, true, true, true, true, true, true, true, true, true, true, true, true, true, false, false]) (by rfl) ?_
                refine a_step [14] (by kernel_rfl) rfl ⟨fun o hoq => ?_, trivial⟩
                · obtain rfl : _ = o := Option.some.inj hoq
                  refine wl (r_as (v := .bool _) rfl) ?_
                  refine x_nil ?_
                  refine e_A (listed' := #[true, true, true, true, true, true, true, true, true, true, true, true, true, true, true, false]) (by rfl) ?_
                  refine a_step [15] (by kernel_rfl) rfl ⟨fun o hoq => ?_, trivial⟩
                  · obtain rfl : _ = o := Option.some.inj hoq
                    refine wl_stW hb20 rfl rfl sz30 rfl (by repeat (first | rfl | refine one_cons (by first | rfl | assumption) ?_)) (fun w27 hq hs => ?_)
                    replace hB := hB.tr1 hs lo20
                    replace hb4 := hb4.tr1 hs (by omega)
                    replace hb5 := hb5.tr1 hs (by omega)
                    replace hBY := hBY.tr1 hs lo_hBY_b20
                    replace hb15 := hb15.tr1 hs (by omega)
                    replace hb17 := hb17.tr1 hs (by omega)
                    replace hNZ := hNZ.tr1 hs (by omega)
                    replace hb18 := hb18.tr1 hs (by omega)
                    clear hs
                    replace hb20 := hq
                    refine x_nil ?_
                    refine e_A (listed' := #[true, true, true, true, true, true, true, true, true, true, true, true, true, true, true, true]) (by rfl) ?_
                    refine a_end (by kernel_rfl) ?_
                    refine e_R ⟨(by repeat (first | exact ag_refl | exact ag_ovr' | refine ag_upd rfl ?_ | refine ag_sub rfl ?_ | refine ag_kn (by assumption) ?_)), ?_⟩
                    exact ⟨b18, b20, AZ, _, _, rfl, rfl, rfl, hB, hBY, hb15, hb17, hb18, hb20, hNZ, hAtZ⟩
            · intro x gg w28 lo hi hs hR hdis
              have hs0 := hs
              replace hB := hB.tr0 hs
              replace hb4 := hb4.tr0 hs
              replace hb5 := hb5.tr0 hs
              replace hBY := hBY.tr0 hs
              replace hb15 := hb15.tr0 hs
              replace hb17 := hb17.tr0 hs
              clear hs
              have d7 : ∃ AZ, gg 59 = .tuple #[.agg #[.slice AZ (atG l fs gr (p ++ q)).length (atG l fs gr (p ++ q)).length], .bool (decide (AtOk l fs gr (p ++ q))), .agg #[.int .i64 (atF l fs gr (p ++ q)).1, .int .i64 (atF l fs gr (p ++ q)).2]] ∧ Kept (lo 6) (hi 6) w28 (fun wq => NodesIn wq AZ (atG l fs gr (p ++ q))) ∧ (AtOk l fs gr (p ++ q) → ∃ (a : Nat) (o : List Nat), a < gr.length ∧ walkT gr (p ++ q) 0 = a ∧ DL gr [a] [] o ∧ atG l fs gr (p ++ q) = canG gr o) := (hR 7 (by decide) (by decide)).1
              obtain ⟨AZ7, e59, hN7, hA7⟩ := d7
              have d8 : ∃ AZ, gg 67 = .agg #[.slice AZ (atG l fs gr (p ++ q)).length (atG l fs gr (p ++ q)).length] ∧ Kept (lo 6) (hi 6) w28 (fun wq => NodesIn wq AZ (atG l fs gr (p ++ q))) ∧ (AtOk l fs gr (p ++ q) → ∃ (a : Nat) (o : List Nat), a < gr.length ∧ walkT gr (p ++ q) 0 = a ∧ DL gr [a] [] o ∧ atG l fs gr (p ++ q) = canG gr o) := (hR 8 (by decide) (by decide)).1
              obtain ⟨AZ, e67, hNZ, hAtZ⟩ := d8
              have d9 : gg 68 = .bool (decide (AtOk l fs gr (p ++ q))) := (hR 9 (by decide) (by decide)).1
              have e68 := d9
              have d11 : ∃ b, gg 18 = .pointer (some ⟨b, 0, none⟩) ∧ w20.heap.size ≤ b ∧ Blk w28 b 28 #[.slice none 0 0] ∧ (lo 11) ≤ b ∧ b < (hi 11) := (hR 11 (by decide) (by decide)).1
              obtain ⟨b18, e18, lo18, hb18, la18, ha18⟩ := d11
              have d12 : ∃ b, gg 20 = .pointer (some ⟨b, 0, none⟩) ∧ w20.heap.size ≤ b ∧ Blk w28 b 30 #[.int .i64 0, .int .i64 0] ∧ (lo 12) ≤ b ∧ b < (hi 12) := (hR 12 (by decide) (by decide)).1
              obtain ⟨b20, e20, lo20, hb20, la20, ha20⟩ := d12
              have dis_6_11 : (hi 6) ≤ (lo 11) ∨ (hi 11) ≤ (lo 6) := hdis 6 11 (by decide) (by decide) (by decide) (by decide) (by decide)
              have dis_6_12 : (hi 6) ≤ (lo 12) ∨ (hi 12) ≤ (lo 6) := hdis 6 12 (by decide) (by decide) (by decide) (by decide) (by decide)
              have ne18 : b18 ≠ b20 := fun h => absurd (blk_type (h ▸ hb18) hb20) (by decide)
              have or_b4_b18 : b4 < b18 := Nat.lt_of_lt_of_le z4 lo18
              have or_b5_b18 : b5 < b18 := Nat.lt_of_lt_of_le z5 lo18
              have or_b15_b18 : b15 < b18 := Nat.lt_of_lt_of_le z15 lo18
              have or_b17_b18 : b17 < b18 := Nat.lt_of_lt_of_le z17 lo18
              have or_b4_b20 : b4 < b20 := Nat.lt_of_lt_of_le z4 lo20
              have or_b5_b20 : b5 < b20 := Nat.lt_of_lt_of_le z5 lo20
              have or_b15_b20 : b15 < b20 := Nat.lt_of_lt_of_le z15 lo20
              have or_b17_b20 : b17 < b20 := Nat.lt_of_lt_of_le z17 lo20
              have lo_hBY_b18 := Nat.le_trans hszY lo18
              have lo_hBY_b20 := Nat.le_trans hszY lo20
              replace lo18 := Nat.le_trans hsz lo18
              replace lo20 := Nat.le_trans hsz lo20
              refine wa_know 59 (.tuple #[.agg #[.slice AZ7 (atG l fs gr (p ++ q)).length (atG l fs gr (p ++ q)).length], .bool (decide (AtOk l fs gr (p ++ q))), .agg #[.int .i64 (atF l fs gr (p ++ q)).1, .int .i64 (atF l fs gr (p ++ q)).2]]) e59 (by simp [undef]) ?_
              refine wa_know 67 (.agg #[.slice AZ (atG l fs gr (p ++ q)).length (atG l fs gr (p ++ q)).length]) e67 (by simp [undef]) ?_
              refine wa_know 68 (.bool (decide (AtOk l fs gr (p ++ q)))) e68 (by simp [undef]) ?_
              refine wa_know 18 (.pointer (some ⟨b18, 0, none⟩)) e18 (by simp [undef]) ?_
              refine wa_know 20 (.pointer (some ⟨b20, 0, none⟩)) e20 (by simp [undef]) ?_
              refine e_fuel (k' := 4) (by kernel_rfl) ?_
              refine e_lst (listed' := #[true, true, true, true, true, true, true, true, true, true, false, true, true, false, false, false]) (by kernel_rfl) ?_
              refine a_step [10, 13] (by kernel_rfl) rfl ⟨fun o hoq => ?_, fun o hoq => ?_, trivial⟩
              · obtain rfl : _ = o := Option.some.inj hoq
                refine wl (r_ex (v := _) rfl rfl) ?_
                refine x_nil ?_
                refine e_A (listed' := #[true, true, true, true, true, true, true, true, true, true, true, true, true, false, false, false]) (by rfl) ?_
                refine a_step [13] (by kernel_rfl) rfl ⟨fun o hoq => ?_, trivial⟩
                · obtain rfl : _ = o := Option.some.inj hoq
                  refine wl_stW hb18 rfl rfl sz28 rfl (by repeat (first | rfl | refine one_cons (by first | rfl | assumption) ?_)) (fun w29 hq hs => ?_)
                  replace hB := hB.tr1 hs lo18
                  replace hb4 := hb4.tr1 hs (by omega)
                  replace hb5 := hb5.tr1 hs (by omega)
                  replace hBY := hBY.tr1 hs lo_hBY_b18
                  replace hb15 := hb15.tr1 hs (by omega)
                  replace hb17 := hb17.tr1 hs (by omega)
                  replace hNZ := hNZ.tr1 hs (by omega)
                  replace hb20 := hb20.tr1 hs (by omega)
                  clear hs
                  replace hb18 := hq
                  refine x_nil ?_
                  refine e_A (listed' := #[true, true, true, true, true, true, true, true, true, true, true, true, true, true, false, false]) (by rfl) ?_
                  refine a_step [14] (by kernel_rfl) rfl ⟨fun o hoq => ?_, trivial⟩
                  · obtain rfl : _ = o := Option.some.inj hoq
                    refine wl (r_as (v := .bool _) rfl) ?_
                    refine x_nil ?_
                    refine e_A (listed' := #[true, true, true, true, true, true, true, true, true, true, true, true, true, true, true, false]) (by rfl) ?_
                    refine a_step [15] (by kernel_rfl) rfl ⟨fun o hoq => ?_, trivial⟩
                    · obtain rfl : _ = o := Option.some.inj hoq
                      refine wl_stW hb20 rfl rfl sz30 rfl (by repeat (first | rfl | refine one_cons (by first | rfl | assumption) ?_)) (fun w30 hq hs => ?_)
                      replace hB := hB.tr1 hs lo20
                      replace hb4 := hb4.tr1 hs (by omega)
                      replace hb5 := hb5.tr1 hs (by omega)
                      replace hBY := hBY.tr1 hs lo_hBY_b20
                      replace hb15 := hb15.tr1 hs (by omega)
                      replace hb17 := hb17.tr1 hs (by omega)
                      replace hNZ := hNZ.tr1 hs (by omega)
                      replace hb18 := hb18.tr1 hs (by omega)
                      clear hs
                      replace hb20 := hq
                      refine x_nil ?_
                      refine e_A (listed' := #[true, true, true, true, true, true, true, true, true, true, true, true, true, true, true, true]) (by rfl) ?_
                      refine a_end (by kernel_rfl) ?_
                      refine e_R ⟨(by repeat (first | exact ag_refl | exact ag_ovr' | refine ag_upd rfl ?_ | refine ag_sub rfl ?_ | refine ag_kn (by assumption) ?_)), ?_⟩
                      exact ⟨b18, b20, AZ, _, _, rfl, rfl, rfl, hB, hBY, hb15, hb17, hb18, hb20, hNZ, hAtZ⟩
              · obtain rfl : _ = o := Option.some.inj hoq
                refine wl_stW hb18 rfl rfl sz28 rfl (by repeat (first | rfl | refine one_cons (by first | rfl | assumption) ?_)) (fun w31 hq hs => ?_)
                replace hB := hB.tr1 hs lo18
                replace hb4 := hb4.tr1 hs (by omega)
                replace hb5 := hb5.tr1 hs (by omega)
                replace hBY := hBY.tr1 hs lo_hBY_b18
                replace hb15 := hb15.tr1 hs (by omega)
                replace hb17 := hb17.tr1 hs (by omega)
                replace hNZ := hNZ.tr1 hs (by omega)
                replace hb20 := hb20.tr1 hs (by omega)
                clear hs
                replace hb18 := hq
                refine x_nil ?_
                refine e_A (listed' := #[true, true, true, true, true, true, true, true, true, true, false, true, true, true, false, false]) (by rfl) ?_
                refine a_step [10, 14] (by kernel_rfl) rfl ⟨fun o hoq => ?_, fun o hoq => ?_, trivial⟩
                · obtain rfl : _ = o := Option.some.inj hoq
                  refine wl (r_ex (v := _) rfl rfl) ?_
                  refine x_nil ?_
                  refine e_A (listed' := #[true, true, true, true, true, true, true, true, true, true, true, true, true, true, false, false]) (by rfl) ?_
                  refine a_step [14] (by kernel_rfl) rfl ⟨fun o hoq => ?_, trivial⟩
                  · obtain rfl : _ = o := Option.some.inj hoq
                    refine wl (r_as (v := .bool _) rfl) ?_
                    refine x_nil ?_
                    refine e_A (listed' := #[true, true, true, true, true, true, true, true, true, true, true, true, true, true, true, false]) (by rfl) ?_
                    refine a_step [15] (by kernel_rfl) rfl ⟨fun o hoq => ?_, trivial⟩
                    · obtain rfl : _ = o := Option.some.inj hoq
                      refine wl_stW hb20 rfl rfl sz30 rfl (by repeat (first | rfl | refine one_cons (by first | rfl | assumption) ?_)) (fun w32 hq hs => ?_)
                      replace hB := hB.tr1 hs lo20
                      replace hb4 := hb4.tr1 hs (by omega)
                      replace hb5 := hb5.tr1 hs (by omega)
                      replace hBY := hBY.tr1 hs lo_hBY_b20
                      replace hb15 := hb15.tr1 hs (by omega)
                      replace hb17 := hb17.tr1 hs (by omega)
                      replace hNZ := hNZ.tr1 hs (by omega)
                      replace hb18 := hb18.tr1 hs (by omega)
                      clear hs
                      replace hb20 := hq
                      refine x_nil ?_
                      refine e_A (listed' := #[true, true, true, true, true, true, true, true, true, true, true, true, true, true, true, true]) (by rfl) ?_
                      refine a_end (by kernel_rfl) ?_
                      refine e_R ⟨(by repeat (first | exact ag_refl | exact ag_ovr' | refine ag_upd rfl ?_ | refine ag_sub rfl ?_ | refine ag_kn (by assumption) ?_)), ?_⟩
                      exact ⟨b18, b20, AZ, _, _, rfl, rfl, rfl, hB, hBY, hb15, hb17, hb18, hb20, hNZ, hAtZ⟩
                · obtain rfl : _ = o := Option.some.inj hoq
                  refine wl (r_as (v := .bool _) rfl) ?_
                  refine x_nil ?_
                  refine e_A (listed' := #[true, true, true, true, true, true, true, true, true, true, false, true, true, true, true, false]) (by rfl) ?_
                  refine a_step [10] (by kernel_rfl) rfl ⟨fun o hoq => ?_, trivial⟩
                  · obtain rfl : _ = o := Option.some.inj hoq
                    refine wl (r_ex (v := _) rfl rfl) ?_
                    refine x_nil ?_
                    refine e_A (listed' := #[true, true, true, true, true, true, true, true, true, true, true, true, true, true, true, false]) (by rfl) ?_
                    refine a_step [15] (by kernel_rfl) rfl ⟨fun o hoq => ?_, trivial⟩
                    · obtain rfl : _ = o := Option.some.inj hoq
                      refine wl_stW hb20 rfl rfl sz30 rfl (by repeat (first | rfl | refine one_cons (by first | rfl | assumption) ?_)) (fun w33 hq hs => ?_)
                      replace hB := hB.tr1 hs lo20
                      replace hb4 := hb4.tr1 hs (by omega)
                      replace hb5 := hb5.tr1 hs (by omega)
                      replace hBY := hBY.tr1 hs lo_hBY_b20
                      replace hb15 := hb15.tr1 hs (by omega)
                      replace hb17 := hb17.tr1 hs (by omega)
                      replace hNZ := hNZ.tr1 hs (by omega)
                      replace hb18 := hb18.tr1 hs (by omega)
                      clear hs
                      replace hb20 := hq
                      refine x_nil ?_
                      refine e_A (listed' := #[true, true, true, true, true, true, true, true, true, true, true, true, true, true, true, true]) (by rfl) ?_
                      refine a_end (by kernel_rfl) ?_
                      refine e_R ⟨(by repeat (first | exact ag_refl | exact ag_ovr' | refine ag_upd rfl ?_ | refine ag_sub rfl ?_ | refine ag_kn (by assumption) ?_)), ?_⟩
                      exact ⟨b18, b20, AZ, _, _, rfl, rfl, rfl, hB, hBY, hb15, hb17, hb18, hb20, hNZ, hAtZ⟩
            · intro x gg w34 lo hi hs hR hdis
              have hs0 := hs
              replace hB := hB.tr0 hs
              replace hb4 := hb4.tr0 hs
              replace hb5 := hb5.tr0 hs
              replace hBY := hBY.tr0 hs
              replace hb15 := hb15.tr0 hs
              replace hb17 := hb17.tr0 hs
              clear hs
              have d7 : ∃ AZ, gg 59 = .tuple #[.agg #[.slice AZ (atG l fs gr (p ++ q)).length (atG l fs gr (p ++ q)).length], .bool (decide (AtOk l fs gr (p ++ q))), .agg #[.int .i64 (atF l fs gr (p ++ q)).1, .int .i64 (atF l fs gr (p ++ q)).2]] ∧ Kept (lo 6) (hi 6) w34 (fun wq => NodesIn wq AZ (atG l fs gr (p ++ q))) ∧ (AtOk l fs gr (p ++ q) → ∃ (a : Nat) (o : List Nat), a < gr.length ∧ walkT gr (p ++ q) 0 = a ∧ DL gr [a] [] o ∧ atG l fs gr (p ++ q) = canG gr o) := (hR 7 (by decide) (by decide)).1
              obtain ⟨AZ7, e59, hN7, hA7⟩ := d7
              have d8 : ∃ AZ, gg 67 = .agg #[.slice AZ (atG l fs gr (p ++ q)).length (atG l fs gr (p ++ q)).length] ∧ Kept (lo 6) (hi 6) w34 (fun wq => NodesIn wq AZ (atG l fs gr (p ++ q))) ∧ (AtOk l fs gr (p ++ q) → ∃ (a : Nat) (o : List Nat), a < gr.length ∧ walkT gr (p ++ q) 0 = a ∧ DL gr [a] [] o ∧ atG l fs gr (p ++ q) = canG gr o) := (hR 8 (by decide) (by decide)).1
              obtain ⟨AZ, e67, hNZ, hAtZ⟩ := d8
              have d10 : gg 69 = .agg #[.int .i64 (atF l fs gr (p ++ q)).1, .int .i64 (atF l fs gr (p ++ q)).2] := (hR 10 (by decide) (by decide)).1
              have e69 := d10
              have d11 : ∃ b, gg 18 = .pointer (some ⟨b, 0, none⟩) ∧ w20.heap.size ≤ b ∧ Blk w34 b 28 #[.slice none 0 0] ∧ (lo 11) ≤ b ∧ b < (hi 11) := (hR 11 (by decide) (by decide)).1
              obtain ⟨b18, e18, lo18, hb18, la18, ha18⟩ := d11
              have d12 : ∃ b, gg 20 = .pointer (some ⟨b, 0, none⟩) ∧ w20.heap.size ≤ b ∧ Blk w34 b 30 #[.int .i64 0, .int .i64 0] ∧ (lo 12) ≤ b ∧ b < (hi 12) := (hR 12 (by decide) (by decide)).1
              obtain ⟨b20, e20, lo20, hb20, la20, ha20⟩ := d12
              have dis_6_11 : (hi 6) ≤ (lo 11) ∨ (hi 11) ≤ (lo 6) := hdis 6 11 (by decide) (by decide) (by decide) (by decide) (by decide)
              have dis_6_12 : (hi 6) ≤ (lo 12) ∨ (hi 12) ≤ (lo 6) := hdis 6 12 (by decide) (by decide) (by decide) (by decide) (by decide)
              have ne18 : b18 ≠ b20 := fun h => absurd (blk_type (h ▸ hb18) hb20) (by decide)
              have or_b4_b18 : b4 < b18 := Nat.lt_of_lt_of_le z4 lo18
              have or_b5_b18 : b5 < b18 := Nat.lt_of_lt_of_le z5 lo18
              have or_b15_b18 : b15 < b18 := Nat.lt_of_lt_of_le z15 lo18
              have or_b17_b18 : b17 < b18 := Nat.lt_of_lt_of_le z17 lo18
              have or_b4_b20 : b4 < b20 := Nat.lt_of_lt_of_le z4 lo20
              have or_b5_b20 : b5 < b20 := Nat.lt_of_lt_of_le z5 lo20
              have or_b15_b20 : b15 < b20 := Nat.lt_of_lt_of_le z15 lo20
              have or_b17_b20 : b17 < b20 := Nat.lt_of_lt_of_le z17 lo20
              have lo_hBY_b18 := Nat.le_trans hszY lo18
              have lo_hBY_b20 := Nat.le_trans hszY lo20
              replace lo18 := Nat.le_trans hsz lo18
              replace lo20 := Nat.le_trans hsz lo20
              refine wa_know 59 (.tuple #[.agg #[.slice AZ7 (atG l fs gr (p ++ q)).length (atG l fs gr (p ++ q)).length], .bool (decide (AtOk l fs gr (p ++ q))), .agg #[.int .i64 (atF l fs gr (p ++ q)).1, .int .i64 (atF l fs gr (p ++ q)).2]]) e59 (by simp [undef]) ?_
              refine wa_know 67 (.agg #[.slice AZ (atG l fs gr (p ++ q)).length (atG l fs gr (p ++ q)).length]) e67 (by simp [undef]) ?_
              refine wa_know 69 (.agg #[.int .i64 (atF l fs gr (p ++ q)).1, .int .i64 (atF l fs gr (p ++ q)).2]) e69 (by simp [undef]) ?_
              refine wa_know 18 (.pointer (some ⟨b18, 0, none⟩)) e18 (by simp [undef]) ?_
              refine wa_know 20 (.pointer (some ⟨b20, 0, none⟩)) e20 (by simp [undef]) ?_
              refine e_fuel (k' := 4) (by kernel_rfl) ?_
              refine e_lst (listed' := #[true, true, true, true, true, true, true, true, true, false, true, true, true, false, false, false]) (by kernel_rfl) ?_
              refine a_step [9, 13] (by kernel_rfl) rfl ⟨fun o hoq => ?_, fun o hoq => ?_, trivial⟩
              · obtain rfl : _ = o := Option.some.inj hoq
                refine wl (r_ex (v := _) rfl rfl) ?_
                refine x_nil ?_
                refine e_A (listed' := #[true, true, true, true, true, true, true, true, true, true, true, true, true, false, false, false]) (by rfl) ?_
                refine a_step [13] (by kernel_rfl) rfl ⟨fun o hoq => ?_, trivial⟩
                · obtain rfl : _ = o := Option.some.inj hoq
                  refine wl_stW hb18 rfl rfl sz28 rfl (by repeat (first | rfl | refine one_cons (by first | rfl | assumption) ?_)) (fun w35 hq hs => ?_)
                  replace hB := hB.tr1 hs lo18
                  replace hb4 := hb4.tr1 hs (by omega)
                  replace hb5 := hb5.tr1 hs (by omega)
                  replace hBY := hBY.tr1 hs lo_hBY_b18
                  replace hb15 := hb15.tr1 hs (by omega)
                  replace hb17 := hb17.tr1 hs (by omega)
                  replace hNZ := hNZ.tr1 hs (by omega)
                  replace hb20 := hb20.tr1 hs (by omega)
                  clear hs
                  replace hb18 := hq
                  refine x_nil ?_
                  refine e_A (listed' := #[true, true, true, true, true, true, true, true, true, true, true, true, true, true, false, false]) (by rfl) ?_
                  refine a_step [14] (by kernel_rfl) rfl ⟨fun o hoq => ?_, trivial⟩
                  · obtain rfl : _ = o := Option.some.inj hoq
                    refine wl (r_as (v := .bool _) rfl) ?_
                    refine x_nil ?_
                    refine e_A (listed' := #[true, true, true, true, true, true, true, true, true, true, true, true, true, true, true, false]) (by rfl) ?_
                    refine a_step [15] (by kernel_rfl) rfl ⟨fun o hoq => ?_, trivial⟩
                    · obtain rfl : _ = o := Option.some.inj hoq
                      refine wl_stW hb20 rfl rfl sz30 rfl (by repeat (first | rfl | refine one_cons (by first | rfl | assumption) ?_)) (fun w36 hq hs => ?_)
                      replace hB := hB.tr1 hs lo20
                      replace hb4 := hb4.tr1 hs (by omega)
                      replace hb5 := hb5.tr1 hs (by omega)
                      replace hBY := hBY.tr1 hs lo_hBY_b20
                      replace hb15 := hb15.tr1 hs (by omega)
                      replace hb17 := hb17.tr1 hs (by omega)
                      replace hNZ := hNZ.tr1 hs (by omega)
                      replace hb18 := hb18.tr1 hs (by omega)
                      clear hs
                      replace hb20 := hq
                      refine x_nil ?_
                      refine e_A (listed' := #[true, true, true, true, true, true, true, true, true, true, true, true, true, true, true, true]) (by rfl) ?_
                      refine a_end (by kernel_rfl) ?_
                      refine e_R ⟨(by repeat (first | exact ag_refl | exact ag_ovr' | refine ag_upd rfl ?_ | refine ag_sub rfl ?_ | refine ag_kn (by assumption) ?_)), ?_⟩
                      exact ⟨b18, b20, AZ, _, _, rfl, rfl, rfl, hB, hBY, hb15, hb17, hb18, hb20, hNZ, hAtZ⟩
              · obtain rfl : _ = o := Option.some.inj hoq
                refine wl_stW hb18 rfl rfl sz28 rfl (by repeat (first | rfl | refine one_cons (by first | rfl | assumption) ?_)) (fun w37 hq hs => ?_)
                replace hB := hB.tr1 hs lo18
                replace hb4 := hb4.tr1 hs (by omega)
                replace hb5 := hb5.tr1 hs (by omega)
                replace hBY := hBY.tr1 hs lo_hBY_b18
                replace hb15 := hb15.tr1 hs (by omega)
                replace hb17 := hb17.tr1 hs (by omega)
                replace hNZ := hNZ.tr1 hs (by omega)
                replace hb20 := hb20.tr1 hs (by omega)
                clear hs
                replace hb18 := hq
                refine x_nil ?_
                refine e_A (listed' := #[true, true, true, true, true, true, true, true, true, false, true, true, true, true, false, false]) (by rfl) ?_
                refine a_step [9] (by kernel_rfl) rfl ⟨fun o hoq => ?_, trivial⟩
                · obtain rfl : _ = o := Option.some.inj hoq
                  refine wl (r_ex (v := _) rfl rfl) ?_
                  refine x_nil ?_
                  refine e_A (listed' := #[true, true, true, true, true, true, true, true, true, true, true, true, true, true, false, false]) (by rfl) ?_
                  refine a_step [14] (by kernel_rfl) rfl ⟨fun o hoq => ?_, trivial⟩
                  · obtain rfl : _ = o := Option.some.inj hoq
                    refine wl (r_as (v := .bool _) rfl) ?_
                    refine x_nil ?_
                    refine e_A (listed' := #[true, true, true, true, true, true, true, true, true, true, true, true, true, true, true, false]) (by rfl) ?_
                    refine a_step [15] (by kernel_rfl) rfl ⟨fun o hoq => ?_, trivial⟩
                    · obtain rfl : _ = o := Option.some.inj hoq
                      refine wl_stW hb20 rfl rfl sz30 rfl (by repeat (first | rfl | refine one_cons (by first | rfl | assumption) ?_)) (fun w38 hq hs => ?_)
                      replace hB := hB.tr1 hs lo20
                      replace hb4 := hb4.tr1 hs (by omega)
                      replace hb5 := hb5.tr1 hs (by omega)
                      replace hBY := hBY.tr1 hs lo_hBY_b20
                      replace hb15 := hb15.tr1 hs (by omega)
                      replace hb17 := hb17.tr1 hs (by omega)
                      replace hNZ := hNZ.tr1 hs (by omega)
                      replace hb18 := hb18.tr1 hs (by omega)
                      clear hs
                      replace hb20 := hq
                      refine x_nil ?_
                      refine e_A (listed' := #[true, true, true, true, true, true, true, true, true, true, true, true, true, true, true, true]) (by rfl) ?_
                      refine a_end (by kernel_rfl) ?_
                      refine e_R ⟨(by repeat (first | exact ag_refl | exact ag_ovr' | refine ag_upd rfl ?_ | refine ag_sub rfl ?_ | refine ag_kn (by assumption) ?_)), ?_⟩
                      exact ⟨b18, b20, AZ, _, _, rfl, rfl, rfl, hB, hBY, hb15, hb17, hb18, hb20, hNZ, hAtZ⟩
            · intro x gg w39 lo hi hs hR hdis
              have hs0 := hs
              replace hB := hB.tr0 hs
              replace hb4 := hb4.tr0 hs
              replace hb5 := hb5.tr0 hs
              replace hBY := hBY.tr0 hs
              replace hb15 := hb15.tr0 hs
              replace hb17 := hb17.tr0 hs
              clear hs
              have d7 : ∃ AZ, gg 59 = .tuple #[.agg #[.slice AZ (atG l fs gr (p ++ q)).length (atG l fs gr (p ++ q)).length], .bool (decide (AtOk l fs gr (p ++ q))), .agg #[.int .i64 (atF l fs gr (p ++ q)).1, .int .i64 (atF l fs gr (p ++ q)).2]] ∧ Kept (lo 6) (hi 6) w39 (fun wq => NodesIn wq AZ (atG l fs gr (p ++ q))) ∧ (AtOk l fs gr (p ++ q) → ∃ (a : Nat) (o : List Nat), a < gr.length ∧ walkT gr (p ++ q) 0 = a ∧ DL gr [a] [] o ∧ atG l fs gr (p ++ q) = canG gr o) := (hR 7 (by decide) (by decide)).1
              obtain ⟨AZ7, e59, hN7, hA7⟩ := d7
              have d8 : ∃ AZ, gg 67 = .agg #[.slice AZ (atG l fs gr (p ++ q)).length (atG l fs gr (p ++ q)).length] ∧ Kept (lo 6) (hi 6) w39 (fun wq => NodesIn wq AZ (atG l fs gr (p ++ q))) ∧ (AtOk l fs gr (p ++ q) → ∃ (a : Nat) (o : List Nat), a < gr.length ∧ walkT gr (p ++ q) 0 = a ∧ DL gr [a] [] o ∧ atG l fs gr (p ++ q) = canG gr o) := (hR 8 (by decide) (by decide)).1
              obtain ⟨AZ, e67, hNZ, hAtZ⟩ := d8
              have d11 : ∃ b, gg 18 = .pointer (some ⟨b, 0, none⟩) ∧ w20.heap.size ≤ b ∧ Blk w39 b 28 #[.slice none 0 0] ∧ (lo 11) ≤ b ∧ b < (hi 11) := (hR 11 (by decide) (by decide)).1
              obtain ⟨b18, e18, lo18, hb18, la18, ha18⟩ := d11
              have d12 : ∃ b, gg 20 = .pointer (some ⟨b, 0, none⟩) ∧ w20.heap.size ≤ b ∧ Blk w39 b 30 #[.int .i64 0, .int .i64 0] ∧ (lo 12) ≤ b ∧ b < (hi 12) := (hR 12 (by decide) (by decide)).1
              obtain ⟨b20, e20, lo20, hb20, la20, ha20⟩ := d12
              have dis_6_11 : (hi 6) ≤ (lo 11) ∨ (hi 11) ≤ (lo 6) := hdis 6 11 (by decide) (by decide) (by decide) (by decide) (by decide)
              have dis_6_12 : (hi 6) ≤ (lo 12) ∨ (hi 12) ≤ (lo 6) := hdis 6 12 (by decide) (by decide) (by decide) (by decide) (by decide)
              have ne18 : b18 ≠ b20 := fun h => absurd (blk_type (h ▸ hb18) hb20) (by decide)
              have or_b4_b18 : b4 < b18 := Nat.lt_of_lt_of_le z4 lo18
              have or_b5_b18 : b5 < b18 := Nat.lt_of_lt_of_le z5 lo18
              have or_b15_b18 : b15 < b18 := Nat.lt_of_lt_of_le z15 lo18
              have or_b17_b18 : b17 < b18 := Nat.lt_of_lt_of_le z17 lo18
              have or_b4_b20 : b4 < b20 := Nat.lt_of_lt_of_le z4 lo20
              have or_b5_b20 : b5 < b20 := Nat.lt_of_lt_of_le z5 lo20
              have or_b15_b20 : b15 < b20 := Nat.lt_of_lt_of_le z15 lo20
              have or_b17_b20 : b17 < b20 := Nat.lt_of_lt_of_le z17 lo20
              have lo_hBY_b18 := Nat.le_trans hszY lo18
              have lo_hBY_b20 := Nat.le_trans hszY lo20
              replace lo18 := Nat.le_trans hsz lo18
              replace lo20 := Nat.le_trans hsz lo20
              refine wa_know 59 (.tuple #[.agg #[.slice AZ7 (atG l fs gr (p ++ q)).length (atG l fs gr (p ++ q)).length], .bool (decide (AtOk l fs gr (p ++ q))), .agg #[.int .i64 (atF l fs gr (p ++ q)).1, .int .i64 (atF l fs gr (p ++ q)).2]]) e59 (by simp [undef]) ?_
              refine wa_know 67 (.agg #[.slice AZ (atG l fs gr (p ++ q)).length (atG l fs gr (p ++ q)).length]) e67 (by simp [undef]) ?_
              refine wa_know 18 (.pointer (some ⟨b18, 0, none⟩)) e18 (by simp [undef]) ?_
              refine wa_know 20 (.pointer (some ⟨b20, 0, none⟩)) e20 (by simp [undef]) ?_
              refine e_fuel (k' := 5) (by kernel_rfl) ?_
              refine e_lst (listed' := #[true, true, true, true, true, true, true, true, true, false, false, true, true, false, false, false]) (by kernel_rfl) ?_
              refine a_step [9, 10, 13] (by kernel_rfl) rfl ⟨fun o hoq => ?_, fun o hoq => ?_, fun o hoq => ?_, trivial⟩
              · obtain rfl : _ = o := Option.some.inj hoq
                refine wl (r_ex (v := _) rfl rfl) ?_
                refine x_nil ?_
                refine e_A (listed' := #[true, true, true, true, true, true, true, true, true, true, false, true, true, false, false, false]) (by rfl) ?_
                refine a_step [10, 13] (by kernel_rfl) rfl ⟨fun o hoq => ?_, fun o hoq => ?_, trivial⟩
                · obtain rfl : _ = o := Option.some.inj hoq
                  refine wl (r_ex (v := _) rfl rfl) ?_
                  refine x_nil ?_
                  refine e_A (listed' := #[true, true, true, true, true, true, true, true, true, true, true, true, true, false, false, false]) (by rfl) ?_
                  refine a_step [13] (by kernel_rfl) rfl ⟨fun o hoq => ?_, trivial⟩
                  · obtain rfl : _ = o := Option.some.inj hoq
                    refine wl_stW hb18 rfl rfl sz28 rfl (by repeat (first | rfl | refine one_cons (by first | rfl | assumption) ?_)) (fun w40 hq hs => ?_)
                    replace hB := hB.tr1 hs lo18
                    replace hb4 := hb4.tr1 hs (by omega)
                    replace hb5 := hb5.tr1 hs (by omega)
                    replace hBY := hBY.tr1 hs lo_hBY_b18
                    replace hb15 := hb15.tr1 hs (by omega)
                    replace hb17 := hb17.tr1 hs (by omega)
                    replace hNZ := hNZ.tr1 hs (by omega)
                    replace hb20 := hb20.tr1 hs (by omega)
                    clear hs
                    replace hb18 := hq
                    refine x_nil ?_
                    refine e_A (listed' := #[true, true, true, true, true, true, true, true, true, true, true, true, true, true, false, false]) (by rfl) ?_
                    refine a_step [14] (by kernel_rfl) rfl ⟨fun o hoq => ?_, trivial⟩
                    · obtain rfl : _ = o := Option.some.inj hoq
                      refine wl (r_as (v := .bool _) rfl) ?_
                      refine x_nil ?_
                      refine e_A (listed' := #[true, true, true, true, true, true, true, true, true, true, true, true, true, true, true, false]) (by rfl) ?_
                      refine a_step [15] (by kernel_rfl) rfl ⟨fun o hoq => ?_, trivial⟩
                      · obtain rfl : _ = o := Option.some.inj hoq
                        refine wl_stW hb20 rfl rfl sz30 rfl (by repeat (first | rfl | refine one_cons (by first | rfl | assumption) ?_)) (fun w41 hq hs => ?_)
                        replace hB := hB.tr1 hs lo20
                        replace hb4 := hb4.tr1 hs (by omega)
                        replace hb5 := hb5.tr1 hs (by omega)
                        replace hBY := hBY.tr1 hs lo_hBY_b20
                        replace hb15 := hb15.tr1 hs (by omega)
                        replace hb17 := hb17.tr1 hs (by omega)
                        replace hNZ := hNZ.tr1 hs (by omega)
                        replace hb18 := hb18.tr1 hs (by omega)
                        clear hs
                        replace hb20 := hq
                        refine x_nil ?_
                        refine e_A (listed' := #[true, true, true, true, true, true, true, true, true, true, true, true, true, true, true, true]) (by rfl) ?_
                        refine a_end (by kernel_rfl) ?_
                        refine e_R ⟨(by repeat (first | exact ag_refl | exact ag_ovr' | refine ag_upd rfl ?_ | refine ag_sub rfl ?_ | refine ag_kn (by assumption) ?_)), ?_⟩
                        exact ⟨b18, b20, AZ, _, _, rfl, rfl, rfl, hB, hBY, hb15, hb17, hb18, hb20, hNZ, hAtZ⟩
                · obtain rfl : _ = o := Option.some.inj hoq
                  refine wl_stW hb18 rfl rfl sz28 rfl (by repeat (first | rfl | refine one_cons (by first | rfl | assumption) ?_)) (fun w42 hq hs => ?_)
                  replace hB := hB.tr1 hs lo18
                  replace hb4 := hb4.tr1 hs (by omega)
                  replace hb5 := hb5.tr1 hs (by omega)
                  replace hBY := hBY.tr1 hs lo_hBY_b18
                  replace hb15 := hb15.tr1 hs (by omega)
                  replace hb17 := hb17.tr1 hs (by omega)
                  replace hNZ := hNZ.tr1 hs (by omega)
                  replace hb20 := hb20.tr1 hs (by omega)
                  clear hs
                  replace hb18 := hq
                  refine x_nil ?_
                  refine e_A (listed' := #[true, true, true, true, true, true, true, true, true, true, false, true, true, true, false, false]) (by rfl) ?_
                  refine a_step [10, 14] (by kernel_rfl) rfl ⟨fun o hoq => ?_, fun o hoq => ?_, trivial⟩
                  · obtain rfl : _ = o := Option.some.inj hoq
                    refine wl (r_ex (v := _) rfl rfl) ?_
                    refine x_nil ?_
                    refine e_A (listed' := #[true, true, true, true, true, true, true, true, true, true, true, true, true, true, false, false]) (by rfl) ?_
                    refine a_step [14] (by kernel_rfl) rfl ⟨fun o hoq => ?_, trivial⟩
                    · obtain rfl : _ = o := Option.some.inj hoq
                      refine wl (r_as (v := .bool _) rfl) ?_
                      refine x_nil ?_
                      refine e_A (listed' := #[true, true, true, true, true, true, true, true, true, true, true, true, true, true, true, false]) (by rfl) ?_
                      refine a_step [15] (by kernel_rfl) rfl ⟨fun o hoq => ?_, trivial⟩
                      · obtain rfl : _ = o := Option.some.inj hoq
                        refine wl_stW hb20 rfl rfl sz30 rfl (by repeat (first | rfl | refine one_cons (by first | rfl | assumption) ?_)) (fun w43 hq hs => ?_)
                        replace hB := hB.tr1 hs lo20
                        replace hb4 := hb4.tr1 hs (by omega)
                        replace hb5 := hb5.tr1 hs (by omega)
                        replace hBY := hBY.tr1 hs lo_hBY_b20
                        replace hb15 := hb15.tr1 hs (by omega)
                        replace hb17 := hb17.tr1 hs (by omega)
                        replace hNZ := hNZ.tr1 hs (by omega)
                        replace hb18 := hb18.tr1 hs (by omega)
                        clear hs
                        replace hb20 := hq
                        refine x_nil ?_
                        refine e_A (listed' := #[true, true, true, true, true, true, true, true, true, true, true, true, true, true, true, true]) (by rfl) ?_
                        refine a_end (by kernel_rfl) ?_
                        refine e_R ⟨(by repeat (first | exact ag_refl | exact ag_ovr' | refine ag_upd rfl ?_ | refine ag_sub rfl ?_ | refine ag_kn (by assumption) ?_)), ?_⟩
                        exact ⟨b18, b20, AZ, _, _, rfl, rfl, rfl, hB, hBY, hb15, hb17, hb18, hb20, hNZ, hAtZ⟩
                  · obtain rfl : _ = o := Option.some.inj hoq
                    refine wl (r_as (v := .bool _) rfl) ?_
                    refine x_nil ?_
                    refine e_A (listed' := #[true, true, true, true, true, true, true, true, true, true, false, true, true, true, true, false]) (by rfl) ?_
                    refine a_step [10] (by kernel_rfl) rfl ⟨fun o hoq => ?_, trivial⟩
                    · obtain rfl : _ = o := Option.some.inj hoq
                      refine wl (r_ex (v := _) rfl rfl) ?_
                      refine x_nil ?_
                      refine e_A (listed' := #[true, true, true, true, true, true, true, true, true, true, true, true, true, true, true, false]) (by rfl) ?_
                      refine a_step [15] (by kernel_rfl) rfl ⟨fun o hoq => ?_, trivial⟩
                      · obtain rfl : _ = o := Option.some.inj hoq
                        refine wl_stW hb20 rfl rfl sz30 rfl (by repeat (first | rfl | refine one_cons (by first | rfl | assumption) ?_)) (fun w44 hq hs => ?_)
                        replace hB := hB.tr1 hs lo20
                        replace hb4 := hb4.tr1 hs (by omega)
                        replace hb5 := hb5.tr1 hs (by omega)
                        replace hBY := hBY.tr1 hs lo_hBY_b20
                        replace hb15 := hb15.tr1 hs (by omega)
                        replace hb17 := hb17.tr1 hs (by omega)
                        replace hNZ := hNZ.tr1 hs (by omega)
                        replace hb18 := hb18.tr1 hs (by omega)
                        clear hs
                        replace hb20 := hq
                        refine x_nil ?_
                        refine e_A (listed' := #[true, true, true, true, true, true, true, true, true, true, true, true, true, true, true, true]) (by rfl) ?_
                        refine a_end (by kernel_rfl) ?_
                        refine e_R ⟨(by repeat (first | exact ag_refl | exact ag_ovr' | refine ag_upd rfl ?_ | refine ag_sub rfl ?_ | refine ag_kn (by assumption) ?_)), ?_⟩
                        exact ⟨b18, b20, AZ, _, _, rfl, rfl, rfl, hB, hBY, hb15, hb17, hb18, hb20, hNZ, hAtZ⟩
              · obtain rfl : _ = o := Option.some.inj hoq
                refine wl (r_ex (v := _) rfl rfl) ?_
                refine x_nil ?_
                refine e_A (listed' := #[true, true, true, true, true, true, true, true, true, false, true, true, true, false, false, false]) (by rfl) ?_
                refine a_step [9, 13] (by kernel_rfl) rfl ⟨fun o hoq => ?_, fun o hoq => ?_, trivial⟩
                · obtain rfl : _ = o := Option.some.inj hoq
                  refine wl (r_ex (v := _) rfl rfl) ?_
                  refine x_nil ?_
                  refine e_A (listed' := #[true, true, true, true, true, true, true, true, true, true, true, true, true, false, false, false]) (by rfl) ?_
                  refine a_step [13] (by kernel_rfl) rfl ⟨fun o hoq => ?_, trivial⟩
                  · obtain rfl : _ = o := Option.some.inj hoq
                    refine wl_stW hb18 rfl rfl sz28 rfl (by repeat (first | rfl | refine one_cons (by first | rfl | assumption) ?_)) (fun w45 hq hs => ?_)
                    replace hB := hB.tr1 hs lo18
                    replace hb4 := hb4.tr1 hs (by omega)
                    replace hb5 := hb5.tr1 hs (by omega)
                    replace hBY := hBY.tr1 hs lo_hBY_b18
                    replace hb15 := hb15.tr1 hs (by omega)
                    replace hb17 := hb17.tr1 hs (by omega)
                    replace hNZ := hNZ.tr1 hs (by omega)
                    replace hb20 := hb20.tr1 hs (by omega)
                    clear hs
                    replace hb18 := hq
                    refine x_nil ?_
                    refine e_A (listed' := #[true, true, true, true, true, true, true, true, true, true, true, true, true, true, false, false]) (by rfl) ?_
                    refine a_step [14] (by kernel_rfl) rfl ⟨fun o hoq => ?_, trivial⟩
                    · obtain rfl : _ = o := Option.some.inj hoq
                      refine wl (r_as (v := .bool _) rfl) ?_
                      refine x_nil ?_
                      refine e_A (listed' := #[true, true, true, true, true, true, true, true, true, true, true, true, true, true, true, false]) (by rfl) ?_
                      refine a_step [15] (by kernel_rfl) rfl ⟨fun o hoq => ?_, trivial⟩
                      · obtain rfl : _ = o := Option.some.inj hoq
                        refine wl_stW hb20 rfl rfl sz30 rfl (by repeat (first | rfl | refine one_cons (by first | rfl | assumption) ?_)) (fun w46 hq hs => ?_)
                        replace hB := hB.tr1 hs lo20
                        replace hb4 := hb4.tr1 hs (by omega)
                        replace hb5 := hb5.tr1 hs (by omega)
                        replace hBY := hBY.tr1 hs lo_hBY_b20
                        replace hb15 := hb15.tr1 hs (by omega)
                        replace hb17 := hb17.tr1 hs (by omega)
                        replace hNZ := hNZ.tr1 hs (by omega)
                        replace hb18 := hb18.tr1 hs (by omega)
                        clear hs
                        replace hb20 := hq
                        refine x_nil ?_
                        refine e_A (listed' := #[true, true, true, true, true, true, true, true, true, true, true, true, true, true, true, true]) (by rfl) ?_
                        refine a_end (by kernel_rfl) ?_
                        refine e_R ⟨(by repeat (first | exact ag_refl | exact ag_ovr' | refine ag_upd rfl ?_ | refine ag_sub rfl ?_ | refine ag_kn (by assumption) ?_)), ?_⟩
                        exact ⟨b18, b20, AZ, _, _, rfl, rfl, rfl, hB, hBY, hb15, hb17, hb18, hb20, hNZ, hAtZ⟩
                · obtain rfl : _ = o := Option.some.inj hoq
                  refine wl_stW hb18 rfl rfl sz28 rfl (by repeat (first | rfl | refine one_cons (by first | rfl | assumption) ?_)) (fun w47 hq hs => ?_)
                  replace hB := hB.tr1 hs lo18
                  replace hb4 := hb4.tr1 hs (by omega)
                  replace hb5 := hb5.tr1 hs (by omega)
                  replace hBY := hBY.tr1 hs lo_hBY_b18
                  replace hb15 := hb15.tr1 hs (by omega)
                  replace hb17 := hb17.tr1 hs (by omega)
                  replace hNZ := hNZ.tr1 hs (by omega)
                  replace hb20 := hb20.tr1 hs (by omega)
                  clear hs
                  replace hb18 := hq
                  refine x_nil ?_
                  refine e_A (listed' := #[true, true, true, true, true, true, true, true, true, false, true, true, true, true, false, false]) (by rfl) ?_
                  refine a_step [9] (by kernel_rfl) rfl ⟨fun o hoq => ?_, trivial⟩
                  · obtain rfl : _ = o := Option.some.inj hoq
                    refine wl (r_ex (v := _) rfl rfl) ?_
                    refine x_nil ?_
                    refine e_A (listed' := #[true, true, true, true, true, true, true, true, true, true, true, true, true, true, false, false]) (by rfl) ?_
                    refine a_step [14] (by kernel_rfl) rfl ⟨fun o hoq => ?_, trivial⟩
                    · obtain rfl : _ = o := Option.some.inj hoq
                      refine wl (r_as (v := .bool _) rfl) ?_
                      refine x_nil ?_
                      refine e_A (listed' := #[true, true, true, true, true, true, true, true, true, true, true, true, true, true, true, false]) (by rfl) ?_
                      refine a_step [15] (by kernel_rfl) rfl ⟨fun o hoq => ?_, trivial⟩
                      · obtain rfl : _ = o := Option.some.inj hoq
                        refine wl_stW hb20 rfl rfl sz30 rfl (by repeat (first | rfl | refine one_cons (by first | rfl | assumption) ?_)) (fun w48 hq hs => ?_)
                        replace hB := hB.tr1 hs lo20
                        replace hb4 := hb4.tr1 hs (by omega)
                        replace hb5 := hb5.tr1 hs (by omega)
                        replace hBY := hBY.tr1 hs lo_hBY_b20
                        replace hb15 := hb15.tr1 hs (by omega)
                        replace hb17 := hb17.tr1 hs (by omega)
                        replace hNZ := hNZ.tr1 hs (by omega)
                        replace hb18 := hb18.tr1 hs (by omega)
                        clear hs
                        replace hb20 := hq
                        refine x_nil ?_
                        refine e_A (listed' := #[true, true, true, true, true, true, true, true, true, true, true, true, true, true, true, true]) (by rfl) ?_
                        refine a_end (by kernel_rfl) ?_
                        refine e_R ⟨(by repeat (first | exact ag_refl | exact ag_ovr' | refine ag_upd rfl ?_ | refine ag_sub rfl ?_ | refine ag_kn (by assumption) ?_)), ?_⟩
                        exact ⟨b18, b20, AZ, _, _, rfl, rfl, rfl, hB, hBY, hb15, hb17, hb18, hb20, hNZ, hAtZ⟩
              · obtain rfl : _ = o := Option.some.inj hoq
                refine wl_stW hb18 rfl rfl sz28 rfl (by repeat (first | rfl | refine one_cons (by first | rfl | assumption) ?_)) (fun w49 hq hs => ?_)
                replace hB := hB.tr1 hs lo18
                replace hb4 := hb4.tr1 hs (by omega)
                replace hb5 := hb5.tr1 hs (by omega)
                replace hBY := hBY.tr1 hs lo_hBY_b18
                replace hb15 := hb15.tr1 hs (by omega)
                replace hb17 := hb17.tr1 hs (by omega)
                replace hNZ := hNZ.tr1 hs (by omega)
                replace hb20 := hb20.tr1 hs (by omega)
                clear hs
                replace hb18 := hq
                refine x_nil ?_
                refine e_A (listed' := #[true, true, true, true, true, true, true, true, true, false, false, true, true, true, false, false]) (by rfl) ?_
                refine a_step [9, 10] (by kernel_rfl) rfl ⟨fun o hoq => ?_, fun o hoq => ?_, trivial⟩
                · obtain rfl : _ = o := Option.some.inj hoq
                  refine wl (r_ex (v := _) rfl rfl) ?_
                  refine x_nil ?_
                  refine e_A (listed' := #[true, true, true, true, true, true, true, true, true, true, false, true, true, true, false, false]) (by rfl) ?_
                  refine a_step [10, 14] (by kernel_rfl) rfl ⟨fun o hoq => ?_, fun o hoq => ?_, trivial⟩
                  · obtain rfl : _ = o := Option.some.inj hoq
                    refine wl (r_ex (v := _) rfl rfl) ?_
                    refine x_nil ?_
                    refine e_A (listed' := #[true, true, true, true, true, true, true, true, true, true, true, true, true, true, false, false]) (by rfl) ?_
                    refine a_step [14] (by kernel_rfl) rfl ⟨fun o hoq => ?_, trivial⟩
                    · obtain rfl : _ = o := Option.some.inj hoq
                      refine wl (r_as (v := .bool _) rfl) ?_
                      refine x_nil ?_
                      refine e_A (listed' := #[true, true, true, true, true, true, true, true, true, true, true, true, true, true, true, false]) (by rfl) ?_
                      refine a_step [15] (by kernel_rfl) rfl ⟨fun o hoq => ?_, trivial⟩
                      · obtain rfl : _ = o := Option.some.inj hoq
                        refine wl_stW hb20 rfl rfl sz30 rfl (by repeat (first | rfl | refine one_cons (by first | rfl | assumption) ?_)) (fun w50 hq hs => ?_)
                        replace hB := hB.tr1 hs lo20
                        replace hb4 := hb4.tr1 hs (by omega)
                        replace hb5 := hb5.tr1 hs (by omega)
                        replace hBY := hBY.tr1 hs lo_hBY_b20
                        replace hb15 := hb15.tr1 hs (by omega)
                        replace hb17 := hb17.tr1 hs (by omega)
                        replace hNZ := hNZ.tr1 hs (by omega)
                        replace hb18 := hb18.tr1 hs (by omega)
                        clear hs
                        replace hb20 := hq
                        refine x_nil ?_
                        refine e_A (listed' := #[true, true, true, true, true, true, true, true, true, true, true, true, true, true, true, true]) (by rfl) ?_
                        refine a_end (by kernel_rfl) ?_
                        refine e_R ⟨(by repeat (first | exact ag_refl | exact ag_ovr' | refine ag_upd rfl ?_ | refine ag_sub rfl ?_ | refine ag_kn (by assumption) ?_)), ?_⟩
                        exact ⟨b18, b20, AZ, _, _, rfl, rfl, rfl, hB, hBY, hb15, hb17, hb18, hb20, hNZ, hAtZ⟩
                  · obtain rfl : _ = o := Option.some.inj hoq
                    refine wl (r_as (v := .bool _) rfl) ?_
                    refine x_nil ?_
                    refine e_A (listed' := #[true, true, true, true, true, true, true, true, true, true, false, true, true, true, true, false]) (by rfl) ?_
                    refine a_step [10] (by kernel_rfl) rfl ⟨fun o hoq => ?_, trivial⟩
                    · obtain rfl : _ = o := Option.some.inj hoq
                      refine wl (r_ex (v := _) rfl rfl) ?_
                      refine x_nil ?_
                      refine e_A (listed' := #[true, true, true, true, true, true, true, true, true, true, true, true, true, true, true, false]) (by rfl) ?_
                      refine a_step [15] (by kernel_rfl) rfl ⟨fun o hoq => ?_, trivial⟩
                      · obtain rfl : _ = o := Option.some.inj hoq
                        refine wl_stW hb20 rfl rfl sz30 rfl (by repeat (first | rfl | refine one_cons (by first | rfl | assumption) ?_)) (fun w51 hq hs => ?_)
                        replace hB := hB.tr1 hs lo20
                        replace hb4 := hb4.tr1 hs (by omega)
                        replace hb5 := hb5.tr1 hs (by omega)
                        replace hBY := hBY.tr1 hs lo_hBY_b20
                        replace hb15 := hb15.tr1 hs (by omega)
                        replace hb17 := hb17.tr1 hs (by omega)
                        replace hNZ := hNZ.tr1 hs (by omega)
                        replace hb18 := hb18.tr1 hs (by omega)
                        clear hs
                        replace hb20 := hq
                        refine x_nil ?_
                        refine e_A (listed' := #[true, true, true, true, true, true, true, true, true, true, true, true, true, true, true, true]) (by rfl) ?_
                        refine a_end (by kernel_rfl) ?_
                        refine e_R ⟨(by repeat (first | exact ag_refl | exact ag_ovr' | refine ag_upd rfl ?_ | refine ag_sub rfl ?_ | refine ag_kn (by assumption) ?_)), ?_⟩
                        exact ⟨b18, b20, AZ, _, _, rfl, rfl, rfl, hB, hBY, hb15, hb17, hb18, hb20, hNZ, hAtZ⟩
                · obtain rfl : _ = o := Option.some.inj hoq
                  refine wl (r_ex (v := _) rfl rfl) ?_
                  refine x_nil ?_
                  refine e_A (listed' := #[true, true, true, true, true, true, true, true, true, false, true, true, true, true, false, false]) (by rfl) ?_
                  refine a_step [9] (by kernel_rfl) rfl ⟨fun o hoq => ?_, trivial⟩
                  · obtain rfl : _ = o := Option.some.inj hoq
                    refine wl (r_ex (v := _) rfl rfl) ?_
                    refine x_nil ?_
                    refine e_A (listed' := #[true, true, true, true, true, true, true, true, true, true, true, true, true, true, false, false]) (by rfl) ?_
                    refine a_step [14] (by kernel_rfl) rfl ⟨fun o hoq => ?_, trivial⟩
                    · obtain rfl : _ = o := Option.some.inj hoq
                      refine wl (r_as (v := .bool _) rfl) ?_
                      refine x_nil ?_
                      refine e_A (listed' := #[true, true, true, true, true, true, true, true, true, true, true, true, true, true, true, false]) (by rfl) ?_
                      refine a_step [15] (by kernel_rfl) rfl ⟨fun o hoq => ?_, trivial⟩
                      · obtain rfl : _ = o := Option.some.inj hoq
                        refine wl_stW hb20 rfl rfl sz30 rfl (by repeat (first | rfl | refine one_cons (by first | rfl | assumption) ?_)) (fun w52 hq hs => ?_)
                        replace hB := hB.tr1 hs lo20
                        replace hb4 := hb4.tr1 hs (by omega)
                        replace hb5 := hb5.tr1 hs (by omega)
                        replace hBY := hBY.tr1 hs lo_hBY_b20
                        replace hb15 := hb15.tr1 hs (by omega)
                        replace hb17 := hb17.tr1 hs (by omega)
                        replace hNZ := hNZ.tr1 hs (by omega)
                        replace hb18 := hb18.tr1 hs (by omega)
                        clear hs
                        replace hb20 := hq
                        refine x_nil ?_
                        refine e_A (listed' := #[true, true, true, true, true, true, true, true, true, true, true, true, true, true, true, true]) (by rfl) ?_
                        refine a_end (by kernel_rfl) ?_
                        refine e_R ⟨(by repeat (first | exact ag_refl | exact ag_ovr' | refine ag_upd rfl ?_ | refine ag_sub rfl ?_ | refine ag_kn (by assumption) ?_)), ?_⟩
                        exact ⟨b18, b20, AZ, _, _, rfl, rfl, rfl, hB, hBY, hb15, hb17, hb18, hb20, hNZ, hAtZ⟩
        obtain ⟨b18, b20, AZ, lz, hz, h18, h19, h20, hB, hBY, hb15, hb17, hb18, hb20, hNZ, hAtZ⟩ := hI
        refine e_know 18 (.pointer (some ⟨b18, 0, none⟩)) h18 (by simp [undef]) ?_
        refine e_know 19 (.bool (decide (AtOk l fs gr (p ++ q)))) h19 (by simp [undef]) ?_
        refine e_know 20 (.pointer (some ⟨b20, 0, none⟩)) h20 (by simp [undef]) ?_
        refine e_S ?_
        refine c_seq ?_
        refine c_seq ?_
        obtain ⟨hc1, hc2, hc3⟩ := at_comp (q := q) hok hal haw hdl hXe (fun h => by
          obtain ⟨a2, o2, _, h3, h4, h5⟩ := hAtZ h
          exact ⟨a2, o2, h3, h4, h5⟩)
        have hd1 : ¬ (atF l fs gr (p ++ q)).1 = 0 ∨ (atF l fs (atG l fs gr p) q).1 = 0 := by
          by_cases h : (atF l fs gr (p ++ q)).1 = 0
          · exact .inr (hc1 h)
          · exact .inl h
        have hd2 : ¬ (atF l fs (atG l fs gr p) q).1 = 0 ∨ (atF l fs gr (p ++ q)).1 = 0 ∨ 300 < p.length + q.length := by
          by_cases h : (atF l fs (atG l fs gr p) q).1 = 0
          · by_cases h2 : (atF l fs gr (p ++ q)).1 = 0
            · exact .inr (.inl h2)
            · exact .inr (.inr (hc2 h h2))
          · exact .inl h
        have hd3 : ¬ (atF l fs (atG l fs gr p) q).1 = 0 ∨ q.length ≤ 300 := by
          by_cases h : (atF l fs (atG l fs gr p) q).1 = 0
          · exact .inr (at_zero.1 h).2.1
          · exact .inl h
        refine c_cut1 [70, 71, 72, 73, 74, 75, 76, 77] 77 (.bool (decide (¬ (atF l fs (atG l fs gr p) q).1 = 0 ∨ ¬ (atF l fs gr (p ++ q)).1 = 0))) (by simp [undef]) ?_ (fun gq => ?_)
        · refine c_region ?_
          refine wl (r_fa Tryd.underlying30 sz3 (by decide) rfl rfl rfl) ?_
          refine wl (r_ld1 (v := .int _ _) Tryd.underlying3 rfl rfl (hb17.cell rfl)) ?_
          refine wl (r_neq rfl rfl) ?_
          refine wl (r_mv (v := .bool _) rfl) ?_
          refine wl_casesd 73 rfl (fun g73 => ?_) (fun g73 => ?_)
          · skip
            refine wlgn 73 rfl rfl rfl ?_
            refine wlgn 73 rfl rfl rfl ?_
            refine wlgn 73 rfl rfl rfl ?_
            refine wl (r_pt (v := .bool _) rfl rfl) ?_
            refine x_nil (e_R ⟨rfl, (by repeat (first | exact ag_refl | exact ag_ovr' | refine ag_upd rfl ?_ | refine ag_sub rfl ?_ | refine ag_kn (by assumption) ?_)), ?_⟩)
            show Value.bool _ = Value.bool _
            first | exact congrArg Value.bool (decide_eq_true (by omega)).symm | exact congrArg Value.bool (decide_eq_false (by omega)).symm | exact congrArg Value.bool (decide_eq_decide.2 (by omega)) | exact congrArg Value.bool ((decide_not).symm.trans (decide_eq_decide.2 (by omega)))
          · skip
            refine wl_gd 73 rfl rfl ?_
            refine wl (r_fa Tryd.underlying30 sz3 (by decide) rfl rfl rfl) ?_
            refine wl_gd 73 rfl rfl ?_
            refine wl (r_ld1 (v := .int _ _) Tryd.underlying3 rfl rfl (hb20.cell rfl)) ?_
            refine wl_gd 73 rfl rfl ?_
            refine wl (r_neq rfl rfl) ?_
            refine wl (r_pf (v := .bool _) rfl rfl) ?_
            refine x_nil (e_R ⟨rfl, (by repeat (first | exact ag_refl | exact ag_ovr' | refine ag_upd rfl ?_ | refine ag_sub rfl ?_ | refine ag_kn (by assumption) ?_)), ?_⟩)
            show Value.bool _ = Value.bool _
            first | exact congrArg Value.bool (decide_eq_true (by omega)).symm | exact congrArg Value.bool (decide_eq_false (by omega)).symm | exact congrArg Value.bool (decide_eq_decide.2 (by omega)) | exact congrArg Value.bool ((decide_not).symm.trans (decide_eq_decide.2 (by omega)))
        refine e_S ?_
        refine c_ifd rfl (fun c77 => ?_) (fun c77 => ?_)
        · skip
          refine c_seq ?_
          refine c_cut1 [8, 78, 79, 80, 81, 82, 83, 84, 85, 86, 87, 88, 89, 90, 91, 92, 93] 8 (.bool (decide (True))) (by simp [undef]) ?_ (fun gq => ?_)
          · refine c_region ?_
            refine wl (r_fa Tryd.underlying30 sz3 (by decide) rfl rfl rfl) ?_
            refine wl (r_ld1 (v := .int _ _) Tryd.underlying3 rfl rfl (hb17.cell rfl)) ?_
            refine wl (r_neq rfl rfl) ?_
            refine wl (r_mv (v := .bool _) rfl) ?_
            refine wl_casesd 81 rfl (fun g81 => ?_) (fun g81 => ?_)
            · skip
              refine wl_gd 81 rfl rfl ?_
              refine wl (r_fa Tryd.underlying30 sz3 (by decide) rfl rfl rfl) ?_
              refine wl_gd 81 rfl rfl ?_
              refine wl (r_ld1 (v := .int _ _) Tryd.underlying3 rfl rfl (hb20.cell rfl)) ?_
              refine wl_gd 81 rfl rfl ?_
              refine wl (r_neq rfl rfl) ?_
              refine wl (r_pt (v := .bool _) rfl rfl) ?_
              refine wl (r_mv (v := .bool _) rfl) ?_
              refine wl_casesd 86 rfl (fun g86 => ?_) (fun g86 => ?_)
              · skip
                refine wlgn 86 rfl rfl rfl ?_
                refine wlgn 86 rfl rfl rfl ?_
                refine wlgn 86 rfl rfl rfl ?_
                refine wlgn 86 rfl rfl rfl ?_
                refine wlgn 86 rfl rfl rfl ?_
                refine wlgn 86 rfl rfl rfl ?_
                refine wl (r_pt (v := .bool _) rfl rfl) ?_
                refine wl (r_as (v := .bool _) rfl) ?_
                refine x_nil (e_R ⟨rfl, (by repeat (first | exact ag_refl | exact ag_ovr' | refine ag_upd rfl ?_ | refine ag_sub rfl ?_ | refine ag_kn (by assumption) ?_)), ?_⟩)
                show Value.bool _ = Value.bool _
                first | exact congrArg Value.bool (decide_eq_true True.intro).symm | exact congrArg Value.bool (decide_eq_decide.2 ⟨fun _ => trivial, fun _ => by omega⟩)
              · skip
                refine wl_gd 86 rfl rfl ?_
                refine wl (r_mv (v := .slice _ _ _) rfl) ?_
                refine wl_gd 86 rfl rfl ?_
                refine wl (r_len Tryd.underlying52 rfl) ?_
                refine wl_gd 86 rfl rfl ?_
                refine wl (r_mv (v := .slice _ _ _) rfl) ?_
                refine wl_gd 86 rfl rfl ?_
                refine wl (r_len Tryd.underlying52 rfl) ?_
                refine wl_gd 86 rfl rfl ?_
                refine wl (r_add rfl rfl rfl (by omega)) ?_
                refine wl_gd 86 rfl rfl ?_
                refine wl (r_gtr rfl rfl) ?_
                refine wl (r_pf (v := .bool _) rfl rfl) ?_
                refine wl (r_as (v := .bool _) rfl) ?_
                refine x_nil (e_R ⟨rfl, (by repeat (first | exact ag_refl | exact ag_ovr' | refine ag_upd rfl ?_ | refine ag_sub rfl ?_ | refine ag_kn (by assumption) ?_)), ?_⟩)
                show Value.bool _ = Value.bool _
                first | exact congrArg Value.bool (decide_eq_true True.intro).symm | exact congrArg Value.bool (decide_eq_decide.2 ⟨fun _ => trivial, fun _ => by omega⟩)
            · skip
              refine wlgn 81 rfl rfl rfl ?_
              refine wlgn 81 rfl rfl rfl ?_
              refine wlgn 81 rfl rfl rfl ?_
              refine wl (r_pf (v := .bool _) rfl rfl) ?_
              refine wl (r_mv (v := .bool _) rfl) ?_
              refine wl_gd 86 rfl rfl ?_
              refine wl (r_mv (v := .slice _ _ _) rfl) ?_
              refine wl_gd 86 rfl rfl ?_
              refine wl (r_len Tryd.underlying52 rfl) ?_
              refine wl_gd 86 rfl rfl ?_
              refine wl (r_mv (v := .slice _ _ _) rfl) ?_
              refine wl_gd 86 rfl rfl ?_
              refine wl (r_len Tryd.underlying52 rfl) ?_
              refine wl_gd 86 rfl rfl ?_
              refine wl (r_add rfl rfl rfl (by omega)) ?_
              refine wl_gd 86 rfl rfl ?_
              refine wl (r_gtr rfl rfl) ?_
              refine wl (r_pf (v := .bool _) rfl rfl) ?_
              refine wl (r_as (v := .bool _) rfl) ?_
              refine x_nil (e_R ⟨rfl, (by repeat (first | exact ag_refl | exact ag_ovr' | refine ag_upd rfl ?_ | refine ag_sub rfl ?_ | refine ag_kn (by assumption) ?_)), ?_⟩)
              show Value.bool _ = Value.bool _
              first | exact congrArg Value.bool (decide_eq_true True.intro).symm | exact congrArg Value.bool (decide_eq_decide.2 ⟨fun _ => trivial, fun _ => by omega⟩)
          refine e_S ?_
          refine c_ret ?_
          refine e_Sr ?_
          refine fin1 (.inl rfl) rfl rfl ?_
          exact ⟨rfl, hB⟩
        · have hy0 : (atF l fs (atG l fs gr p) q).1 = 0 := Decidable.not_not.1 (fun h => c77 (.inl h))
          have hz0 : (atF l fs gr (p ++ q)).1 = 0 := Decidable.not_not.1 (fun h => c77 (.inr h))
          obtain ⟨hiff, heG⟩ := hc3 hy0 hz0
          have hbb : (decide (AtOk l fs (atG l fs gr p) q) == decide (AtOk l fs gr (p ++ q))) = true := by
            by_cases h : AtOk l fs (atG l fs gr p) q
            · rw [decide_eq_true h, decide_eq_true (hiff.1 h)]; rfl
            · rw [decide_eq_false h, decide_eq_false (fun k => h (hiff.2 k))]; rfl
          refine c_skip ?_
          refine e_S ?_
          refine c_seq ?_
          refine c_region ?_
          refine wl (r_mv (v := .bool _) rfl) ?_
          refine wl (r_mv (v := .bool _) rfl) ?_
          refine wl (r_eqlBr Tryd.underlying4 rfl rfl hbb) ?_
          refine wl (r_mv (v := .bool _) rfl) ?_
          refine wl_gd 97 rfl rfl ?_
          refine wl (r_ldS Tryd.underlying28 rfl rfl hb15.range0 sz28) ?_
          refine wl_gd 97 rfl rfl ?_
          refine wl (r_ldS Tryd.underlying28 rfl rfl hb18.range0 sz28) ?_
          refine wl_gd 97 rfl rfl ?_
          refine wl_cl fn15 (same_any AY AZ _ _ _ _ _ _ _ (hNY.mono hBY) hNZ.now rfl rfl heG) rfl (fun e' w53 hr => ?_)
          obtain ⟨rfl, hs⟩ := hr
          replace hs := Same.of_bel hs
          replace hB := hB.tr0 hs
          replace hBY := hBY.tr0 hs
          replace hb15 := hb15.tr0 hs
          replace hb17 := hb17.tr0 hs
          replace hb18 := hb18.tr0 hs
          replace hb20 := hb20.tr0 hs
          replace hNZ := hNZ.tr0 hs
          clear hs
          refine ⟨_, rfl, ?_⟩
          refine wl (r_pt (v := .bool _) rfl rfl) ?_
          refine wl (r_as (v := .bool _) rfl) ?_
          refine x_nil ?_
          refine e_S ?_
          refine c_ret ?_
          refine fin1 (.inl rfl) rfl rfl ?_
          exact ⟨rfl, hB⟩
end Go.Proofs.YtdegobbnidddjaaDoor
