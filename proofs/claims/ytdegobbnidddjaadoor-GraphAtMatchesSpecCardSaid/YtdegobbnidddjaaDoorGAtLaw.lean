/- What these functions of the program compute, at every world: glosswright/glosswrightlaw3.GraphAtMatchesSpec. -/
import Derived.Test.YtdegobbnidddjaaDoorGAt
namespace Go.Proofs.YtdegobbnidddjaaDoor
open Go.RowKit

def singG : List Nd := [⟨2, []⟩]
theorem apat_f : atF pairT pairF apartG [1] = (0, 0) := by
  rw [atF_p apart_ok (by decide)]; decide
theorem apat_w : walkT apartG [1] 0 = ((1 : Nat) : Int) := by decide
theorem apat_d : DL apartG [1] [] [1] := .new (by decide) .nil .nil
theorem apat_ok : AtOk pairT pairF apartG [1] := ⟨by rw [apat_f], by rw [apat_w]; decide⟩
theorem apat_g : atG pairT pairF apartG [1] = singG := by rw [atG_yes apat_ok apat_w apat_d]; decide
theorem atap_any {w : World} {A B G PA : Option Addr} (hTab : TabIn w) (hT : TypesIn w A pairT) (hF : FeatsIn w B pairF) (hG : NodesIn w G apartG) (hP : IntsIn w PA [1]) : Calls Tryd.prog 22 #[.agg #[.slice A 4 4, .slice B 2 2], .agg #[.slice G 3 3], .slice PA 1 1] w fun e w' => (∃ A', e = .returned (.tuple #[.agg #[.slice A' 1 1], .bool true, .agg #[.int .i64 0, .int .i64 0]]) ∧ NodesIn w' A' singG) ∧ Bel w w' := by
  refine (at_any A B G 4 2 3 pairT pairF apartG w PA 1 [1] hTab hT hF hG hP).mono fun e w' h => ?_
  obtain ⟨⟨A', he, hN, _⟩, hs⟩ := h
  unfold atV at he
  rw [apat_g] at hN
  rw [apat_g, apat_f, decide_eq_true apat_ok] at he
  exact ⟨⟨A', he, hN⟩, hs⟩
theorem rfr_any (G : Option Addr) (cg nt nf : Nat) (gr : List Nd) (r : Nat) (o : List Nat) (w : World) (hG : NodesIn w G gr) (hk : GOk nt nf gr) (hnf : nf ≤ 1000) (hr : r < gr.length) (hd : DL gr [r] [] o) : Calls Tryd.prog 25 #[.agg #[.slice G gr.length cg], .int .i64 r] w fun e w' => (∃ A c, e = .returned (.agg #[.slice A (canG gr o).length c]) ∧ NodesIn w' A (canG gr o)) ∧ Bel w w' := by
  refine (rfrom_any G cg nt nf gr r w hG hk hnf hr).mono fun e w' h => ?_
  obtain ⟨⟨o2, A, c, hD, _, he, hN⟩, hs⟩ := h
  have e := hD.det hd
  subst e
  exact ⟨⟨A, c, by rw [he, canG_len], hN w' (FrSame.refl _ _)⟩, hs⟩
theorem atF_zero {l : List Ty} {fs : List Ft} {g : List Nd} {p : List Int} (h : (atF l fs g p).1 = 0) : (graphF l fs g).1 = 0 ∧ p.length ≤ 300 := by
  by_cases h0 : (graphF l fs g).1 = 0
  · refine ⟨h0, ?_⟩
    by_cases h1 : 300 < p.length
    · rw [atF_l h0 h1] at h; cases h
    · omega
  · rw [atF_g h0] at h; exact absurd h h0
def Want (l : List Ty) (fs : List Ft) (g : List Nd) (p : List Int) (k : Nat) (z : Fl) : Prop := (z.1 = 0 → z.2 = 0 ∧ atF l fs g p = firstF (pF fs.length p) k (p.length - k)) ∧ (¬ z.1 = 0 → z = atF l fs g p)
section want
variable {l : List Ty} {fs : List Ft} {g : List Nd} {p : List Int} {k : Nat} {z : Fl}
theorem want_l (h0 : (graphF l fs g).1 = 0) (h : 300 < p.length) : Want l fs g p 0 (2, -3) := ⟨fun h => absurd (show (2 : Int) = 0 from h) (by decide), fun _ => (atF_l h0 h).symm⟩
theorem want_g (h : ¬ ((graphF l fs g).1 = 0 ∧ 300 < p.length)) : Want l fs g p 0 (graphF l fs g) :=
  ⟨fun h0 => ⟨by rw [gf_zz h0], atF_p h0 (fun h1 => h ⟨h0, h1⟩)⟩, fun h0 => (atF_g h0).symm⟩
theorem want_step (h : Want l fs g p k z) (hz : z.1 = 0) (hk : k < p.length) (hb : ¬ (p[k] < 0 ∨ (fs.length : Int) ≤ p[k])) : Want l fs g p (k + 1) z :=
  ⟨fun _ => ⟨(h.1 hz).1, (h.1 hz).2.trans (firstF_miss hk (pF_no hk hb))⟩, fun hn => absurd hz hn⟩
theorem want_bad (h : Want l fs g p k z) (hz : z.1 = 0) (hk : k < p.length) (hb : p[k] < 0 ∨ (fs.length : Int) ≤ p[k]) : Want l fs g p (k + 1) (3, (k : Int)) :=
  ⟨fun h => absurd (show (3 : Int) = 0 from h) (by decide), fun _ => ((h.1 hz).2.trans (firstF_hit (by omega) (pF_yes hk hb) (by decide))).symm⟩
theorem want_end (h : Want l fs g p k z) (hn : ¬ ((k : Int) < p.length ∧ z.1 = 0)) : z = atF l fs g p := by
  by_cases hz : z.1 = 0
  · obtain ⟨h1, h2⟩ := h.1 hz
    rw [h2, firstF_end (by omega)]
    exact Prod.ext hz h1
  · exact h.2 hz
end want

theorem fn22 : callable Tryd.prog 22 = true := by kernel_rfl
theorem fn23 : callable Tryd.prog 23 = true := by kernel_rfl
theorem fn24 : callable Tryd.prog 24 = true := by kernel_rfl
set_option maxHeartbeats 4000000 in
theorem law12_any (A B G : Option Addr) (c d cg : Nat) (l : List Ty) (fs : List Ft) (gr : List Nd) (w : World) (PA : Option Addr) (cp : Nat) (p : List Int) (hTab : TabIn w) (hcl : l.length ≤ c) (hdl : fs.length ≤ d) (hT : TypesIn w A l) (hF : FeatsIn w B fs) (hG : NodesIn w G gr) (hP : IntsIn w PA p) : Calls Tryd.prog 7 #[.agg #[.slice A l.length c, .slice B fs.length d], .agg #[.slice G gr.length cg], .slice PA p.length cp] w fun e w' => e = .returned (.bool true) ∧ Bel w w' := by
  have hpm := hP.1
  unfold maxI at hpm
  refine enter Tryd.func7 Tryd.ntmps7 rfl (Nat.le_of_ble_eq_true rfl) ?_
  have hB : Bel w w := Below.refl _ _
  refine c_seq ?_
  refine c_region ?_
  refine wl_bx (v := .agg #[_, _]) (cs := #[_, _]) rfl rfl (fun b3 w1 hb3 hs hr => ?_)
  have lo3 := Nat.le_trans (Bel.size hB) hr
  replace hB := hB.tr0 hs
  clear hs
  clear hr
  refine wl_bx (v := .agg #[_]) (cs := #[_]) rfl rfl (fun b4 w2 hb4 hs hr => ?_)
  have or_b3_b4 : b3 < b4 := Nat.lt_of_lt_of_le hb3.lt hr
  have lo4 := Nat.le_trans (Bel.size hB) hr
  replace hB := hB.tr0 hs
  replace hb3 := hb3.tr0 hs
  clear hs
  clear hr
  refine wl (r_as (v := .bool _) rfl) ?_
  refine x_nil ?_
  refine e_S ?_
  refine c_seq ?_
  refine c_seq ?_
  refine c_region ?_
  refine wl_cl fn10 (pair_any _) rfl (fun e' w3 hr => ?_)
  obtain ⟨⟨Ap, Bp, rfl, hTp, hFp⟩, hs⟩ := hr
  replace hs := Same.of_bel hs
  replace hB := hB.tr0 hs
  replace hb3 := hb3.tr0 hs
  replace hb4 := hb4.tr0 hs
  clear hs
  have hB0 : Bel w3 w3 := Below.refl _ _
  refine ⟨_, rfl, ?_⟩
  refine wl_cl fn13 (apart_any _) rfl (fun e' w4 hr => ?_)
  obtain ⟨⟨Ga, rfl, hGa⟩, hs⟩ := hr
  replace hs := Same.of_bel hs
  replace hB := hB.tr0 hs
  replace hb3 := hb3.tr0 hs
  replace hb4 := hb4.tr0 hs
  replace hB0 := hB0.tr0 hs
  clear hs
  have hB1 : Bel w4 w4 := Below.refl _ _
  refine ⟨_, rfl, ?_⟩
  refine wl_bs (cs := #[_]) [(0, .int _ _)] rfl Tryd.underlying52 sz3 ze3 (by decide) (by decide) (by kernel_rfl) rfl (fun b20 w5 hb20 hs hr => ?_)
  have or_b3_b20 : b3 < b20 := Nat.lt_of_lt_of_le hb3.lt hr
  have or_b4_b20 : b4 < b20 := Nat.lt_of_lt_of_le hb4.lt hr
  have lo20 := Nat.le_trans (Bel.size hB) hr
  have lo_hB0_b20 := Nat.le_trans (Bel.size hB0) hr
  have lo_hB1_b20 := Nat.le_trans (Bel.size hB1) hr
  replace hB := hB.tr0 hs
  replace hb3 := hb3.tr0 hs
  replace hb4 := hb4.tr0 hs
  replace hB0 := hB0.tr0 hs
  replace hB1 := hB1.tr0 hs
  clear hs
  clear hr
  refine wl_cl fn22 (atap_any (hTab.mono hB) (hTp.mono hB0) (hFp.mono hB0) (hGa.mono hB1) (ints_of_blk [1] hb20 (by decide))) rfl (fun e' w6 hr => ?_)
  obtain ⟨⟨GW, rfl, hGW⟩, hs⟩ := hr
  replace hs := Same.of_bel hs
  replace hB := hB.tr0 hs
  replace hb3 := hb3.tr0 hs
  replace hb4 := hb4.tr0 hs
  replace hB0 := hB0.tr0 hs
  replace hB1 := hB1.tr0 hs
  replace hb20 := hb20.tr0 hs
  clear hs
  have hB2 : Bel w6 w6 := Below.refl _ _
  refine ⟨_, rfl, ?_⟩
  refine wl (r_mv (v := .tuple _) rfl) ?_
  refine wl (r_ex (v := .agg _) rfl rfl) ?_
  refine wl (r_ex (v := .bool _) rfl rfl) ?_
  refine wl (r_ex (v := .agg _) rfl rfl) ?_
  refine wl_al (cs := #[.slice none 0 0]) ze28 rfl (fun b7 w7 hb7 hs hr => ?_)
  have or_b3_b7 : b3 < b7 := Nat.lt_of_lt_of_le hb3.lt hr
  have or_b4_b7 : b4 < b7 := Nat.lt_of_lt_of_le hb4.lt hr
  have or_b20_b7 : b20 < b7 := Nat.lt_of_lt_of_le hb20.lt hr
  have lo7 := Nat.le_trans (Bel.size hB) hr
  have lo_hB2_b7 := Nat.le_trans (Bel.size hB2) hr
  replace hB := hB.tr0 hs
  replace hb3 := hb3.tr0 hs
  replace hb4 := hb4.tr0 hs
  replace hb20 := hb20.tr0 hs
  replace hB2 := hB2.tr0 hs
  clear hs
  clear hr
  refine wl_al (cs := #[.int .i64 0, .int .i64 0]) ze30 rfl (fun b9 w8 hb9 hs hr => ?_)
  have or_b3_b9 : b3 < b9 := Nat.lt_of_lt_of_le hb3.lt hr
  have or_b4_b9 : b4 < b9 := Nat.lt_of_lt_of_le hb4.lt hr
  have or_b20_b9 : b20 < b9 := Nat.lt_of_lt_of_le hb20.lt hr
  have or_b7_b9 : b7 < b9 := Nat.lt_of_lt_of_le hb7.lt hr
  have lo9 := Nat.le_trans (Bel.size hB) hr
  have lo_hB2_b9 := Nat.le_trans (Bel.size hB2) hr
  replace hB := hB.tr0 hs
  replace hb3 := hb3.tr0 hs
  replace hb4 := hb4.tr0 hs
  replace hb20 := hb20.tr0 hs
  replace hB2 := hB2.tr0 hs
  replace hb7 := hb7.tr0 hs
  clear hs
  clear hr
  refine wl_stW hb7 rfl rfl sz28 rfl (by repeat (first | rfl | refine one_cons (by first | rfl | assumption) ?_)) (fun w9 hq hs => ?_)
  replace hB := hB.tr1 hs lo7
  replace hb3 := hb3.tr1 hs (by omega)
  replace hb4 := hb4.tr1 hs (by omega)
  replace hb20 := hb20.tr1 hs (by omega)
  replace hB2 := hB2.tr1 hs lo_hB2_b7
  replace hb9 := hb9.tr1 hs (by omega)
  clear hs
  replace hb7 := hq
  refine wl (r_as (v := .bool _) rfl) ?_
  refine wl_stW hb9 rfl rfl sz30 rfl (by repeat (first | rfl | refine one_cons (by first | rfl | assumption) ?_)) (fun w10 hq hs => ?_)
  replace hB := hB.tr1 hs lo9
  replace hb3 := hb3.tr1 hs (by omega)
  replace hb4 := hb4.tr1 hs (by omega)
  replace hb20 := hb20.tr1 hs (by omega)
  replace hB2 := hB2.tr1 hs lo_hB2_b9
  replace hb7 := hb7.tr1 hs (by omega)
  clear hs
  replace hb9 := hq
  refine x_nil ?_
  refine e_S ?_
  refine c_seq ?_
  refine c_monoGO 8 [25, 26, 27, 28, 29, 30, 31, 32] (fun _ => false) (fun ix v wv => match ix with | 0 => v = .bool true | 1 => v = .bool false | 2 => v = .bool false | 3 => v = .agg #[.slice GW 1 1] | 4 => ∃ AS, v = .agg #[.slice AS 1 1] ∧ NodesIn wv AS singG | 5 => v = .bool true | 6 => v = .bool false | 7 => v = .bool false | _ => True) (by kernel_rfl) (by kernel_rfl) ?_ ?_ ?_
  · intro ix v wv wv2 h hs
    match ix, h with
    | 0, h => exact h
    | 1, h => exact h
    | 2, h => exact h
    | 3, h => exact h
    | 4, h =>
      obtain ⟨AS, e29, hNS⟩ := (show ∃ AS, v = .agg #[.slice AS 1 1] ∧ NodesIn wv AS singG from h)
      exact ⟨AS, e29, hNS.mono hs.bel⟩
    | 5, h => exact h
    | 6, h => exact h
    | 7, h => exact h
    | _ + 8, h => exact trivial
  · intro ix o hix hoq gg wx hs hd hdis
    match ix, hix, hoq with
    | 0, _, hoq =>
      obtain rfl : _ = o := Option.some.inj hoq
      have hs0 := hs
      replace hB := hB.tr0 hs
      replace hb3 := hb3.tr0 hs
      replace hb4 := hb4.tr0 hs
      replace hb20 := hb20.tr0 hs
      replace hB2 := hB2.tr0 hs
      replace hb7 := hb7.tr0 hs
      replace hb9 := hb9.tr0 hs
      clear hs
      refine ⟨fun _ => ?_, fun hw => Bool.noConfusion (show true = false from hw)⟩
      refine os_rv (r_mv (v := .bool _) rfl) ⟨Same.refl _ _, ?_, frsh_no⟩
      exact rfl
    | 1, _, hoq =>
      obtain rfl : _ = o := Option.some.inj hoq
      have hs0 := hs
      replace hB := hB.tr0 hs
      replace hb3 := hb3.tr0 hs
      replace hb4 := hb4.tr0 hs
      replace hb20 := hb20.tr0 hs
      replace hB2 := hB2.tr0 hs
      replace hb7 := hb7.tr0 hs
      replace hb9 := hb9.tr0 hs
      clear hs
      have d0 : gg 25 = .bool true := hd 0 (dep_of (by kernel_rfl))
      have e25 := d0
      refine ⟨fun _ => ?_, fun hw => Bool.noConfusion (show true = false from hw)⟩
      refine os_know 25 (.bool true) e25 (by simp [undef]) ?_
      refine os_rv (r_not rfl) ⟨Same.refl _ _, ?_, frsh_no⟩
      exact rfl
    | 2, _, hoq =>
      obtain rfl : _ = o := Option.some.inj hoq
      have hs0 := hs
      replace hB := hB.tr0 hs
      replace hb3 := hb3.tr0 hs
      replace hb4 := hb4.tr0 hs
      replace hb20 := hb20.tr0 hs
      replace hB2 := hB2.tr0 hs
      replace hb7 := hb7.tr0 hs
      replace hb9 := hb9.tr0 hs
      clear hs
      have d1 : gg 26 = .bool false := hd 1 (dep_of (by kernel_rfl))
      have e26 := d1
      refine ⟨fun _ => ?_, fun hw => Bool.noConfusion (show true = false from hw)⟩
      refine os_know 26 (.bool false) e26 (by simp [undef]) ?_
      refine os_rv (r_mv (v := .bool _) rfl) ⟨Same.refl _ _, ?_, frsh_no⟩
      exact rfl
    | 3, _, hoq =>
      obtain rfl : _ = o := Option.some.inj hoq
      have hs0 := hs
      replace hB := hB.tr0 hs
      replace hb3 := hb3.tr0 hs
      replace hb4 := hb4.tr0 hs
      replace hb20 := hb20.tr0 hs
      replace hB2 := hB2.tr0 hs
      replace hb7 := hb7.tr0 hs
      replace hb9 := hb9.tr0 hs
      clear hs
      have d2 : gg 27 = .bool false := hd 2 (dep_of (by kernel_rfl))
      have e27 := d2
      refine guard_case 27 false rfl e27 (fun _ => ?_) (fun h => absurd h (by decide))
      refine os_know 27 (.bool false) e27 (by simp [undef]) ?_
      refine os_rv (r_ldS Tryd.underlying28 rfl rfl hb7.range0 sz28) ⟨Same.refl _ _, ?_, frsh_no⟩
      exact rfl
    | 4, _, hoq =>
      obtain rfl : _ = o := Option.some.inj hoq
      have hs0 := hs
      replace hB := hB.tr0 hs
      replace hb3 := hb3.tr0 hs
      replace hb4 := hb4.tr0 hs
      replace hb20 := hb20.tr0 hs
      replace hB2 := hB2.tr0 hs
      replace hb7 := hb7.tr0 hs
      replace hb9 := hb9.tr0 hs
      clear hs
      have d2 : gg 27 = .bool false := hd 2 (dep_of (by kernel_rfl))
      have e27 := d2
      refine guard_case 27 false rfl e27 (fun _ => ?_) (fun h => absurd h (by decide))
      refine os_know 27 (.bool false) e27 (by simp [undef]) ?_
      refine os_cl fn23 (single_any 2 wx) rfl (fun e' w2 hr => ?_)
      obtain ⟨⟨AS, rfl, hNS⟩, hs⟩ := hr
      exact ⟨_, rfl, Same.of_bel hs, ⟨_, rfl, hNS⟩, frsh_no⟩
    | 5, _, hoq =>
      obtain rfl : _ = o := Option.some.inj hoq
      have hs0 := hs
      replace hB := hB.tr0 hs
      replace hb3 := hb3.tr0 hs
      replace hb4 := hb4.tr0 hs
      replace hb20 := hb20.tr0 hs
      replace hB2 := hB2.tr0 hs
      replace hb7 := hb7.tr0 hs
      replace hb9 := hb9.tr0 hs
      clear hs
      have d2 : gg 27 = .bool false := hd 2 (dep_of (by kernel_rfl))
      have e27 := d2
      have d3 : gg 28 = .agg #[.slice GW 1 1] := hd 3 (dep_of (by kernel_rfl))
      have e28 := d3
      have d4 : ∃ AS, gg 29 = .agg #[.slice AS 1 1] ∧ NodesIn wx AS singG := hd 4 (dep_of (by kernel_rfl))
      obtain ⟨AS, e29, hNS⟩ := d4
      refine guard_case 27 false rfl e27 (fun _ => ?_) (fun h => absurd h (by decide))
      refine os_know 27 (.bool false) e27 (by simp [undef]) ?_
      refine os_know 28 (.agg #[.slice GW 1 1]) e28 (by simp [undef]) ?_
      refine os_know 29 (.agg #[.slice AS 1 1]) e29 (by simp [undef]) ?_
      refine os_cl fn15 (same_any GW AS 1 1 1 1 singG singG wx (hGW.mono hB2) hNS rfl rfl rfl) rfl (fun e' w2 hr => ?_)
      obtain ⟨rfl, hs⟩ := hr
      exact ⟨_, rfl, Same.of_bel hs, rfl, frsh_no⟩
    | 6, _, hoq =>
      obtain rfl : _ = o := Option.some.inj hoq
      have hs0 := hs
      replace hB := hB.tr0 hs
      replace hb3 := hb3.tr0 hs
      replace hb4 := hb4.tr0 hs
      replace hb20 := hb20.tr0 hs
      replace hB2 := hB2.tr0 hs
      replace hb7 := hb7.tr0 hs
      replace hb9 := hb9.tr0 hs
      clear hs
      have d2 : gg 27 = .bool false := hd 2 (dep_of (by kernel_rfl))
      have e27 := d2
      have d5 : gg 30 = .bool true := hd 5 (dep_of (by kernel_rfl))
      have e30 := d5
      refine guard_case 27 false rfl e27 (fun _ => ?_) (fun h => absurd h (by decide))
      refine os_know 27 (.bool false) e27 (by simp [undef]) ?_
      refine os_know 30 (.bool true) e30 (by simp [undef]) ?_
      refine os_rv (r_not rfl) ⟨Same.refl _ _, ?_, frsh_no⟩
      exact rfl
    | 7, _, hoq =>
      obtain rfl : _ = o := Option.some.inj hoq
      have hs0 := hs
      replace hB := hB.tr0 hs
      replace hb3 := hb3.tr0 hs
      replace hb4 := hb4.tr0 hs
      replace hb20 := hb20.tr0 hs
      replace hB2 := hB2.tr0 hs
      replace hb7 := hb7.tr0 hs
      replace hb9 := hb9.tr0 hs
      clear hs
      have d2 : gg 27 = .bool false := hd 2 (dep_of (by kernel_rfl))
      have e27 := d2
      have d6 : gg 31 = .bool false := hd 6 (dep_of (by kernel_rfl))
      have e31 := d6
      refine ⟨fun _ => ?_, fun hw => Bool.noConfusion (show true = false from hw)⟩
      refine os_know 27 (.bool false) e27 (by simp [undef]) ?_
      refine os_know 31 (.bool false) e31 (by simp [undef]) ?_
      refine os_rv (r_pf (v := .bool _) rfl rfl) ⟨Same.refl _ _, ?_, frsh_no⟩
      exact rfl
    | _ + 8, hix, _ => exact absurd hix (by omega)
  · intro gg w11 hs hR hdis
    have hs0 := hs
    replace hB := hB.tr0 hs
    replace hb3 := hb3.tr0 hs
    replace hb4 := hb4.tr0 hs
    replace hb20 := hb20.tr0 hs
    replace hB2 := hB2.tr0 hs
    replace hb7 := hb7.tr0 hs
    replace hb9 := hb9.tr0 hs
    clear hs
    have d7 : gg 32 = .bool false := hR 7 (by decide)
    have e32 := d7
    refine wl_know 32 (.bool false) e32 (by simp [undef]) ?_
    refine x_nil ?_
    refine e_S ?_
    refine c_if rfl (fun c32 => ?_) (fun c32 => ?_)
    · exact absurd c32 (by decide)
    · skip
      refine c_skip ?_
      refine e_S ?_
      refine c_seq ?_
      refine c_region ?_
      refine wl (r_ldS Tryd.underlying25 rfl rfl hb3.range0 sz25) ?_
      refine wl (r_ldS Tryd.underlying28 rfl rfl hb4.range0 sz28) ?_
      refine wl (r_mv (v := .slice _ _ _) rfl) ?_
      refine wl_cl fn22 (at_any A B G c d cg l fs gr _ PA cp p (hTab.mono hB) (hT.mono hB) (hF.mono hB) (hG.mono hB) (hP.mono hB)) rfl (fun e' w12 hr => ?_)
      obtain ⟨⟨AA, rfl, hNA, hAt⟩, hs⟩ := hr
      replace hs := Same.of_bel hs
      replace hB := hB.tr0 hs
      replace hb3 := hb3.tr0 hs
      replace hb4 := hb4.tr0 hs
      replace hb20 := hb20.tr0 hs
      replace hB2 := hB2.tr0 hs
      replace hb7 := hb7.tr0 hs
      replace hb9 := hb9.tr0 hs
      clear hs
      obtain ⟨wA, hwwA⟩ : ∃ x, x = w12 := ⟨_, rfl⟩
      have hBA : Bel wA w12 := by rw [hwwA]; exact Below.refl _ _
      rw [← hwwA] at hNA
      refine ⟨_, rfl, ?_⟩
      refine wl (r_mv (v := .tuple _) rfl) ?_
      refine wl (r_ex (v := .agg _) rfl rfl) ?_
      refine wl (r_ex (v := .bool _) rfl rfl) ?_
      refine wl (r_ex (v := .agg _) rfl rfl) ?_
      refine wl_al (cs := #[.slice none 0 0]) ze28 rfl (fun b10 w13 hb10 hs hr => ?_)
      have or_b3_b10 : b3 < b10 := Nat.lt_of_lt_of_le hb3.lt hr
      have or_b4_b10 : b4 < b10 := Nat.lt_of_lt_of_le hb4.lt hr
      have or_b20_b10 : b20 < b10 := Nat.lt_of_lt_of_le hb20.lt hr
      have or_b7_b10 : b7 < b10 := Nat.lt_of_lt_of_le hb7.lt hr
      have or_b9_b10 : b9 < b10 := Nat.lt_of_lt_of_le hb9.lt hr
      have lo10 := Nat.le_trans (Bel.size hB) hr
      have lo_hBA_b10 := Nat.le_trans (Bel.size hBA) hr
      replace hB := hB.tr0 hs
      replace hb3 := hb3.tr0 hs
      replace hb4 := hb4.tr0 hs
      replace hb20 := hb20.tr0 hs
      replace hb7 := hb7.tr0 hs
      replace hb9 := hb9.tr0 hs
      replace hBA := hBA.tr0 hs
      clear hs
      clear hr
      refine wl_al (cs := #[.int .i64 0, .int .i64 0]) ze30 rfl (fun b12 w14 hb12 hs hr => ?_)
      have or_b3_b12 : b3 < b12 := Nat.lt_of_lt_of_le hb3.lt hr
      have or_b4_b12 : b4 < b12 := Nat.lt_of_lt_of_le hb4.lt hr
      have or_b20_b12 : b20 < b12 := Nat.lt_of_lt_of_le hb20.lt hr
      have or_b7_b12 : b7 < b12 := Nat.lt_of_lt_of_le hb7.lt hr
      have or_b9_b12 : b9 < b12 := Nat.lt_of_lt_of_le hb9.lt hr
      have or_b10_b12 : b10 < b12 := Nat.lt_of_lt_of_le hb10.lt hr
      have lo12 := Nat.le_trans (Bel.size hB) hr
      have lo_hBA_b12 := Nat.le_trans (Bel.size hBA) hr
      replace hB := hB.tr0 hs
      replace hb3 := hb3.tr0 hs
      replace hb4 := hb4.tr0 hs
      replace hb20 := hb20.tr0 hs
      replace hb7 := hb7.tr0 hs
      replace hb9 := hb9.tr0 hs
      replace hBA := hBA.tr0 hs
      replace hb10 := hb10.tr0 hs
      clear hs
      clear hr
      refine wl_stW hb10 rfl rfl sz28 rfl (by repeat (first | rfl | refine one_cons (by first | rfl | assumption) ?_)) (fun w15 hq hs => ?_)
      replace hB := hB.tr1 hs lo10
      replace hb3 := hb3.tr1 hs (by omega)
      replace hb4 := hb4.tr1 hs (by omega)
      replace hb20 := hb20.tr1 hs (by omega)
      replace hb7 := hb7.tr1 hs (by omega)
      replace hb9 := hb9.tr1 hs (by omega)
      replace hBA := hBA.tr1 hs lo_hBA_b10
      replace hb12 := hb12.tr1 hs (by omega)
      clear hs
      replace hb10 := hq
      refine wl (r_as (v := .bool _) rfl) ?_
      refine wl_stW hb12 rfl rfl sz30 rfl (by repeat (first | rfl | refine one_cons (by first | rfl | assumption) ?_)) (fun w16 hq hs => ?_)
      replace hB := hB.tr1 hs lo12
      replace hb3 := hb3.tr1 hs (by omega)
      replace hb4 := hb4.tr1 hs (by omega)
      replace hb20 := hb20.tr1 hs (by omega)
      replace hb7 := hb7.tr1 hs (by omega)
      replace hb9 := hb9.tr1 hs (by omega)
      replace hBA := hBA.tr1 hs lo_hBA_b12
      replace hb10 := hb10.tr1 hs (by omega)
      clear hs
      replace hb12 := hq
      refine x_nil ?_
      refine e_S ?_
      refine c_seq ?_
      refine c_region ?_
      refine wl (r_ldS Tryd.underlying25 rfl rfl hb3.range0 sz25) ?_
      refine wl (r_ldS Tryd.underlying28 rfl rfl hb4.range0 sz28) ?_
      refine wl_cl fn11 (gfau_any A B G c d cg l fs gr _ hcl hdl (hT.mono hB) (hF.mono hB) (hG.mono hB)) rfl (fun e' w17 hr => ?_)
      obtain ⟨rfl, hs⟩ := hr
      replace hs := Same.of_bel hs
      replace hB := hB.tr0 hs
      replace hb3 := hb3.tr0 hs
      replace hb4 := hb4.tr0 hs
      replace hb20 := hb20.tr0 hs
      replace hb7 := hb7.tr0 hs
      replace hb9 := hb9.tr0 hs
      replace hBA := hBA.tr0 hs
      replace hb10 := hb10.tr0 hs
      replace hb12 := hb12.tr0 hs
      clear hs
      refine ⟨_, rfl, ?_⟩
      refine wl_al (cs := #[.int .i64 0, .int .i64 0]) ze30 rfl (fun b13 w18 hb13 hs hr => ?_)
      have or_b3_b13 : b3 < b13 := Nat.lt_of_lt_of_le hb3.lt hr
      have or_b4_b13 : b4 < b13 := Nat.lt_of_lt_of_le hb4.lt hr
      have or_b20_b13 : b20 < b13 := Nat.lt_of_lt_of_le hb20.lt hr
      have or_b7_b13 : b7 < b13 := Nat.lt_of_lt_of_le hb7.lt hr
      have or_b9_b13 : b9 < b13 := Nat.lt_of_lt_of_le hb9.lt hr
      have or_b10_b13 : b10 < b13 := Nat.lt_of_lt_of_le hb10.lt hr
      have or_b12_b13 : b12 < b13 := Nat.lt_of_lt_of_le hb12.lt hr
      have lo13 := Nat.le_trans (Bel.size hB) hr
      have lo_hBA_b13 := Nat.le_trans (Bel.size hBA) hr
      replace hB := hB.tr0 hs
      replace hb3 := hb3.tr0 hs
      replace hb4 := hb4.tr0 hs
      replace hb20 := hb20.tr0 hs
      replace hb7 := hb7.tr0 hs
      replace hb9 := hb9.tr0 hs
      replace hBA := hBA.tr0 hs
      replace hb10 := hb10.tr0 hs
      replace hb12 := hb12.tr0 hs
      clear hs
      clear hr
      refine wl_stW hb13 rfl rfl sz30 rfl (by repeat (first | rfl | refine one_cons (by first | rfl | assumption) ?_)) (fun w19 hq hs => ?_)
      replace hB := hB.tr1 hs lo13
      replace hb3 := hb3.tr1 hs (by omega)
      replace hb4 := hb4.tr1 hs (by omega)
      replace hb20 := hb20.tr1 hs (by omega)
      replace hb7 := hb7.tr1 hs (by omega)
      replace hb9 := hb9.tr1 hs (by omega)
      replace hBA := hBA.tr1 hs lo_hBA_b13
      replace hb10 := hb10.tr1 hs (by omega)
      replace hb12 := hb12.tr1 hs (by omega)
      clear hs
      replace hb13 := hq
      refine x_nil ?_
      refine e_S ?_
      refine c_seq ?_
      refine c_seq ?_
      refine c_cut1 [44, 45, 46, 47, 48, 49, 50, 51] 51 (.bool (decide ((graphF l fs gr).1 = 0 ∧ (300 : Int) < (p.length : Int)))) (by simp [undef]) ?_ (fun gq => ?_)
      · refine c_region ?_
        refine wl (r_fa Tryd.underlying30 sz3 (by decide) rfl rfl rfl) ?_
        refine wl (r_ld1 (v := .int _ _) Tryd.underlying3 rfl rfl (hb13.cell rfl)) ?_
        refine wl (r_eql rfl rfl) ?_
        refine wl (r_mv (v := .bool _) rfl) ?_
        refine wl_casesd 47 rfl (fun g47 => ?_) (fun g47 => ?_)
        · skip
          refine wl_gd 47 rfl rfl ?_
          refine wl (r_mv (v := .slice _ _ _) rfl) ?_
          refine wl_gd 47 rfl rfl ?_
          refine wl (r_len Tryd.underlying52 rfl) ?_
          refine wl_gd 47 rfl rfl ?_
          refine wl (r_gtr rfl rfl) ?_
          refine wl (r_pt (v := .bool _) rfl rfl) ?_
          refine x_nil (e_R ⟨rfl, (by repeat (first | exact ag_refl | exact ag_ovr' | refine ag_upd rfl ?_ | refine ag_sub rfl ?_ | refine ag_kn (by assumption) ?_)), ?_⟩)
          show Value.bool _ = Value.bool _
          first | exact congrArg Value.bool (decide_eq_true (by omega)).symm | exact congrArg Value.bool (decide_eq_false (by omega)).symm | exact congrArg Value.bool (decide_eq_decide.2 (by omega)) | exact congrArg Value.bool ((decide_not).symm.trans (decide_eq_decide.2 (by omega)))
        · skip
          refine wlgn 47 rfl rfl rfl ?_
          refine wlgn 47 rfl rfl rfl ?_
          refine wlgn 47 rfl rfl rfl ?_
          refine wl (r_pf (v := .bool _) rfl rfl) ?_
          refine x_nil (e_R ⟨rfl, (by repeat (first | exact ag_refl | exact ag_ovr' | refine ag_upd rfl ?_ | refine ag_sub rfl ?_ | refine ag_kn (by assumption) ?_)), ?_⟩)
          show Value.bool _ = Value.bool _
          first | exact congrArg Value.bool (decide_eq_true (by omega)).symm | exact congrArg Value.bool (decide_eq_false (by omega)).symm | exact congrArg Value.bool (decide_eq_decide.2 (by omega)) | exact congrArg Value.bool ((decide_not).symm.trans (decide_eq_decide.2 (by omega)))
      refine e_S ?_
      refine c_ifd rfl (fun c51 => ?_) (fun c51 => ?_)
      · skip
        refine c_region ?_
        refine wl (r_bd2 (v0 := .int _ _) (v1 := .int _ _) (fun v0 v1 => #[v0, v1]) rfl rfl (by kernel_rfl)) ?_
        refine wl_stW hb13 rfl rfl sz30 rfl (by repeat (first | rfl | refine one_cons (by first | rfl | assumption) ?_)) (fun w20 hq hs => ?_)
        replace hB := hB.tr1 hs lo13
        replace hb3 := hb3.tr1 hs (by omega)
        replace hb4 := hb4.tr1 hs (by omega)
        replace hb20 := hb20.tr1 hs (by omega)
        replace hb7 := hb7.tr1 hs (by omega)
        replace hb9 := hb9.tr1 hs (by omega)
        replace hBA := hBA.tr1 hs lo_hBA_b13
        replace hb10 := hb10.tr1 hs (by omega)
        replace hb12 := hb12.tr1 hs (by omega)
        clear hs
        replace hb13 := hq
        obtain ⟨z, hz, hWz⟩ : ∃ zq : Fl, zq = (2, -3) ∧ Want l fs gr p 0 zq := ⟨_, rfl, want_l c51.1 (by omega)⟩
        replace hb13 : Blk w20 b13 30 #[.int .i64 z.1, .int .i64 z.2] := by rw [hz]; exact hb13
        refine x_nil ?_
        refine e_S ?_
        refine c_seq ?_
        refine c_seq ?_
        refine c_region ?_
        refine wl (r_as (v := .int _ _) rfl) ?_
        refine x_nil ?_
        refine e_S ?_
        refine c_block ?_
        refine c_loopS [14, 53, 54, 55, 56, 57, 58, 59, 60, 61, 62, 63, 64, 65, 66, 67, 68, 69, 70, 71, 72, 73, 74, 75, 76, 77, 78, 79, 80] (fun m g w' => ∃ (k : Nat) (z : Fl), k ≤ p.length ∧ m = p.length - k ∧ g 14 = .int .i64 k ∧ Bel w w' ∧ Bel wA w' ∧ Blk w' b3 25 #[.slice A l.length c, .slice B fs.length d] ∧ Blk w' b4 28 #[.slice G gr.length cg] ∧ Blk w' b10 28 #[.slice AA (atG l fs gr p).length (atG l fs gr p).length] ∧ Blk w' b12 30 #[.int .i64 (atF l fs gr p).1, .int .i64 (atF l fs gr p).2] ∧ Blk w' b13 30 #[.int .i64 z.1, .int .i64 z.2] ∧ Want l fs gr p k z) (p.length) ?_ (fun m g9 w21 hI => ?_)
        · exact ⟨0, z, Nat.zero_le _, rfl, rfl, hB, hBA, hb3, hb4, hb10, hb12, hb13, hWz⟩
        obtain ⟨k, z, hkk, hm, h14, hB, hBA, hb3, hb4, hb10, hb12, hb13, hWk⟩ := hI
        refine c_know 14 (.int .i64 k) h14 (by simp [undef]) ?_
        refine c_seq ?_
        refine c_seq ?_
        refine c_cut1 [53, 54, 55, 56, 57, 58, 59, 60, 61] 61 (.bool (decide ((k : Int) < (p.length : Int) ∧ z.1 = 0))) (by simp [undef]) ?_ (fun gq => ?_)
        · refine c_region ?_
          refine wl (r_mv (v := .int _ _) rfl) ?_
          refine wl (r_mv (v := .slice _ _ _) rfl) ?_
          refine wl (r_len Tryd.underlying52 rfl) ?_
          refine wl (r_lss rfl rfl) ?_
          refine wl (r_mv (v := .bool _) rfl) ?_
          refine wl_casesd 57 rfl (fun g57 => ?_) (fun g57 => ?_)
          · skip
            refine wl_gd 57 rfl rfl ?_
            refine wl (r_fa Tryd.underlying30 sz3 (by decide) rfl rfl rfl) ?_
            refine wl_gd 57 rfl rfl ?_
            refine wl (r_ld1 (v := .int _ _) Tryd.underlying3 rfl rfl (hb13.cell rfl)) ?_
            refine wl_gd 57 rfl rfl ?_
            refine wl (r_eql rfl rfl) ?_
            refine wl (r_pt (v := .bool _) rfl rfl) ?_
            refine x_nil (e_R ⟨rfl, (by repeat (first | exact ag_refl | exact ag_ovr' | refine ag_upd rfl ?_ | refine ag_sub rfl ?_ | refine ag_kn (by assumption) ?_)), ?_⟩)
            show Value.bool _ = Value.bool _
            first | exact congrArg Value.bool (decide_eq_true (by omega)).symm | exact congrArg Value.bool (decide_eq_false (by omega)).symm | exact congrArg Value.bool (decide_eq_decide.2 (by omega)) | exact congrArg Value.bool ((decide_not).symm.trans (decide_eq_decide.2 (by omega)))
          · skip
            refine wlgn 57 rfl rfl rfl ?_
            refine wlgn 57 rfl rfl rfl ?_
            refine wlgn 57 rfl rfl rfl ?_
            refine wl (r_pf (v := .bool _) rfl rfl) ?_
            refine x_nil (e_R ⟨rfl, (by repeat (first | exact ag_refl | exact ag_ovr' | refine ag_upd rfl ?_ | refine ag_sub rfl ?_ | refine ag_kn (by assumption) ?_)), ?_⟩)
            show Value.bool _ = Value.bool _
            first | exact congrArg Value.bool (decide_eq_true (by omega)).symm | exact congrArg Value.bool (decide_eq_false (by omega)).symm | exact congrArg Value.bool (decide_eq_decide.2 (by omega)) | exact congrArg Value.bool ((decide_not).symm.trans (decide_eq_decide.2 (by omega)))
        refine e_S ?_
        refine c_ifd rfl (fun c61 => ?_) (fun c61 => ?_)
        · have hlt : k < p.length := by omega
          have hz0 := c61.2
          obtain ⟨pb, po, rfl, hpb, hpc⟩ := hP.at_ hlt
          refine c_skip ?_
          refine e_S ?_
          refine c_seq ?_
          refine c_block ?_
          refine c_seq ?_
          refine c_monoGO 15 [64, 65, 66, 67, 68, 69, 70, 71, 72, 73, 74, 75, 76, 77, 78] (fun _ => false) (fun ix v wv => match ix with | 0 => v = .slice (some ⟨pb, po, none⟩) p.length cp | 1 => v = .int .i64 k | 2 => v = .pointer (some ⟨pb, po + k * 1, none⟩) | 3 => v = .int .i64 (p[k]'hlt) | 4 => v = .bool (decide ((p[k]'hlt) < 0)) | 5 => v = .bool (decide ((p[k]'hlt) < 0)) | 6 => (((decide ((p[k]'hlt) < 0))) = false → v = .slice (some ⟨pb, po, none⟩) p.length cp) ∧ (((decide ((p[k]'hlt) < 0))) = true → v = undef) | 7 => (((decide ((p[k]'hlt) < 0))) = false → v = .int .i64 k) ∧ (((decide ((p[k]'hlt) < 0))) = true → v = undef) | 8 => (((decide ((p[k]'hlt) < 0))) = false → v = .pointer (some ⟨pb, po + k * 1, none⟩)) ∧ (((decide ((p[k]'hlt) < 0))) = true → v = undef) | 9 => (((decide ((p[k]'hlt) < 0))) = false → v = .int .i64 (p[k]'hlt)) ∧ (((decide ((p[k]'hlt) < 0))) = true → v = undef) | 10 => (((decide ((p[k]'hlt) < 0))) = false → v = .pointer (some ⟨b3, 1, none⟩)) ∧ (((decide ((p[k]'hlt) < 0))) = true → v = undef) | 11 => (((decide ((p[k]'hlt) < 0))) = false → v = .slice B fs.length d) ∧ (((decide ((p[k]'hlt) < 0))) = true → v = undef) | 12 => (((decide ((p[k]'hlt) < 0))) = false → v = .int .i64 fs.length) ∧ (((decide ((p[k]'hlt) < 0))) = true → v = undef) | 13 => (((decide ((p[k]'hlt) < 0))) = false → v = .bool (decide ((fs.length : Int) ≤ (p[k]'hlt)))) ∧ (((decide ((p[k]'hlt) < 0))) = true → v = undef) | 14 => v = .bool (decide ((p[k]'hlt) < 0) || decide ((fs.length : Int) ≤ (p[k]'hlt))) | _ => True) (by kernel_rfl) (by kernel_rfl) ?_ ?_ ?_
          · intro ix v wv wv2 h hs
            match ix, h with
            | 0, h => exact h
            | 1, h => exact h
            | 2, h => exact h
            | 3, h => exact h
            | 4, h => exact h
            | 5, h => exact h
            | 6, h => exact h
            | 7, h => exact h
            | 8, h => exact h
            | 9, h => exact h
            | 10, h => exact h
            | 11, h => exact h
            | 12, h => exact h
            | 13, h => exact h
            | 14, h => exact h
            | _ + 15, h => exact trivial
          · intro ix o hix hoq gg wx hs hd hdis
            match ix, hix, hoq with
            | 0, _, hoq =>
              obtain rfl : _ = o := Option.some.inj hoq
              have hs0 := hs
              replace hB := hB.tr0 hs
              replace hb3 := hb3.tr0 hs
              replace hb4 := hb4.tr0 hs
              replace hBA := hBA.tr0 hs
              replace hb10 := hb10.tr0 hs
              replace hb12 := hb12.tr0 hs
              replace hb13 := hb13.tr0 hs
              clear hs
              refine ⟨fun _ => ?_, fun hw => Bool.noConfusion (show true = false from hw)⟩
              refine os_rv (r_mv (v := .slice _ _ _) rfl) ⟨Same.refl _ _, ?_, frsh_no⟩
              exact rfl
            | 1, _, hoq =>
              obtain rfl : _ = o := Option.some.inj hoq
              have hs0 := hs
              replace hB := hB.tr0 hs
              replace hb3 := hb3.tr0 hs
              replace hb4 := hb4.tr0 hs
              replace hBA := hBA.tr0 hs
              replace hb10 := hb10.tr0 hs
              replace hb12 := hb12.tr0 hs
              replace hb13 := hb13.tr0 hs
              clear hs
              refine ⟨fun _ => ?_, fun hw => Bool.noConfusion (show true = false from hw)⟩
              refine os_rv (r_mv (v := .int _ _) rfl) ⟨Same.refl _ _, ?_, frsh_no⟩
              exact rfl
            | 2, _, hoq =>
              obtain rfl : _ = o := Option.some.inj hoq
              have hs0 := hs
              replace hB := hB.tr0 hs
              replace hb3 := hb3.tr0 hs
              replace hb4 := hb4.tr0 hs
              replace hBA := hBA.tr0 hs
              replace hb10 := hb10.tr0 hs
              replace hb12 := hb12.tr0 hs
              replace hb13 := hb13.tr0 hs
              clear hs
              have d0 : gg 64 = .slice (some ⟨pb, po, none⟩) p.length cp := hd 0 (dep_of (by kernel_rfl))
              have e64 := d0
              have d1 : gg 65 = .int .i64 k := hd 1 (dep_of (by kernel_rfl))
              have e65 := d1
              refine ⟨fun _ => ?_, fun hw => Bool.noConfusion (show true = false from hw)⟩
              refine os_know 64 (.slice (some ⟨pb, po, none⟩) p.length cp) e64 (by simp [undef]) ?_
              refine os_know 65 (.int .i64 k) e65 (by simp [undef]) ?_
              refine os_rv (r_ia (i := k) Tryd.underlying52 sz3 rfl rfl (by omega) rfl) ⟨Same.refl _ _, ?_, frsh_no⟩
              exact rfl
            | 3, _, hoq =>
              obtain rfl : _ = o := Option.some.inj hoq
              have hs0 := hs
              replace hB := hB.tr0 hs
              replace hb3 := hb3.tr0 hs
              replace hb4 := hb4.tr0 hs
              replace hBA := hBA.tr0 hs
              replace hb10 := hb10.tr0 hs
              replace hb12 := hb12.tr0 hs
              replace hb13 := hb13.tr0 hs
              clear hs
              have d2 : gg 66 = .pointer (some ⟨pb, po + k * 1, none⟩) := hd 2 (dep_of (by kernel_rfl))
              have e66 := d2
              refine ⟨fun _ => ?_, fun hw => Bool.noConfusion (show true = false from hw)⟩
              refine os_know 66 (.pointer (some ⟨pb, po + k * 1, none⟩)) e66 (by simp [undef]) ?_
              refine os_rv (r_ld1 (v := .int _ _) Tryd.underlying3 rfl rfl (hB.cell hpb hpc)) ⟨Same.refl _ _, ?_, frsh_no⟩
              exact rfl
            | 4, _, hoq =>
              obtain rfl : _ = o := Option.some.inj hoq
              have hs0 := hs
              replace hB := hB.tr0 hs
              replace hb3 := hb3.tr0 hs
              replace hb4 := hb4.tr0 hs
              replace hBA := hBA.tr0 hs
              replace hb10 := hb10.tr0 hs
              replace hb12 := hb12.tr0 hs
              replace hb13 := hb13.tr0 hs
              clear hs
              have d3 : gg 67 = .int .i64 (p[k]'hlt) := hd 3 (dep_of (by kernel_rfl))
              have e67 := d3
              refine ⟨fun _ => ?_, fun hw => Bool.noConfusion (show true = false from hw)⟩
              refine os_know 67 (.int .i64 (p[k]'hlt)) e67 (by simp [undef]) ?_
              refine os_rv (r_lss rfl rfl) ⟨Same.refl _ _, ?_, frsh_no⟩
              exact rfl
            | 5, _, hoq =>
              obtain rfl : _ = o := Option.some.inj hoq
              have hs0 := hs
              replace hB := hB.tr0 hs
              replace hb3 := hb3.tr0 hs
              replace hb4 := hb4.tr0 hs
              replace hBA := hBA.tr0 hs
              replace hb10 := hb10.tr0 hs
              replace hb12 := hb12.tr0 hs
              replace hb13 := hb13.tr0 hs
              clear hs
              have d4 : gg 68 = .bool (decide ((p[k]'hlt) < 0)) := hd 4 (dep_of (by kernel_rfl))
              have e68 := d4
              refine ⟨fun _ => ?_, fun hw => Bool.noConfusion (show true = false from hw)⟩
              refine os_know 68 (.bool (decide ((p[k]'hlt) < 0))) e68 (by simp [undef]) ?_
              refine os_rv (r_mv (v := .bool _) rfl) ⟨Same.refl _ _, ?_, frsh_no⟩
              exact rfl
            | 6, _, hoq =>
              obtain rfl : _ = o := Option.some.inj hoq
              have hs0 := hs
              replace hB := hB.tr0 hs
              replace hb3 := hb3.tr0 hs
              replace hb4 := hb4.tr0 hs
              replace hBA := hBA.tr0 hs
              replace hb10 := hb10.tr0 hs
              replace hb12 := hb12.tr0 hs
              replace hb13 := hb13.tr0 hs
              clear hs
              have d5 : gg 69 = .bool (decide ((p[k]'hlt) < 0)) := hd 5 (dep_of (by kernel_rfl))
              have e69 := d5
              refine guard_case 69 ((decide ((p[k]'hlt) < 0))) rfl e69 (fun hgc => ?_) (fun hgc => ⟨fun h => absurd (h.symm.trans hgc) (by decide), fun _ => rfl⟩)
              refine os_know 69 (.bool (decide ((p[k]'hlt) < 0))) e69 (by simp [undef]) ?_
              refine os_rv (r_mv (v := .slice _ _ _) rfl) ⟨Same.refl _ _, ?_, frsh_no⟩
              exact ⟨fun _ => rfl, fun h => absurd (h.symm.trans hgc) (by decide)⟩
            | 7, _, hoq =>
              obtain rfl : _ = o := Option.some.inj hoq
              have hs0 := hs
              replace hB := hB.tr0 hs
              replace hb3 := hb3.tr0 hs
              replace hb4 := hb4.tr0 hs
              replace hBA := hBA.tr0 hs
              replace hb10 := hb10.tr0 hs
              replace hb12 := hb12.tr0 hs
              replace hb13 := hb13.tr0 hs
              clear hs
              have d5 : gg 69 = .bool (decide ((p[k]'hlt) < 0)) := hd 5 (dep_of (by kernel_rfl))
              have e69 := d5
              refine guard_case 69 ((decide ((p[k]'hlt) < 0))) rfl e69 (fun hgc => ?_) (fun hgc => ⟨fun h => absurd (h.symm.trans hgc) (by decide), fun _ => rfl⟩)
              refine os_know 69 (.bool (decide ((p[k]'hlt) < 0))) e69 (by simp [undef]) ?_
              refine os_rv (r_mv (v := .int _ _) rfl) ⟨Same.refl _ _, ?_, frsh_no⟩
              exact ⟨fun _ => rfl, fun h => absurd (h.symm.trans hgc) (by decide)⟩
            | 8, _, hoq =>
              obtain rfl : _ = o := Option.some.inj hoq
              have hs0 := hs
              replace hB := hB.tr0 hs
              replace hb3 := hb3.tr0 hs
              replace hb4 := hb4.tr0 hs
              replace hBA := hBA.tr0 hs
              replace hb10 := hb10.tr0 hs
              replace hb12 := hb12.tr0 hs
              replace hb13 := hb13.tr0 hs
              clear hs
              have d5 : gg 69 = .bool (decide ((p[k]'hlt) < 0)) := hd 5 (dep_of (by kernel_rfl))
              have e69 := d5
              have d6 : (((decide ((p[k]'hlt) < 0))) = false → gg 70 = .slice (some ⟨pb, po, none⟩) p.length cp) ∧ (((decide ((p[k]'hlt) < 0))) = true → gg 70 = undef) := hd 6 (dep_of (by kernel_rfl))
              have d7 : (((decide ((p[k]'hlt) < 0))) = false → gg 71 = .int .i64 k) ∧ (((decide ((p[k]'hlt) < 0))) = true → gg 71 = undef) := hd 7 (dep_of (by kernel_rfl))
              refine guard_case 69 ((decide ((p[k]'hlt) < 0))) rfl e69 (fun hgc => ?_) (fun hgc => ⟨fun h => absurd (h.symm.trans hgc) (by decide), fun _ => rfl⟩)
              have e70 := d6.1 hgc
              have e71 := d7.1 hgc
              refine os_know 69 (.bool (decide ((p[k]'hlt) < 0))) e69 (by simp [undef]) ?_
              refine os_know 70 (.slice (some ⟨pb, po, none⟩) p.length cp) e70 (by simp [undef]) ?_
              refine os_know 71 (.int .i64 k) e71 (by simp [undef]) ?_
              refine os_rv (r_ia (i := k) Tryd.underlying52 sz3 rfl rfl (by omega) rfl) ⟨Same.refl _ _, ?_, frsh_no⟩
              exact ⟨fun _ => rfl, fun h => absurd (h.symm.trans hgc) (by decide)⟩
            | 9, _, hoq =>
              obtain rfl : _ = o := Option.some.inj hoq
              have hs0 := hs
              replace hB := hB.tr0 hs
              replace hb3 := hb3.tr0 hs
              replace hb4 := hb4.tr0 hs
              replace hBA := hBA.tr0 hs
              replace hb10 := hb10.tr0 hs
              replace hb12 := hb12.tr0 hs
              replace hb13 := hb13.tr0 hs
              clear hs
              have d5 : gg 69 = .bool (decide ((p[k]'hlt) < 0)) := hd 5 (dep_of (by kernel_rfl))
              have e69 := d5
              have d8 : (((decide ((p[k]'hlt) < 0))) = false → gg 72 = .pointer (some ⟨pb, po + k * 1, none⟩)) ∧ (((decide ((p[k]'hlt) < 0))) = true → gg 72 = undef) := hd 8 (dep_of (by kernel_rfl))
              refine guard_case 69 ((decide ((p[k]'hlt) < 0))) rfl e69 (fun hgc => ?_) (fun hgc => ⟨fun h => absurd (h.symm.trans hgc) (by decide), fun _ => rfl⟩)
              have e72 := d8.1 hgc
              refine os_know 69 (.bool (decide ((p[k]'hlt) < 0))) e69 (by simp [undef]) ?_
              refine os_know 72 (.pointer (some ⟨pb, po + k * 1, none⟩)) e72 (by simp [undef]) ?_
              refine os_rv (r_ld1 (v := .int _ _) Tryd.underlying3 rfl rfl (hB.cell hpb hpc)) ⟨Same.refl _ _, ?_, frsh_no⟩
              exact ⟨fun _ => rfl, fun h => absurd (h.symm.trans hgc) (by decide)⟩
            | 10, _, hoq =>
              obtain rfl : _ = o := Option.some.inj hoq
              have hs0 := hs
              replace hB := hB.tr0 hs
              replace hb3 := hb3.tr0 hs
              replace hb4 := hb4.tr0 hs
              replace hBA := hBA.tr0 hs
              replace hb10 := hb10.tr0 hs
              replace hb12 := hb12.tr0 hs
              replace hb13 := hb13.tr0 hs
              clear hs
              have d5 : gg 69 = .bool (decide ((p[k]'hlt) < 0)) := hd 5 (dep_of (by kernel_rfl))
              have e69 := d5
              refine guard_case 69 ((decide ((p[k]'hlt) < 0))) rfl e69 (fun hgc => ?_) (fun hgc => ⟨fun h => absurd (h.symm.trans hgc) (by decide), fun _ => rfl⟩)
              refine os_know 69 (.bool (decide ((p[k]'hlt) < 0))) e69 (by simp [undef]) ?_
              refine os_rv (r_fa Tryd.underlying25 sz23 (by decide) rfl rfl rfl) ⟨Same.refl _ _, ?_, frsh_no⟩
              exact ⟨fun _ => rfl, fun h => absurd (h.symm.trans hgc) (by decide)⟩
            | 11, _, hoq =>
              obtain rfl : _ = o := Option.some.inj hoq
              have hs0 := hs
              replace hB := hB.tr0 hs
              replace hb3 := hb3.tr0 hs
              replace hb4 := hb4.tr0 hs
              replace hBA := hBA.tr0 hs
              replace hb10 := hb10.tr0 hs
              replace hb12 := hb12.tr0 hs
              replace hb13 := hb13.tr0 hs
              clear hs
              have d5 : gg 69 = .bool (decide ((p[k]'hlt) < 0)) := hd 5 (dep_of (by kernel_rfl))
              have e69 := d5
              have d10 : (((decide ((p[k]'hlt) < 0))) = false → gg 74 = .pointer (some ⟨b3, 1, none⟩)) ∧ (((decide ((p[k]'hlt) < 0))) = true → gg 74 = undef) := hd 10 (dep_of (by kernel_rfl))
              refine guard_case 69 ((decide ((p[k]'hlt) < 0))) rfl e69 (fun hgc => ?_) (fun hgc => ⟨fun h => absurd (h.symm.trans hgc) (by decide), fun _ => rfl⟩)
              have e74 := d10.1 hgc
              refine os_know 69 (.bool (decide ((p[k]'hlt) < 0))) e69 (by simp [undef]) ?_
              refine os_know 74 (.pointer (some ⟨b3, 1, none⟩)) e74 (by simp [undef]) ?_
              refine os_rv (r_ld1 (v := .slice _ _ _) Tryd.underlying23 rfl rfl (hb3.cell rfl)) ⟨Same.refl _ _, ?_, frsh_no⟩
              exact ⟨fun _ => rfl, fun h => absurd (h.symm.trans hgc) (by decide)⟩
            | 12, _, hoq =>
              obtain rfl : _ = o := Option.some.inj hoq
              have hs0 := hs
              replace hB := hB.tr0 hs
              replace hb3 := hb3.tr0 hs
              replace hb4 := hb4.tr0 hs
              replace hBA := hBA.tr0 hs
              replace hb10 := hb10.tr0 hs
              replace hb12 := hb12.tr0 hs
              replace hb13 := hb13.tr0 hs
              clear hs
              have d5 : gg 69 = .bool (decide ((p[k]'hlt) < 0)) := hd 5 (dep_of (by kernel_rfl))
              have e69 := d5
              have d11 : (((decide ((p[k]'hlt) < 0))) = false → gg 75 = .slice B fs.length d) ∧ (((decide ((p[k]'hlt) < 0))) = true → gg 75 = undef) := hd 11 (dep_of (by kernel_rfl))
              refine guard_case 69 ((decide ((p[k]'hlt) < 0))) rfl e69 (fun hgc => ?_) (fun hgc => ⟨fun h => absurd (h.symm.trans hgc) (by decide), fun _ => rfl⟩)
              have e75 := d11.1 hgc
              refine os_know 69 (.bool (decide ((p[k]'hlt) < 0))) e69 (by simp [undef]) ?_
              refine os_know 75 (.slice B fs.length d) e75 (by simp [undef]) ?_
              refine os_rv (r_len Tryd.underlying23 rfl) ⟨Same.refl _ _, ?_, frsh_no⟩
              exact ⟨fun _ => rfl, fun h => absurd (h.symm.trans hgc) (by decide)⟩
            | 13, _, hoq =>
              obtain rfl : _ = o := Option.some.inj hoq
              have hs0 := hs
              replace hB := hB.tr0 hs
              replace hb3 := hb3.tr0 hs
              replace hb4 := hb4.tr0 hs
              replace hBA := hBA.tr0 hs
              replace hb10 := hb10.tr0 hs
              replace hb12 := hb12.tr0 hs
              replace hb13 := hb13.tr0 hs
              clear hs
              have d5 : gg 69 = .bool (decide ((p[k]'hlt) < 0)) := hd 5 (dep_of (by kernel_rfl))
              have e69 := d5
              have d9 : (((decide ((p[k]'hlt) < 0))) = false → gg 73 = .int .i64 (p[k]'hlt)) ∧ (((decide ((p[k]'hlt) < 0))) = true → gg 73 = undef) := hd 9 (dep_of (by kernel_rfl))
              have d12 : (((decide ((p[k]'hlt) < 0))) = false → gg 76 = .int .i64 fs.length) ∧ (((decide ((p[k]'hlt) < 0))) = true → gg 76 = undef) := hd 12 (dep_of (by kernel_rfl))
              refine guard_case 69 ((decide ((p[k]'hlt) < 0))) rfl e69 (fun hgc => ?_) (fun hgc => ⟨fun h => absurd (h.symm.trans hgc) (by decide), fun _ => rfl⟩)
              have e73 := d9.1 hgc
              have e76 := d12.1 hgc
              refine os_know 69 (.bool (decide ((p[k]'hlt) < 0))) e69 (by simp [undef]) ?_
              refine os_know 73 (.int .i64 (p[k]'hlt)) e73 (by simp [undef]) ?_
              refine os_know 76 (.int .i64 fs.length) e76 (by simp [undef]) ?_
              refine os_rv (r_geq rfl rfl) ⟨Same.refl _ _, ?_, frsh_no⟩
              exact ⟨fun _ => rfl, fun h => absurd (h.symm.trans hgc) (by decide)⟩
            | 14, _, hoq =>
              obtain rfl : _ = o := Option.some.inj hoq
              have hs0 := hs
              replace hB := hB.tr0 hs
              replace hb3 := hb3.tr0 hs
              replace hb4 := hb4.tr0 hs
              replace hBA := hBA.tr0 hs
              replace hb10 := hb10.tr0 hs
              replace hb12 := hb12.tr0 hs
              replace hb13 := hb13.tr0 hs
              clear hs
              have d5 : gg 69 = .bool (decide ((p[k]'hlt) < 0)) := hd 5 (dep_of (by kernel_rfl))
              have e69 := d5
              have d13 : (((decide ((p[k]'hlt) < 0))) = false → gg 77 = .bool (decide ((fs.length : Int) ≤ (p[k]'hlt)))) ∧ (((decide ((p[k]'hlt) < 0))) = true → gg 77 = undef) := hd 13 (dep_of (by kernel_rfl))
              refine ⟨fun _ => ?_, fun hw => Bool.noConfusion (show true = false from hw)⟩
              cases hcc : (decide ((p[k]'hlt) < 0)) with
              | true =>
                rw [hcc] at e69
                refine os_know 69 (.bool true) e69 (by simp [undef]) ?_
                refine os_rv (r_pt (v := .bool _) rfl rfl) ⟨Same.refl _ _, ?_, frsh_no⟩
                exact rfl
              | false =>
                have e77 := d13.1 hcc
                rw [hcc] at e69
                refine os_know 69 (.bool false) e69 (by simp [undef]) ?_
                refine os_know 77 (.bool (decide ((fs.length : Int) ≤ (p[k]'hlt)))) e77 (by simp [undef]) ?_
                refine os_rv (r_pf (v := .bool _) rfl rfl) ⟨Same.refl _ _, ?_, frsh_no⟩
                exact rfl
            | _ + 15, hix, _ => exact absurd hix (by omega)
          · intro gg w22 hs hR hdis
            have hs0 := hs
            replace hB := hB.tr0 hs
            replace hb3 := hb3.tr0 hs
            replace hb4 := hb4.tr0 hs
            replace hBA := hBA.tr0 hs
            replace hb10 := hb10.tr0 hs
            replace hb12 := hb12.tr0 hs
            replace hb13 := hb13.tr0 hs
            clear hs
            have d14 : gg 78 = .bool (decide ((p[k]'hlt) < 0) || decide ((fs.length : Int) ≤ (p[k]'hlt))) := hR 14 (by decide)
            have e78 := d14
            refine wl_know 78 (.bool (decide ((p[k]'hlt) < 0) || decide ((fs.length : Int) ≤ (p[k]'hlt)))) e78 (by simp [undef]) ?_
            refine x_nil ?_
            refine e_S ?_
            refine c_if rfl (fun c78 => ?_) (fun c78 => ?_)
            · have hbad : (p[k]'hlt) < 0 ∨ (fs.length : Int) ≤ (p[k]'hlt) := by simpa using c78
              refine c_region ?_
              refine wl (r_mv (v := .int _ _) rfl) ?_
              refine wl (r_bd2 (v0 := .int _ _) (v1 := .int _ _) (fun v0 v1 => #[v0, v1]) rfl rfl (by kernel_rfl)) ?_
              refine wl_stW hb13 rfl rfl sz30 rfl (by repeat (first | rfl | refine one_cons (by first | rfl | assumption) ?_)) (fun w23 hq hs => ?_)
              replace hB := hB.tr1 hs lo13
              replace hb3 := hb3.tr1 hs (by omega)
              replace hb4 := hb4.tr1 hs (by omega)
              replace hBA := hBA.tr1 hs lo_hBA_b13
              replace hb10 := hb10.tr1 hs (by omega)
              replace hb12 := hb12.tr1 hs (by omega)
              clear hs
              replace hb13 := hq
              obtain ⟨z2, hz2, hWz2⟩ : ∃ zq : Fl, zq = (3, (k : Int)) ∧ Want l fs gr p (k + 1) zq := ⟨_, rfl, want_bad hWk hz0 hlt hbad⟩
              replace hb13 : Blk w23 b13 30 #[.int .i64 z2.1, .int .i64 z2.2] := by rw [hz2]; exact hb13
              refine x_nil ?_
              refine e_B ?_
              refine e_S ?_
              refine c_region ?_
              refine wl (r_mv (v := .int _ _) rfl) ?_
              refine wl (r_add rfl rfl rfl (by omega)) ?_
              refine wl (r_as (v := .int _ _) rfl) ?_
              refine x_nil ?_
              refine e_LS (p.length - (k + 1)) (by omega) (by repeat (first | exact ag_refl | exact ag_ovr' | refine ag_upd rfl ?_ | refine ag_sub rfl ?_ | refine ag_kn (by assumption) ?_)) ?_
              exact ⟨k + 1, z2, by omega, rfl, rfl, hB, hBA, hb3, hb4, hb10, hb12, hb13, hWz2⟩
            · have hgood : ¬ ((p[k]'hlt) < 0 ∨ (fs.length : Int) ≤ (p[k]'hlt)) := fun h => by simp at c78; omega
              obtain ⟨z2, hz2, hWz2⟩ : ∃ zq : Fl, zq = z ∧ Want l fs gr p (k + 1) zq := ⟨_, rfl, want_step hWk hz0 hlt hgood⟩
              replace hb13 : Blk w22 b13 30 #[.int .i64 z2.1, .int .i64 z2.2] := by rw [hz2]; exact hb13
              refine c_skip ?_
              refine e_B ?_
              refine e_S ?_
              refine c_region ?_
              refine wl (r_mv (v := .int _ _) rfl) ?_
              refine wl (r_add rfl rfl rfl (by omega)) ?_
              refine wl (r_as (v := .int _ _) rfl) ?_
              refine x_nil ?_
              refine e_LS (p.length - (k + 1)) (by omega) (by repeat (first | exact ag_refl | exact ag_ovr' | refine ag_upd rfl ?_ | refine ag_sub rfl ?_ | refine ag_kn (by assumption) ?_)) ?_
              exact ⟨k + 1, z2, by omega, rfl, rfl, hB, hBA, hb3, hb4, hb10, hb12, hb13, hWz2⟩
        · have hzA := want_end hWk c61
          subst hzA
          refine c_exit ?_
          refine e_Sx ?_
          refine e_LSx ?_
          refine e_Bx ?_
          refine e_S ?_
          refine c_seq ?_
          refine c_region ?_
          refine wl (r_as (v := .int _ _) rfl) ?_
          refine x_nil ?_
          refine e_S ?_
          refine c_seq ?_
          refine c_seq ?_
          refine c_region ?_
          refine wl (r_as (v := .int _ _) rfl) ?_
          refine x_nil ?_
          refine e_S ?_
          refine c_block ?_
          refine c_loopS [15, 16, 81, 82, 83, 84, 85, 86, 87, 88, 89, 90, 91, 92, 93, 94, 95, 96, 97, 98, 99, 100, 101, 102] (fun m g w' => ∃ (k : Nat) (a : Int), k ≤ p.length ∧ m = p.length - k ∧ g 16 = .int .i64 k ∧ g 15 = .int .i64 a ∧ Bel w w' ∧ Bel wA w' ∧ Blk w' b4 28 #[.slice G gr.length cg] ∧ Blk w' b10 28 #[.slice AA (atG l fs gr p).length (atG l fs gr p).length] ∧ Blk w' b12 30 #[.int .i64 (atF l fs gr p).1, .int .i64 (atF l fs gr p).2] ∧ Blk w' b13 30 #[.int .i64 (atF l fs gr p).1, .int .i64 (atF l fs gr p).2] ∧ ((atF l fs gr p).1 = 0 → -1 ≤ a ∧ a < gr.length ∧ walkT gr p 0 = walkT gr (p.drop k) a)) (p.length) ?_ (fun m g15 w24 hI => ?_)
          · exact ⟨0, 0, Nat.zero_le _, rfl, rfl, rfl, hB, hBA, hb4, hb10, hb12, hb13, fun h => ⟨by omega, by have := (gv_of (atF_zero h).1).gok.pos; omega, rfl⟩⟩
          obtain ⟨k, a, hkk, hm, h16, h15, hB, hBA, hb4, hb10, hb12, hb13, hWa⟩ := hI
          refine c_know 16 (.int .i64 k) h16 (by simp [undef]) ?_
          refine c_know 15 (.int .i64 a) h15 (by simp [undef]) ?_
          refine c_seq ?_
          refine c_seq ?_
          refine c_cut1 [81, 82, 83, 84, 85, 86, 87, 88, 89, 90, 91, 92, 93] 93 (.bool (decide (((k : Int) < (p.length : Int) ∧ (atF l fs gr p).1 = 0) ∧ 0 ≤ a))) (by simp [undef]) ?_ (fun gq => ?_)
          · refine c_region ?_
            refine wl (r_mv (v := .int _ _) rfl) ?_
            refine wl (r_mv (v := .slice _ _ _) rfl) ?_
            refine wl (r_len Tryd.underlying52 rfl) ?_
            refine wl (r_lss rfl rfl) ?_
            refine wl (r_mv (v := .bool _) rfl) ?_
            refine wl_casesd 85 rfl (fun g85 => ?_) (fun g85 => ?_)
            · skip
              refine wl_gd 85 rfl rfl ?_
              refine wl (r_fa Tryd.underlying30 sz3 (by decide) rfl rfl rfl) ?_
              refine wl_gd 85 rfl rfl ?_
              refine wl (r_ld1 (v := .int _ _) Tryd.underlying3 rfl rfl (hb13.cell rfl)) ?_
              refine wl_gd 85 rfl rfl ?_
              refine wl (r_eql rfl rfl) ?_
              refine wl (r_pt (v := .bool _) rfl rfl) ?_
              refine wl (r_mv (v := .bool _) rfl) ?_
              refine wl_casesd 90 rfl (fun g90 => ?_) (fun g90 => ?_)
              · skip
                refine wl_gd 90 rfl rfl ?_
                refine wl (r_mv (v := .int _ _) rfl) ?_
                refine wl_gd 90 rfl rfl ?_
                refine wl (r_geq rfl rfl) ?_
                refine wl (r_pt (v := .bool _) rfl rfl) ?_
                refine x_nil (e_R ⟨rfl, (by repeat (first | exact ag_refl | exact ag_ovr' | refine ag_upd rfl ?_ | refine ag_sub rfl ?_ | refine ag_kn (by assumption) ?_)), ?_⟩)
                show Value.bool _ = Value.bool _
                first | exact congrArg Value.bool (decide_eq_true (by omega)).symm | exact congrArg Value.bool (decide_eq_false (by omega)).symm | exact congrArg Value.bool (decide_eq_decide.2 (by omega)) | exact congrArg Value.bool ((decide_not).symm.trans (decide_eq_decide.2 (by omega)))
              · skip
                refine wlgn 90 rfl rfl rfl ?_
                refine wlgn 90 rfl rfl rfl ?_
                refine wl (r_pf (v := .bool _) rfl rfl) ?_
                refine x_nil (e_R ⟨rfl, (by repeat (first | exact ag_refl | exact ag_ovr' | refine ag_upd rfl ?_ | refine ag_sub rfl ?_ | refine ag_kn (by assumption) ?_)), ?_⟩)
                show Value.bool _ = Value.bool _
                first | exact congrArg Value.bool (decide_eq_true (by omega)).symm | exact congrArg Value.bool (decide_eq_false (by omega)).symm | exact congrArg Value.bool (decide_eq_decide.2 (by omega)) | exact congrArg Value.bool ((decide_not).symm.trans (decide_eq_decide.2 (by omega)))
            · skip
              refine wlgn 85 rfl rfl rfl ?_
              refine wlgn 85 rfl rfl rfl ?_
              refine wlgn 85 rfl rfl rfl ?_
              refine wl (r_pf (v := .bool _) rfl rfl) ?_
              refine wl (r_mv (v := .bool _) rfl) ?_
              refine wlgn 90 rfl rfl rfl ?_
              refine wlgn 90 rfl rfl rfl ?_
              refine wl (r_pf (v := .bool _) rfl rfl) ?_
              refine x_nil (e_R ⟨rfl, (by repeat (first | exact ag_refl | exact ag_ovr' | refine ag_upd rfl ?_ | refine ag_sub rfl ?_ | refine ag_kn (by assumption) ?_)), ?_⟩)
              show Value.bool _ = Value.bool _
              first | exact congrArg Value.bool (decide_eq_true (by omega)).symm | exact congrArg Value.bool (decide_eq_false (by omega)).symm | exact congrArg Value.bool (decide_eq_decide.2 (by omega)) | exact congrArg Value.bool ((decide_not).symm.trans (decide_eq_decide.2 (by omega)))
          refine e_S ?_
          refine c_ifd rfl (fun c93 => ?_) (fun c93 => ?_)
          · have hlt : k < p.length := by omega
            obtain ⟨hz1, hz2⟩ := atF_zero c93.1.2
            have hgv := gv_of hz1
            obtain ⟨_, hal0, hwk⟩ := hWa c93.1.2
            obtain ⟨an, rfl⟩ : ∃ an : Nat, a = an := ⟨a.toNat, by omega⟩
            have hal : an < gr.length := by omega
            obtain ⟨pb, po, rfl, hpb, hpc⟩ := hP.at_ hlt
            have hrg := tgt_rng hgv.gok hal (p[k]'hlt)
            refine c_skip ?_
            refine e_S ?_
            refine c_seq ?_
            refine c_block ?_
            refine c_monoTO 7 [96, 97, 98, 99, 100, 101, 102] (fun _ => false) (fun ix v wv => match ix with | 0 => v = .agg #[.slice G gr.length cg] | 1 => v = .int .i64 an | 2 => v = .slice (some ⟨pb, po, none⟩) p.length cp | 3 => v = .int .i64 k | 4 => v = .pointer (some ⟨pb, po + k * 1, none⟩) | 5 => v = .int .i64 (p[k]'hlt) | 6 => v = .int .i64 (tgt (gr[an]'hal).ln (p[k]'hlt)) | _ => True) (by kernel_rfl) (by kernel_rfl) ?_ ?_ ?_
            · intro ix v wv wv2 h hs
              match ix, h with
              | 0, h => exact h
              | 1, h => exact h
              | 2, h => exact h
              | 3, h => exact h
              | 4, h => exact h
              | 5, h => exact h
              | 6, h => exact h
              | _ + 7, h => exact trivial
            · intro ix o hix hoq gg wx hs hd hdis
              match ix, hix, hoq with
              | 0, _, hoq =>
                obtain rfl : _ = o := Option.some.inj hoq
                have hs0 := hs
                replace hB := hB.tr0 hs
                replace hb4 := hb4.tr0 hs
                replace hBA := hBA.tr0 hs
                replace hb10 := hb10.tr0 hs
                replace hb12 := hb12.tr0 hs
                replace hb13 := hb13.tr0 hs
                clear hs
                refine os_rv (r_ldS Tryd.underlying28 rfl rfl hb4.range0 sz28) ⟨Same.refl _ _, ?_, frsh_no⟩
                exact rfl
              | 1, _, hoq =>
                obtain rfl : _ = o := Option.some.inj hoq
                have hs0 := hs
                replace hB := hB.tr0 hs
                replace hb4 := hb4.tr0 hs
                replace hBA := hBA.tr0 hs
                replace hb10 := hb10.tr0 hs
                replace hb12 := hb12.tr0 hs
                replace hb13 := hb13.tr0 hs
                clear hs
                refine os_rv (r_mv (v := .int _ _) rfl) ⟨Same.refl _ _, ?_, frsh_no⟩
                exact rfl
              | 2, _, hoq =>
                obtain rfl : _ = o := Option.some.inj hoq
                have hs0 := hs
                replace hB := hB.tr0 hs
                replace hb4 := hb4.tr0 hs
                replace hBA := hBA.tr0 hs
                replace hb10 := hb10.tr0 hs
                replace hb12 := hb12.tr0 hs
                replace hb13 := hb13.tr0 hs
                clear hs
                refine os_rv (r_mv (v := .slice _ _ _) rfl) ⟨Same.refl _ _, ?_, frsh_no⟩
                exact rfl
              | 3, _, hoq =>
                obtain rfl : _ = o := Option.some.inj hoq
                have hs0 := hs
                replace hB := hB.tr0 hs
                replace hb4 := hb4.tr0 hs
                replace hBA := hBA.tr0 hs
                replace hb10 := hb10.tr0 hs
                replace hb12 := hb12.tr0 hs
                replace hb13 := hb13.tr0 hs
                clear hs
                refine os_rv (r_mv (v := .int _ _) rfl) ⟨Same.refl _ _, ?_, frsh_no⟩
                exact rfl
              | 4, _, hoq =>
                obtain rfl : _ = o := Option.some.inj hoq
                have hs0 := hs
                replace hB := hB.tr0 hs
                replace hb4 := hb4.tr0 hs
                replace hBA := hBA.tr0 hs
                replace hb10 := hb10.tr0 hs
                replace hb12 := hb12.tr0 hs
                replace hb13 := hb13.tr0 hs
                clear hs
                have d2 : gg 98 = .slice (some ⟨pb, po, none⟩) p.length cp := hd 2 (dep_of (by kernel_rfl))
                have e98 := d2
                have d3 : gg 99 = .int .i64 k := hd 3 (dep_of (by kernel_rfl))
                have e99 := d3
                refine os_know 98 (.slice (some ⟨pb, po, none⟩) p.length cp) e98 (by simp [undef]) ?_
                refine os_know 99 (.int .i64 k) e99 (by simp [undef]) ?_
                refine os_rv (r_ia (i := k) Tryd.underlying52 sz3 rfl rfl (by omega) rfl) ⟨Same.refl _ _, ?_, frsh_no⟩
                exact rfl
              | 5, _, hoq =>
                obtain rfl : _ = o := Option.some.inj hoq
                have hs0 := hs
                replace hB := hB.tr0 hs
                replace hb4 := hb4.tr0 hs
                replace hBA := hBA.tr0 hs
                replace hb10 := hb10.tr0 hs
                replace hb12 := hb12.tr0 hs
                replace hb13 := hb13.tr0 hs
                clear hs
                have d4 : gg 100 = .pointer (some ⟨pb, po + k * 1, none⟩) := hd 4 (dep_of (by kernel_rfl))
                have e100 := d4
                refine os_know 100 (.pointer (some ⟨pb, po + k * 1, none⟩)) e100 (by simp [undef]) ?_
                refine os_rv (r_ld1 (v := .int _ _) Tryd.underlying3 rfl rfl (hB.cell hpb hpc)) ⟨Same.refl _ _, ?_, frsh_no⟩
                exact rfl
              | 6, _, hoq =>
                obtain rfl : _ = o := Option.some.inj hoq
                have hs0 := hs
                replace hB := hB.tr0 hs
                replace hb4 := hb4.tr0 hs
                replace hBA := hBA.tr0 hs
                replace hb10 := hb10.tr0 hs
                replace hb12 := hb12.tr0 hs
                replace hb13 := hb13.tr0 hs
                clear hs
                have d0 : gg 96 = .agg #[.slice G gr.length cg] := hd 0 (dep_of (by kernel_rfl))
                have e96 := d0
                have d1 : gg 97 = .int .i64 an := hd 1 (dep_of (by kernel_rfl))
                have e97 := d1
                have d5 : gg 101 = .int .i64 (p[k]'hlt) := hd 5 (dep_of (by kernel_rfl))
                have e101 := d5
                refine os_know 96 (.agg #[.slice G gr.length cg]) e96 (by simp [undef]) ?_
                refine os_know 97 (.int .i64 an) e97 (by simp [undef]) ?_
                refine os_know 101 (.int .i64 (p[k]'hlt)) e101 (by simp [undef]) ?_
                refine os_cl fn24 (rtarget_any G cg gr an (p[k]'hlt) wx (hG.mono hB) hal) rfl (fun e' w2 hr => ?_)
                obtain ⟨rfl, hs⟩ := hr
                exact ⟨_, rfl, Same.of_bel hs, rfl, frsh_no⟩
              | _ + 7, hix, _ => exact absurd hix (by omega)
            · intro gg w25 hs hR hdis
              have hs0 := hs
              replace hB := hB.tr0 hs
              replace hb4 := hb4.tr0 hs
              replace hBA := hBA.tr0 hs
              replace hb10 := hb10.tr0 hs
              replace hb12 := hb12.tr0 hs
              replace hb13 := hb13.tr0 hs
              clear hs
              have d6 : gg 102 = .int .i64 (tgt (gr[an]'hal).ln (p[k]'hlt)) := hR 6 (by decide)
              have e102 := d6
              refine wl_know 102 (.int .i64 (tgt (gr[an]'hal).ln (p[k]'hlt))) e102 (by simp [undef]) ?_
              refine wl (r_as (v := .int _ _) rfl) ?_
              refine x_nil ?_
              refine e_B ?_
              refine e_S ?_
              refine c_region ?_
              refine wl (r_mv (v := .int _ _) rfl) ?_
              refine wl (r_add rfl rfl rfl (by omega)) ?_
              refine wl (r_as (v := .int _ _) rfl) ?_
              refine x_nil ?_
              refine e_LS (p.length - (k + 1)) (by omega) (by repeat (first | exact ag_refl | exact ag_ovr' | refine ag_upd rfl ?_ | refine ag_sub rfl ?_ | refine ag_kn (by assumption) ?_)) ?_
              exact ⟨k + 1, _, by omega, rfl, rfl, rfl, hB, hBA, hb4, hb10, hb12, hb13, fun _ => ⟨hrg.1, hrg.2, by rw [hwk, walkT_step hlt hal]⟩⟩
          · have hfin : (atF l fs gr p).1 = 0 → walkT gr p 0 = a := fun h => by
              obtain ⟨_, _, e⟩ := hWa h
              by_cases hkn : k < p.length
              · have ha : a < 0 := Int.not_le.1 (fun h3 => c93 ⟨⟨by omega, h⟩, h3⟩)
                rw [e, walkT_neg ha]
              · have hke : k = p.length := by omega
                rw [hke, List.drop_length] at e
                exact e
            refine c_exit ?_
            refine e_Sx ?_
            refine e_LSx ?_
            refine e_Bx ?_
            refine e_S ?_
            refine c_seq ?_
            refine c_seq ?_
            refine c_cut1 [103, 104, 105, 106, 107, 108, 109] 109 (.bool (decide (¬ (atF l fs gr p).1 = 0 ∨ a < 0))) (by simp [undef]) ?_ (fun gq => ?_)
            · refine c_region ?_
              refine wl (r_fa Tryd.underlying30 sz3 (by decide) rfl rfl rfl) ?_
              refine wl (r_ld1 (v := .int _ _) Tryd.underlying3 rfl rfl (hb13.cell rfl)) ?_
              refine wl (r_neq rfl rfl) ?_
              refine wl (r_mv (v := .bool _) rfl) ?_
              refine wl_casesd 106 rfl (fun g106 => ?_) (fun g106 => ?_)
              · skip
                refine wlgn 106 rfl rfl rfl ?_
                refine wlgn 106 rfl rfl rfl ?_
                refine wl (r_pt (v := .bool _) rfl rfl) ?_
                refine x_nil (e_R ⟨rfl, (by repeat (first | exact ag_refl | exact ag_ovr' | refine ag_upd rfl ?_ | refine ag_sub rfl ?_ | refine ag_kn (by assumption) ?_)), ?_⟩)
                show Value.bool _ = Value.bool _
                first | exact congrArg Value.bool (decide_eq_true (by omega)).symm | exact congrArg Value.bool (decide_eq_false (by omega)).symm | exact congrArg Value.bool (decide_eq_decide.2 (by omega)) | exact congrArg Value.bool ((decide_not).symm.trans (decide_eq_decide.2 (by omega)))
              · skip
                refine wl_gd 106 rfl rfl ?_
                refine wl (r_mv (v := .int _ _) rfl) ?_
                refine wl_gd 106 rfl rfl ?_
                refine wl (r_lss rfl rfl) ?_
                refine wl (r_pf (v := .bool _) rfl rfl) ?_
                refine x_nil (e_R ⟨rfl, (by repeat (first | exact ag_refl | exact ag_ovr' | refine ag_upd rfl ?_ | refine ag_sub rfl ?_ | refine ag_kn (by assumption) ?_)), ?_⟩)
                show Value.bool _ = Value.bool _
                first | exact congrArg Value.bool (decide_eq_true (by omega)).symm | exact congrArg Value.bool (decide_eq_false (by omega)).symm | exact congrArg Value.bool (decide_eq_decide.2 (by omega)) | exact congrArg Value.bool ((decide_not).symm.trans (decide_eq_decide.2 (by omega)))
            refine e_S ?_
            refine c_ifd rfl (fun c109 => ?_) (fun c109 => ?_)
            · have hno : ¬ AtOk l fs gr p := fun h => by
                have h1 := hfin h.1
                have h2 := h.2
                rcases c109 with h3 | h3
                · exact h3 h.1
                · omega
              refine c_seq ?_
              refine c_region ?_
              refine wl (r_ldS Tryd.underlying30 rfl rfl hb12.range0 sz30) ?_
              refine wl (r_ldS Tryd.underlying30 rfl rfl hb13.range0 sz30) ?_
              refine wl (r_eqF Tryd.eqGuardType30 ft30 Tryd.stoodInHeld30 fd30 Tryd.underlying3 rfl rfl) ?_
              refine wl (r_mv (v := .bool true) (congrArg Value.bool (decide_eq_true ⟨rfl, rfl⟩))) ?_
              refine wl_gd 113 rfl rfl ?_
              refine wl (r_mv (v := .bool _) rfl) ?_
              refine wl_gd 113 rfl rfl ?_
              refine wl (r_not rfl) ?_
              refine wl (r_pt (v := .bool _) rfl rfl) ?_
              refine wl (r_mv (v := .bool true) (congrArg Value.bool (by simp [hno]))) ?_
              refine wl_gd 117 rfl rfl ?_
              refine wl (r_fa Tryd.underlying28 sz26 (by decide) rfl rfl rfl) ?_
              refine wl_gd 117 rfl rfl ?_
              refine wl (r_ld1 (v := .slice _ _ _) Tryd.underlying26 rfl rfl (hb10.cell rfl)) ?_
              refine wl_gd 117 rfl rfl ?_
              refine wl (r_len Tryd.underlying26 rfl) ?_
              refine wl_gd 117 rfl rfl ?_
              refine wl (r_eql rfl rfl) ?_
              refine wl (r_pt (v := .bool _) rfl rfl) ?_
              refine wl (r_as (v := .bool true) (congrArg Value.bool (decide_eq_true (by rw [atG_no hno]; rfl)))) ?_
              refine x_nil ?_
              refine e_S ?_
              refine c_ret ?_
              refine e_Sr ?_
              refine fin1 (.inl rfl) rfl rfl ?_
              exact ⟨rfl, hB⟩
            · have ha1 : (atF l fs gr p).1 = 0 := Decidable.not_not.1 (fun h => c109 (.inl h))
              have ha2 : 0 ≤ a := Int.not_lt.1 (fun h => c109 (.inr h))
              have hok : AtOk l fs gr p := ⟨ha1, by rw [hfin ha1]; exact ha2⟩
              obtain ⟨an, rfl⟩ : ∃ an : Nat, a = an := ⟨a.toNat, by omega⟩
              obtain ⟨a2, o2, hal2, hae2, hd2, heG⟩ := hAt hok
              have hea : a2 = an := by have := hfin ha1; omega
              subst hea
              have hgv := gv_of (atF_zero ha1).1
              have hf40 := hgv.few
              refine c_skip ?_
              refine e_S ?_
              refine c_seq ?_
              refine c_monoGO 13 [123, 124, 125, 126, 127, 128, 129, 130, 131, 132, 133, 134, 135] (fun _ => false) (fun ix v wv => match ix with | 0 => v = .agg #[.int .i64 (atF l fs gr p).1, .int .i64 (atF l fs gr p).2] | 1 => v = .agg #[.int .i64 (atF l fs gr p).1, .int .i64 (atF l fs gr p).2] | 2 => v = .bool true | 3 => v = .bool true | 4 => v = .bool true | 5 => v = .bool true | 6 => v = .bool true | 7 => v = .agg #[.slice AA (atG l fs gr p).length (atG l fs gr p).length] | 8 => v = .agg #[.slice G gr.length cg] | 9 => v = .int .i64 a2 | 10 => ∃ AR c, v = .agg #[.slice AR (canG gr o2).length c] ∧ NodesIn wv AR (canG gr o2) | 11 => v = .bool true | 12 => v = .bool true | _ => True) (by kernel_rfl) (by kernel_rfl) ?_ ?_ ?_
              · intro ix v wv wv2 h hs
                match ix, h with
                | 0, h => exact h
                | 1, h => exact h
                | 2, h => exact h
                | 3, h => exact h
                | 4, h => exact h
                | 5, h => exact h
                | 6, h => exact h
                | 7, h => exact h
                | 8, h => exact h
                | 9, h => exact h
                | 10, h =>
                  obtain ⟨AR, cR, e133, hNR⟩ := (show ∃ AR c, v = .agg #[.slice AR (canG gr o2).length c] ∧ NodesIn wv AR (canG gr o2) from h)
                  exact ⟨AR, cR, e133, hNR.mono hs.bel⟩
                | 11, h => exact h
                | 12, h => exact h
                | _ + 13, h => exact trivial
              · intro ix o hix hoq gg wx hs hd hdis
                match ix, hix, hoq with
                | 0, _, hoq =>
                  obtain rfl : _ = o := Option.some.inj hoq
                  have hs0 := hs
                  replace hB := hB.tr0 hs
                  replace hb4 := hb4.tr0 hs
                  replace hBA := hBA.tr0 hs
                  replace hb10 := hb10.tr0 hs
                  replace hb12 := hb12.tr0 hs
                  replace hb13 := hb13.tr0 hs
                  clear hs
                  refine ⟨fun _ => ?_, fun hw => Bool.noConfusion (show true = false from hw)⟩
                  refine os_rv (r_ldS Tryd.underlying30 rfl rfl hb12.range0 sz30) ⟨Same.refl _ _, ?_, frsh_no⟩
                  exact rfl
                | 1, _, hoq =>
                  obtain rfl : _ = o := Option.some.inj hoq
                  have hs0 := hs
                  replace hB := hB.tr0 hs
                  replace hb4 := hb4.tr0 hs
                  replace hBA := hBA.tr0 hs
                  replace hb10 := hb10.tr0 hs
                  replace hb12 := hb12.tr0 hs
                  replace hb13 := hb13.tr0 hs
                  clear hs
                  refine ⟨fun _ => ?_, fun hw => Bool.noConfusion (show true = false from hw)⟩
                  refine os_rv (r_ldS Tryd.underlying30 rfl rfl hb13.range0 sz30) ⟨Same.refl _ _, ?_, frsh_no⟩
                  exact rfl
                | 2, _, hoq =>
                  obtain rfl : _ = o := Option.some.inj hoq
                  have hs0 := hs
                  replace hB := hB.tr0 hs
                  replace hb4 := hb4.tr0 hs
                  replace hBA := hBA.tr0 hs
                  replace hb10 := hb10.tr0 hs
                  replace hb12 := hb12.tr0 hs
                  replace hb13 := hb13.tr0 hs
                  clear hs
                  have d0 : gg 123 = .agg #[.int .i64 (atF l fs gr p).1, .int .i64 (atF l fs gr p).2] := hd 0 (dep_of (by kernel_rfl))
                  have e123 := d0
                  have d1 : gg 124 = .agg #[.int .i64 (atF l fs gr p).1, .int .i64 (atF l fs gr p).2] := hd 1 (dep_of (by kernel_rfl))
                  have e124 := d1
                  refine ⟨fun _ => ?_, fun hw => Bool.noConfusion (show true = false from hw)⟩
                  refine os_know 123 (.agg #[.int .i64 (atF l fs gr p).1, .int .i64 (atF l fs gr p).2]) e123 (by simp [undef]) ?_
                  refine os_know 124 (.agg #[.int .i64 (atF l fs gr p).1, .int .i64 (atF l fs gr p).2]) e124 (by simp [undef]) ?_
                  refine os_rv (r_eqF Tryd.eqGuardType30 ft30 Tryd.stoodInHeld30 fd30 Tryd.underlying3 rfl rfl) ⟨Same.refl _ _, ?_, frsh_no⟩
                  exact (congrArg Value.bool (decide_eq_true ⟨rfl, rfl⟩))
                | 3, _, hoq =>
                  obtain rfl : _ = o := Option.some.inj hoq
                  have hs0 := hs
                  replace hB := hB.tr0 hs
                  replace hb4 := hb4.tr0 hs
                  replace hBA := hBA.tr0 hs
                  replace hb10 := hb10.tr0 hs
                  replace hb12 := hb12.tr0 hs
                  replace hb13 := hb13.tr0 hs
                  clear hs
                  have d2 : gg 125 = .bool true := hd 2 (dep_of (by kernel_rfl))
                  have e125 := d2
                  refine ⟨fun _ => ?_, fun hw => Bool.noConfusion (show true = false from hw)⟩
                  refine os_know 125 (.bool true) e125 (by simp [undef]) ?_
                  refine os_rv (r_mv (v := .bool _) rfl) ⟨Same.refl _ _, ?_, frsh_no⟩
                  exact rfl
                | 4, _, hoq =>
                  obtain rfl : _ = o := Option.some.inj hoq
                  have hs0 := hs
                  replace hB := hB.tr0 hs
                  replace hb4 := hb4.tr0 hs
                  replace hBA := hBA.tr0 hs
                  replace hb10 := hb10.tr0 hs
                  replace hb12 := hb12.tr0 hs
                  replace hb13 := hb13.tr0 hs
                  clear hs
                  have d3 : gg 126 = .bool true := hd 3 (dep_of (by kernel_rfl))
                  have e126 := d3
                  refine guard_case 126 true rfl e126 (fun _ => ?_) (fun h => absurd h (by decide))
                  refine os_know 126 (.bool true) e126 (by simp [undef]) ?_
                  refine os_rv (r_mv (v := .bool _) rfl) ⟨Same.refl _ _, ?_, frsh_no⟩
                  exact (congrArg Value.bool (decide_eq_true hok))
                | 5, _, hoq =>
                  obtain rfl : _ = o := Option.some.inj hoq
                  have hs0 := hs
                  replace hB := hB.tr0 hs
                  replace hb4 := hb4.tr0 hs
                  replace hBA := hBA.tr0 hs
                  replace hb10 := hb10.tr0 hs
                  replace hb12 := hb12.tr0 hs
                  replace hb13 := hb13.tr0 hs
                  clear hs
                  have d3 : gg 126 = .bool true := hd 3 (dep_of (by kernel_rfl))
                  have e126 := d3
                  have d4 : gg 127 = .bool true := hd 4 (dep_of (by kernel_rfl))
                  have e127 := d4
                  refine ⟨fun _ => ?_, fun hw => Bool.noConfusion (show true = false from hw)⟩
                  refine os_know 126 (.bool true) e126 (by simp [undef]) ?_
                  refine os_know 127 (.bool true) e127 (by simp [undef]) ?_
                  refine os_rv (r_pt (v := .bool _) rfl rfl) ⟨Same.refl _ _, ?_, frsh_no⟩
                  exact rfl
                | 6, _, hoq =>
                  obtain rfl : _ = o := Option.some.inj hoq
                  have hs0 := hs
                  replace hB := hB.tr0 hs
                  replace hb4 := hb4.tr0 hs
                  replace hBA := hBA.tr0 hs
                  replace hb10 := hb10.tr0 hs
                  replace hb12 := hb12.tr0 hs
                  replace hb13 := hb13.tr0 hs
                  clear hs
                  have d5 : gg 128 = .bool true := hd 5 (dep_of (by kernel_rfl))
                  have e128 := d5
                  refine ⟨fun _ => ?_, fun hw => Bool.noConfusion (show true = false from hw)⟩
                  refine os_know 128 (.bool true) e128 (by simp [undef]) ?_
                  refine os_rv (r_mv (v := .bool _) rfl) ⟨Same.refl _ _, ?_, frsh_no⟩
                  exact rfl
                | 7, _, hoq =>
                  obtain rfl : _ = o := Option.some.inj hoq
                  have hs0 := hs
                  replace hB := hB.tr0 hs
                  replace hb4 := hb4.tr0 hs
                  replace hBA := hBA.tr0 hs
                  replace hb10 := hb10.tr0 hs
                  replace hb12 := hb12.tr0 hs
                  replace hb13 := hb13.tr0 hs
                  clear hs
                  have d6 : gg 129 = .bool true := hd 6 (dep_of (by kernel_rfl))
                  have e129 := d6
                  refine guard_case 129 true rfl e129 (fun _ => ?_) (fun h => absurd h (by decide))
                  refine os_know 129 (.bool true) e129 (by simp [undef]) ?_
                  refine os_rv (r_ldS Tryd.underlying28 rfl rfl hb10.range0 sz28) ⟨Same.refl _ _, ?_, frsh_no⟩
                  exact rfl
                | 8, _, hoq =>
                  obtain rfl : _ = o := Option.some.inj hoq
                  have hs0 := hs
                  replace hB := hB.tr0 hs
                  replace hb4 := hb4.tr0 hs
                  replace hBA := hBA.tr0 hs
                  replace hb10 := hb10.tr0 hs
                  replace hb12 := hb12.tr0 hs
                  replace hb13 := hb13.tr0 hs
                  clear hs
                  have d6 : gg 129 = .bool true := hd 6 (dep_of (by kernel_rfl))
                  have e129 := d6
                  refine guard_case 129 true rfl e129 (fun _ => ?_) (fun h => absurd h (by decide))
                  refine os_know 129 (.bool true) e129 (by simp [undef]) ?_
                  refine os_rv (r_ldS Tryd.underlying28 rfl rfl hb4.range0 sz28) ⟨Same.refl _ _, ?_, frsh_no⟩
                  exact rfl
                | 9, _, hoq =>
                  obtain rfl : _ = o := Option.some.inj hoq
                  have hs0 := hs
                  replace hB := hB.tr0 hs
                  replace hb4 := hb4.tr0 hs
                  replace hBA := hBA.tr0 hs
                  replace hb10 := hb10.tr0 hs
                  replace hb12 := hb12.tr0 hs
                  replace hb13 := hb13.tr0 hs
                  clear hs
                  have d6 : gg 129 = .bool true := hd 6 (dep_of (by kernel_rfl))
                  have e129 := d6
                  refine guard_case 129 true rfl e129 (fun _ => ?_) (fun h => absurd h (by decide))
                  refine os_know 129 (.bool true) e129 (by simp [undef]) ?_
                  refine os_rv (r_mv (v := .int _ _) rfl) ⟨Same.refl _ _, ?_, frsh_no⟩
                  exact rfl
                | 10, _, hoq =>
                  obtain rfl : _ = o := Option.some.inj hoq
                  have hs0 := hs
                  replace hB := hB.tr0 hs
                  replace hb4 := hb4.tr0 hs
                  replace hBA := hBA.tr0 hs
                  replace hb10 := hb10.tr0 hs
                  replace hb12 := hb12.tr0 hs
                  replace hb13 := hb13.tr0 hs
                  clear hs
                  have d6 : gg 129 = .bool true := hd 6 (dep_of (by kernel_rfl))
                  have e129 := d6
                  have d8 : gg 131 = .agg #[.slice G gr.length cg] := hd 8 (dep_of (by kernel_rfl))
                  have e131 := d8
                  have d9 : gg 132 = .int .i64 a2 := hd 9 (dep_of (by kernel_rfl))
                  have e132 := d9
                  refine guard_case 129 true rfl e129 (fun _ => ?_) (fun h => absurd h (by decide))
                  refine os_know 129 (.bool true) e129 (by simp [undef]) ?_
                  refine os_know 131 (.agg #[.slice G gr.length cg]) e131 (by simp [undef]) ?_
                  refine os_know 132 (.int .i64 a2) e132 (by simp [undef]) ?_
                  refine os_cl fn25 (rfr_any G cg l.length fs.length gr a2 o2 wx (hG.mono hB) hgv.gok (by omega) hal2 hd2) rfl (fun e' w2 hr => ?_)
                  obtain ⟨⟨AR, cR, rfl, hNR⟩, hs⟩ := hr
                  exact ⟨_, rfl, Same.of_bel hs, ⟨_, _, rfl, hNR⟩, frsh_no⟩
                | 11, _, hoq =>
                  obtain rfl : _ = o := Option.some.inj hoq
                  have hs0 := hs
                  replace hB := hB.tr0 hs
                  replace hb4 := hb4.tr0 hs
                  replace hBA := hBA.tr0 hs
                  replace hb10 := hb10.tr0 hs
                  replace hb12 := hb12.tr0 hs
                  replace hb13 := hb13.tr0 hs
                  clear hs
                  have d6 : gg 129 = .bool true := hd 6 (dep_of (by kernel_rfl))
                  have e129 := d6
                  have d7 : gg 130 = .agg #[.slice AA (atG l fs gr p).length (atG l fs gr p).length] := hd 7 (dep_of (by kernel_rfl))
                  have e130 := d7
                  have d10 : ∃ AR c, gg 133 = .agg #[.slice AR (canG gr o2).length c] ∧ NodesIn wx AR (canG gr o2) := hd 10 (dep_of (by kernel_rfl))
                  obtain ⟨AR, cR, e133, hNR⟩ := d10
                  refine guard_case 129 true rfl e129 (fun _ => ?_) (fun h => absurd h (by decide))
                  refine os_know 129 (.bool true) e129 (by simp [undef]) ?_
                  refine os_know 130 (.agg #[.slice AA (atG l fs gr p).length (atG l fs gr p).length]) e130 (by simp [undef]) ?_
                  refine os_know 133 (.agg #[.slice AR (canG gr o2).length cR]) e133 (by simp [undef]) ?_
                  refine os_cl fn15 (same_any AA AR _ _ _ cR _ _ wx (hNA.mono hBA) hNR rfl rfl heG) rfl (fun e' w2 hr => ?_)
                  obtain ⟨rfl, hs⟩ := hr
                  exact ⟨_, rfl, Same.of_bel hs, rfl, frsh_no⟩
                | 12, _, hoq =>
                  obtain rfl : _ = o := Option.some.inj hoq
                  have hs0 := hs
                  replace hB := hB.tr0 hs
                  replace hb4 := hb4.tr0 hs
                  replace hBA := hBA.tr0 hs
                  replace hb10 := hb10.tr0 hs
                  replace hb12 := hb12.tr0 hs
                  replace hb13 := hb13.tr0 hs
                  clear hs
                  have d6 : gg 129 = .bool true := hd 6 (dep_of (by kernel_rfl))
                  have e129 := d6
                  have d11 : gg 134 = .bool true := hd 11 (dep_of (by kernel_rfl))
                  have e134 := d11
                  refine ⟨fun _ => ?_, fun hw => Bool.noConfusion (show true = false from hw)⟩
                  refine os_know 129 (.bool true) e129 (by simp [undef]) ?_
                  refine os_know 134 (.bool true) e134 (by simp [undef]) ?_
                  refine os_rv (r_pt (v := .bool _) rfl rfl) ⟨Same.refl _ _, ?_, frsh_no⟩
                  exact rfl
                | _ + 13, hix, _ => exact absurd hix (by omega)
              · intro gg w26 hs hR hdis
                have hs0 := hs
                replace hB := hB.tr0 hs
                replace hb4 := hb4.tr0 hs
                replace hBA := hBA.tr0 hs
                replace hb10 := hb10.tr0 hs
                replace hb12 := hb12.tr0 hs
                replace hb13 := hb13.tr0 hs
                clear hs
                have d12 : gg 135 = .bool true := hR 12 (by decide)
                have e135 := d12
                refine wl_know 135 (.bool true) e135 (by simp [undef]) ?_
                refine wl (r_as (v := .bool _) rfl) ?_
                refine x_nil ?_
                refine e_S ?_
                refine c_ret ?_
                refine fin1 (.inl rfl) rfl rfl ?_
                exact ⟨rfl, hB⟩
      · obtain ⟨z, hz, hWz⟩ : ∃ zq : Fl, zq = graphF l fs gr ∧ Want l fs gr p 0 zq := ⟨_, rfl, want_g (fun h => c51 ⟨h.1, by omega⟩)⟩
        replace hb13 : Blk w19 b13 30 #[.int .i64 z.1, .int .i64 z.2] := by rw [hz]; exact hb13
        refine c_skip ?_
        refine e_S ?_
        refine c_seq ?_
        refine c_seq ?_
        refine c_region ?_
        refine wl (r_as (v := .int _ _) rfl) ?_
        refine x_nil ?_
        refine e_S ?_
        refine c_block ?_
        refine c_loopS [14, 53, 54, 55, 56, 57, 58, 59, 60, 61, 62, 63, 64, 65, 66, 67, 68, 69, 70, 71, 72, 73, 74, 75, 76, 77, 78, 79, 80] (fun m g w' => ∃ (k : Nat) (z : Fl), k ≤ p.length ∧ m = p.length - k ∧ g 14 = .int .i64 k ∧ Bel w w' ∧ Bel wA w' ∧ Blk w' b3 25 #[.slice A l.length c, .slice B fs.length d] ∧ Blk w' b4 28 #[.slice G gr.length cg] ∧ Blk w' b10 28 #[.slice AA (atG l fs gr p).length (atG l fs gr p).length] ∧ Blk w' b12 30 #[.int .i64 (atF l fs gr p).1, .int .i64 (atF l fs gr p).2] ∧ Blk w' b13 30 #[.int .i64 z.1, .int .i64 z.2] ∧ Want l fs gr p k z) (p.length) ?_ (fun m g9 w27 hI => ?_)
        · exact ⟨0, z, Nat.zero_le _, rfl, rfl, hB, hBA, hb3, hb4, hb10, hb12, hb13, hWz⟩
        obtain ⟨k, z, hkk, hm, h14, hB, hBA, hb3, hb4, hb10, hb12, hb13, hWk⟩ := hI
        refine c_know 14 (.int .i64 k) h14 (by simp [undef]) ?_
        refine c_seq ?_
        refine c_seq ?_
        refine c_cut1 [53, 54, 55, 56, 57, 58, 59, 60, 61] 61 (.bool (decide ((k : Int) < (p.length : Int) ∧ z.1 = 0))) (by simp [undef]) ?_ (fun gq => ?_)
        · refine c_region ?_
          refine wl (r_mv (v := .int _ _) rfl) ?_
          refine wl (r_mv (v := .slice _ _ _) rfl) ?_
          refine wl (r_len Tryd.underlying52 rfl) ?_
          refine wl (r_lss rfl rfl) ?_
          refine wl (r_mv (v := .bool _) rfl) ?_
          refine wl_casesd 57 rfl (fun g57 => ?_) (fun g57 => ?_)
          · skip
            refine wl_gd 57 rfl rfl ?_
            refine wl (r_fa Tryd.underlying30 sz3 (by decide) rfl rfl rfl) ?_
            refine wl_gd 57 rfl rfl ?_
            refine wl (r_ld1 (v := .int _ _) Tryd.underlying3 rfl rfl (hb13.cell rfl)) ?_
            refine wl_gd 57 rfl rfl ?_
            refine wl (r_eql rfl rfl) ?_
            refine wl (r_pt (v := .bool _) rfl rfl) ?_
            refine x_nil (e_R ⟨rfl, (by repeat (first | exact ag_refl | exact ag_ovr' | refine ag_upd rfl ?_ | refine ag_sub rfl ?_ | refine ag_kn (by assumption) ?_)), ?_⟩)
            show Value.bool _ = Value.bool _
            first | exact congrArg Value.bool (decide_eq_true (by omega)).symm | exact congrArg Value.bool (decide_eq_false (by omega)).symm | exact congrArg Value.bool (decide_eq_decide.2 (by omega)) | exact congrArg Value.bool ((decide_not).symm.trans (decide_eq_decide.2 (by omega)))
          · skip
            refine wlgn 57 rfl rfl rfl ?_
            refine wlgn 57 rfl rfl rfl ?_
            refine wlgn 57 rfl rfl rfl ?_
            refine wl (r_pf (v := .bool _) rfl rfl) ?_
            refine x_nil (e_R ⟨rfl, (by repeat (first | exact ag_refl | exact ag_ovr' | refine ag_upd rfl ?_ | refine ag_sub rfl ?_ | refine ag_kn (by assumption) ?_)), ?_⟩)
            show Value.bool _ = Value.bool _
            first | exact congrArg Value.bool (decide_eq_true (by omega)).symm | exact congrArg Value.bool (decide_eq_false (by omega)).symm | exact congrArg Value.bool (decide_eq_decide.2 (by omega)) | exact congrArg Value.bool ((decide_not).symm.trans (decide_eq_decide.2 (by omega)))
        refine e_S ?_
        refine c_ifd rfl (fun c61 => ?_) (fun c61 => ?_)
        · have hlt : k < p.length := by omega
          have hz0 := c61.2
          obtain ⟨pb, po, rfl, hpb, hpc⟩ := hP.at_ hlt
          refine c_skip ?_
          refine e_S ?_
          refine c_seq ?_
          refine c_block ?_
          refine c_seq ?_
          refine c_monoGO 15 [64, 65, 66, 67, 68, 69, 70, 71, 72, 73, 74, 75, 76, 77, 78] (fun _ => false) (fun ix v wv => match ix with | 0 => v = .slice (some ⟨pb, po, none⟩) p.length cp | 1 => v = .int .i64 k | 2 => v = .pointer (some ⟨pb, po + k * 1, none⟩) | 3 => v = .int .i64 (p[k]'hlt) | 4 => v = .bool (decide ((p[k]'hlt) < 0)) | 5 => v = .bool (decide ((p[k]'hlt) < 0)) | 6 => (((decide ((p[k]'hlt) < 0))) = false → v = .slice (some ⟨pb, po, none⟩) p.length cp) ∧ (((decide ((p[k]'hlt) < 0))) = true → v = undef) | 7 => (((decide ((p[k]'hlt) < 0))) = false → v = .int .i64 k) ∧ (((decide ((p[k]'hlt) < 0))) = true → v = undef) | 8 => (((decide ((p[k]'hlt) < 0))) = false → v = .pointer (some ⟨pb, po + k * 1, none⟩)) ∧ (((decide ((p[k]'hlt) < 0))) = true → v = undef) | 9 => (((decide ((p[k]'hlt) < 0))) = false → v = .int .i64 (p[k]'hlt)) ∧ (((decide ((p[k]'hlt) < 0))) = true → v = undef) | 10 => (((decide ((p[k]'hlt) < 0))) = false → v = .pointer (some ⟨b3, 1, none⟩)) ∧ (((decide ((p[k]'hlt) < 0))) = true → v = undef) | 11 => (((decide ((p[k]'hlt) < 0))) = false → v = .slice B fs.length d) ∧ (((decide ((p[k]'hlt) < 0))) = true → v = undef) | 12 => (((decide ((p[k]'hlt) < 0))) = false → v = .int .i64 fs.length) ∧ (((decide ((p[k]'hlt) < 0))) = true → v = undef) | 13 => (((decide ((p[k]'hlt) < 0))) = false → v = .bool (decide ((fs.length : Int) ≤ (p[k]'hlt)))) ∧ (((decide ((p[k]'hlt) < 0))) = true → v = undef) | 14 => v = .bool (decide ((p[k]'hlt) < 0) || decide ((fs.length : Int) ≤ (p[k]'hlt))) | _ => True) (by kernel_rfl) (by kernel_rfl) ?_ ?_ ?_
          · intro ix v wv wv2 h hs
            match ix, h with
            | 0, h => exact h
            | 1, h => exact h
            | 2, h => exact h
            | 3, h => exact h
            | 4, h => exact h
            | 5, h => exact h
            | 6, h => exact h
            | 7, h => exact h
            | 8, h => exact h
            | 9, h => exact h
            | 10, h => exact h
            | 11, h => exact h
            | 12, h => exact h
            | 13, h => exact h
            | 14, h => exact h
            | _ + 15, h => exact trivial
          · intro ix o hix hoq gg wx hs hd hdis
            match ix, hix, hoq with
            | 0, _, hoq =>
              obtain rfl : _ = o := Option.some.inj hoq
              have hs0 := hs
              replace hB := hB.tr0 hs
              replace hb3 := hb3.tr0 hs
              replace hb4 := hb4.tr0 hs
              replace hBA := hBA.tr0 hs
              replace hb10 := hb10.tr0 hs
              replace hb12 := hb12.tr0 hs
              replace hb13 := hb13.tr0 hs
              clear hs
              refine ⟨fun _ => ?_, fun hw => Bool.noConfusion (show true = false from hw)⟩
              refine os_rv (r_mv (v := .slice _ _ _) rfl) ⟨Same.refl _ _, ?_, frsh_no⟩
              exact rfl
            | 1, _, hoq =>
              obtain rfl : _ = o := Option.some.inj hoq
              have hs0 := hs
              replace hB := hB.tr0 hs
              replace hb3 := hb3.tr0 hs
              replace hb4 := hb4.tr0 hs
              replace hBA := hBA.tr0 hs
              replace hb10 := hb10.tr0 hs
              replace hb12 := hb12.tr0 hs
              replace hb13 := hb13.tr0 hs
              clear hs
              refine ⟨fun _ => ?_, fun hw => Bool.noConfusion (show true = false from hw)⟩
              refine os_rv (r_mv (v := .int _ _) rfl) ⟨Same.refl _ _, ?_, frsh_no⟩
              exact rfl
            | 2, _, hoq =>
              obtain rfl : _ = o := Option.some.inj hoq
              have hs0 := hs
              replace hB := hB.tr0 hs
              replace hb3 := hb3.tr0 hs
              replace hb4 := hb4.tr0 hs
              replace hBA := hBA.tr0 hs
              replace hb10 := hb10.tr0 hs
              replace hb12 := hb12.tr0 hs
              replace hb13 := hb13.tr0 hs
              clear hs
              have d0 : gg 64 = .slice (some ⟨pb, po, none⟩) p.length cp := hd 0 (dep_of (by kernel_rfl))
              have e64 := d0
              have d1 : gg 65 = .int .i64 k := hd 1 (dep_of (by kernel_rfl))
              have e65 := d1
              refine ⟨fun _ => ?_, fun hw => Bool.noConfusion (show true = false from hw)⟩
              refine os_know 64 (.slice (some ⟨pb, po, none⟩) p.length cp) e64 (by simp [undef]) ?_
              refine os_know 65 (.int .i64 k) e65 (by simp [undef]) ?_
              refine os_rv (r_ia (i := k) Tryd.underlying52 sz3 rfl rfl (by omega) rfl) ⟨Same.refl _ _, ?_, frsh_no⟩
              exact rfl
            | 3, _, hoq =>
              obtain rfl : _ = o := Option.some.inj hoq
              have hs0 := hs
              replace hB := hB.tr0 hs
              replace hb3 := hb3.tr0 hs
              replace hb4 := hb4.tr0 hs
              replace hBA := hBA.tr0 hs
              replace hb10 := hb10.tr0 hs
              replace hb12 := hb12.tr0 hs
              replace hb13 := hb13.tr0 hs
              clear hs
              have d2 : gg 66 = .pointer (some ⟨pb, po + k * 1, none⟩) := hd 2 (dep_of (by kernel_rfl))
              have e66 := d2
              refine ⟨fun _ => ?_, fun hw => Bool.noConfusion (show true = false from hw)⟩
              refine os_know 66 (.pointer (some ⟨pb, po + k * 1, none⟩)) e66 (by simp [undef]) ?_
              refine os_rv (r_ld1 (v := .int _ _) Tryd.underlying3 rfl rfl (hB.cell hpb hpc)) ⟨Same.refl _ _, ?_, frsh_no⟩
              exact rfl
            | 4, _, hoq =>
              obtain rfl : _ = o := Option.some.inj hoq
              have hs0 := hs
              replace hB := hB.tr0 hs
              replace hb3 := hb3.tr0 hs
              replace hb4 := hb4.tr0 hs
              replace hBA := hBA.tr0 hs
              replace hb10 := hb10.tr0 hs
              replace hb12 := hb12.tr0 hs
              replace hb13 := hb13.tr0 hs
              clear hs
              have d3 : gg 67 = .int .i64 (p[k]'hlt) := hd 3 (dep_of (by kernel_rfl))
              have e67 := d3
              refine ⟨fun _ => ?_, fun hw => Bool.noConfusion (show true = false from hw)⟩
              refine os_know 67 (.int .i64 (p[k]'hlt)) e67 (by simp [undef]) ?_
              refine os_rv (r_lss rfl rfl) ⟨Same.refl _ _, ?_, frsh_no⟩
              exact rfl
            | 5, _, hoq =>
              obtain rfl : _ = o := Option.some.inj hoq
              have hs0 := hs
              replace hB := hB.tr0 hs
              replace hb3 := hb3.tr0 hs
              replace hb4 := hb4.tr0 hs
              replace hBA := hBA.tr0 hs
              replace hb10 := hb10.tr0 hs
              replace hb12 := hb12.tr0 hs
              replace hb13 := hb13.tr0 hs
              clear hs
              have d4 : gg 68 = .bool (decide ((p[k]'hlt) < 0)) := hd 4 (dep_of (by kernel_rfl))
              have e68 := d4
              refine ⟨fun _ => ?_, fun hw => Bool.noConfusion (show true = false from hw)⟩
              refine os_know 68 (.bool (decide ((p[k]'hlt) < 0))) e68 (by simp [undef]) ?_
              refine os_rv (r_mv (v := .bool _) rfl) ⟨Same.refl _ _, ?_, frsh_no⟩
              exact rfl
            | 6, _, hoq =>
              obtain rfl : _ = o := Option.some.inj hoq
              have hs0 := hs
              replace hB := hB.tr0 hs
              replace hb3 := hb3.tr0 hs
              replace hb4 := hb4.tr0 hs
              replace hBA := hBA.tr0 hs
              replace hb10 := hb10.tr0 hs
              replace hb12 := hb12.tr0 hs
              replace hb13 := hb13.tr0 hs
              clear hs
              have d5 : gg 69 = .bool (decide ((p[k]'hlt) < 0)) := hd 5 (dep_of (by kernel_rfl))
              have e69 := d5
              refine guard_case 69 ((decide ((p[k]'hlt) < 0))) rfl e69 (fun hgc => ?_) (fun hgc => ⟨fun h => absurd (h.symm.trans hgc) (by decide), fun _ => rfl⟩)
              refine os_know 69 (.bool (decide ((p[k]'hlt) < 0))) e69 (by simp [undef]) ?_
              refine os_rv (r_mv (v := .slice _ _ _) rfl) ⟨Same.refl _ _, ?_, frsh_no⟩
              exact ⟨fun _ => rfl, fun h => absurd (h.symm.trans hgc) (by decide)⟩
            | 7, _, hoq =>
              obtain rfl : _ = o := Option.some.inj hoq
              have hs0 := hs
              replace hB := hB.tr0 hs
              replace hb3 := hb3.tr0 hs
              replace hb4 := hb4.tr0 hs
              replace hBA := hBA.tr0 hs
              replace hb10 := hb10.tr0 hs
              replace hb12 := hb12.tr0 hs
              replace hb13 := hb13.tr0 hs
              clear hs
              have d5 : gg 69 = .bool (decide ((p[k]'hlt) < 0)) := hd 5 (dep_of (by kernel_rfl))
              have e69 := d5
              refine guard_case 69 ((decide ((p[k]'hlt) < 0))) rfl e69 (fun hgc => ?_) (fun hgc => ⟨fun h => absurd (h.symm.trans hgc) (by decide), fun _ => rfl⟩)
              refine os_know 69 (.bool (decide ((p[k]'hlt) < 0))) e69 (by simp [undef]) ?_
              refine os_rv (r_mv (v := .int _ _) rfl) ⟨Same.refl _ _, ?_, frsh_no⟩
              exact ⟨fun _ => rfl, fun h => absurd (h.symm.trans hgc) (by decide)⟩
            | 8, _, hoq =>
              obtain rfl : _ = o := Option.some.inj hoq
              have hs0 := hs
              replace hB := hB.tr0 hs
              replace hb3 := hb3.tr0 hs
              replace hb4 := hb4.tr0 hs
              replace hBA := hBA.tr0 hs
              replace hb10 := hb10.tr0 hs
              replace hb12 := hb12.tr0 hs
              replace hb13 := hb13.tr0 hs
              clear hs
              have d5 : gg 69 = .bool (decide ((p[k]'hlt) < 0)) := hd 5 (dep_of (by kernel_rfl))
              have e69 := d5
              have d6 : (((decide ((p[k]'hlt) < 0))) = false → gg 70 = .slice (some ⟨pb, po, none⟩) p.length cp) ∧ (((decide ((p[k]'hlt) < 0))) = true → gg 70 = undef) := hd 6 (dep_of (by kernel_rfl))
              have d7 : (((decide ((p[k]'hlt) < 0))) = false → gg 71 = .int .i64 k) ∧ (((decide ((p[k]'hlt) < 0))) = true → gg 71 = undef) := hd 7 (dep_of (by kernel_rfl))
              refine guard_case 69 ((decide ((p[k]'hlt) < 0))) rfl e69 (fun hgc => ?_) (fun hgc => ⟨fun h => absurd (h.symm.trans hgc) (by decide), fun _ => rfl⟩)
              have e70 := d6.1 hgc
              have e71 := d7.1 hgc
              refine os_know 69 (.bool (decide ((p[k]'hlt) < 0))) e69 (by simp [undef]) ?_
              refine os_know 70 (.slice (some ⟨pb, po, none⟩) p.length cp) e70 (by simp [undef]) ?_
              refine os_know 71 (.int .i64 k) e71 (by simp [undef]) ?_
              refine os_rv (r_ia (i := k) Tryd.underlying52 sz3 rfl rfl (by omega) rfl) ⟨Same.refl _ _, ?_, frsh_no⟩
              exact ⟨fun _ => rfl, fun h => absurd (h.symm.trans hgc) (by decide)⟩
            | 9, _, hoq =>
              obtain rfl : _ = o := Option.some.inj hoq
              have hs0 := hs
              replace hB := hB.tr0 hs
              replace hb3 := hb3.tr0 hs
              replace hb4 := hb4.tr0 hs
              replace hBA := hBA.tr0 hs
              replace hb10 := hb10.tr0 hs
              replace hb12 := hb12.tr0 hs
              replace hb13 := hb13.tr0 hs
              clear hs
              have d5 : gg 69 = .bool (decide ((p[k]'hlt) < 0)) := hd 5 (dep_of (by kernel_rfl))
              have e69 := d5
              have d8 : (((decide ((p[k]'hlt) < 0))) = false → gg 72 = .pointer (some ⟨pb, po + k * 1, none⟩)) ∧ (((decide ((p[k]'hlt) < 0))) = true → gg 72 = undef) := hd 8 (dep_of (by kernel_rfl))
              refine guard_case 69 ((decide ((p[k]'hlt) < 0))) rfl e69 (fun hgc => ?_) (fun hgc => ⟨fun h => absurd (h.symm.trans hgc) (by decide), fun _ => rfl⟩)
              have e72 := d8.1 hgc
              refine os_know 69 (.bool (decide ((p[k]'hlt) < 0))) e69 (by simp [undef]) ?_
              refine os_know 72 (.pointer (some ⟨pb, po + k * 1, none⟩)) e72 (by simp [undef]) ?_
              refine os_rv (r_ld1 (v := .int _ _) Tryd.underlying3 rfl rfl (hB.cell hpb hpc)) ⟨Same.refl _ _, ?_, frsh_no⟩
              exact ⟨fun _ => rfl, fun h => absurd (h.symm.trans hgc) (by decide)⟩
            | 10, _, hoq =>
              obtain rfl : _ = o := Option.some.inj hoq
              have hs0 := hs
              replace hB := hB.tr0 hs
              replace hb3 := hb3.tr0 hs
              replace hb4 := hb4.tr0 hs
              replace hBA := hBA.tr0 hs
              replace hb10 := hb10.tr0 hs
              replace hb12 := hb12.tr0 hs
              replace hb13 := hb13.tr0 hs
              clear hs
              have d5 : gg 69 = .bool (decide ((p[k]'hlt) < 0)) := hd 5 (dep_of (by kernel_rfl))
              have e69 := d5
              refine guard_case 69 ((decide ((p[k]'hlt) < 0))) rfl e69 (fun hgc => ?_) (fun hgc => ⟨fun h => absurd (h.symm.trans hgc) (by decide), fun _ => rfl⟩)
              refine os_know 69 (.bool (decide ((p[k]'hlt) < 0))) e69 (by simp [undef]) ?_
              refine os_rv (r_fa Tryd.underlying25 sz23 (by decide) rfl rfl rfl) ⟨Same.refl _ _, ?_, frsh_no⟩
              exact ⟨fun _ => rfl, fun h => absurd (h.symm.trans hgc) (by decide)⟩
            | 11, _, hoq =>
              obtain rfl : _ = o := Option.some.inj hoq
              have hs0 := hs
              replace hB := hB.tr0 hs
              replace hb3 := hb3.tr0 hs
              replace hb4 := hb4.tr0 hs
              replace hBA := hBA.tr0 hs
              replace hb10 := hb10.tr0 hs
              replace hb12 := hb12.tr0 hs
              replace hb13 := hb13.tr0 hs
              clear hs
              have d5 : gg 69 = .bool (decide ((p[k]'hlt) < 0)) := hd 5 (dep_of (by kernel_rfl))
              have e69 := d5
              have d10 : (((decide ((p[k]'hlt) < 0))) = false → gg 74 = .pointer (some ⟨b3, 1, none⟩)) ∧ (((decide ((p[k]'hlt) < 0))) = true → gg 74 = undef) := hd 10 (dep_of (by kernel_rfl))
              refine guard_case 69 ((decide ((p[k]'hlt) < 0))) rfl e69 (fun hgc => ?_) (fun hgc => ⟨fun h => absurd (h.symm.trans hgc) (by decide), fun _ => rfl⟩)
              have e74 := d10.1 hgc
              refine os_know 69 (.bool (decide ((p[k]'hlt) < 0))) e69 (by simp [undef]) ?_
              refine os_know 74 (.pointer (some ⟨b3, 1, none⟩)) e74 (by simp [undef]) ?_
              refine os_rv (r_ld1 (v := .slice _ _ _) Tryd.underlying23 rfl rfl (hb3.cell rfl)) ⟨Same.refl _ _, ?_, frsh_no⟩
              exact ⟨fun _ => rfl, fun h => absurd (h.symm.trans hgc) (by decide)⟩
            | 12, _, hoq =>
              obtain rfl : _ = o := Option.some.inj hoq
              have hs0 := hs
              replace hB := hB.tr0 hs
              replace hb3 := hb3.tr0 hs
              replace hb4 := hb4.tr0 hs
              replace hBA := hBA.tr0 hs
              replace hb10 := hb10.tr0 hs
              replace hb12 := hb12.tr0 hs
              replace hb13 := hb13.tr0 hs
              clear hs
              have d5 : gg 69 = .bool (decide ((p[k]'hlt) < 0)) := hd 5 (dep_of (by kernel_rfl))
              have e69 := d5
              have d11 : (((decide ((p[k]'hlt) < 0))) = false → gg 75 = .slice B fs.length d) ∧ (((decide ((p[k]'hlt) < 0))) = true → gg 75 = undef) := hd 11 (dep_of (by kernel_rfl))
              refine guard_case 69 ((decide ((p[k]'hlt) < 0))) rfl e69 (fun hgc => ?_) (fun hgc => ⟨fun h => absurd (h.symm.trans hgc) (by decide), fun _ => rfl⟩)
              have e75 := d11.1 hgc
              refine os_know 69 (.bool (decide ((p[k]'hlt) < 0))) e69 (by simp [undef]) ?_
              refine os_know 75 (.slice B fs.length d) e75 (by simp [undef]) ?_
              refine os_rv (r_len Tryd.underlying23 rfl) ⟨Same.refl _ _, ?_, frsh_no⟩
              exact ⟨fun _ => rfl, fun h => absurd (h.symm.trans hgc) (by decide)⟩
            | 13, _, hoq =>
              obtain rfl : _ = o := Option.some.inj hoq
              have hs0 := hs
              replace hB := hB.tr0 hs
              replace hb3 := hb3.tr0 hs
              replace hb4 := hb4.tr0 hs
              replace hBA := hBA.tr0 hs
              replace hb10 := hb10.tr0 hs
              replace hb12 := hb12.tr0 hs
              replace hb13 := hb13.tr0 hs
              clear hs
              have d5 : gg 69 = .bool (decide ((p[k]'hlt) < 0)) := hd 5 (dep_of (by kernel_rfl))
              have e69 := d5
              have d9 : (((decide ((p[k]'hlt) < 0))) = false → gg 73 = .int .i64 (p[k]'hlt)) ∧ (((decide ((p[k]'hlt) < 0))) = true → gg 73 = undef) := hd 9 (dep_of (by kernel_rfl))
              have d12 : (((decide ((p[k]'hlt) < 0))) = false → gg 76 = .int .i64 fs.length) ∧ (((decide ((p[k]'hlt) < 0))) = true → gg 76 = undef) := hd 12 (dep_of (by kernel_rfl))
              refine guard_case 69 ((decide ((p[k]'hlt) < 0))) rfl e69 (fun hgc => ?_) (fun hgc => ⟨fun h => absurd (h.symm.trans hgc) (by decide), fun _ => rfl⟩)
              have e73 := d9.1 hgc
              have e76 := d12.1 hgc
              refine os_know 69 (.bool (decide ((p[k]'hlt) < 0))) e69 (by simp [undef]) ?_
              refine os_know 73 (.int .i64 (p[k]'hlt)) e73 (by simp [undef]) ?_
              refine os_know 76 (.int .i64 fs.length) e76 (by simp [undef]) ?_
              refine os_rv (r_geq rfl rfl) ⟨Same.refl _ _, ?_, frsh_no⟩
              exact ⟨fun _ => rfl, fun h => absurd (h.symm.trans hgc) (by decide)⟩
            | 14, _, hoq =>
              obtain rfl : _ = o := Option.some.inj hoq
              have hs0 := hs
              replace hB := hB.tr0 hs
              replace hb3 := hb3.tr0 hs
              replace hb4 := hb4.tr0 hs
              replace hBA := hBA.tr0 hs
              replace hb10 := hb10.tr0 hs
              replace hb12 := hb12.tr0 hs
              replace hb13 := hb13.tr0 hs
              clear hs
              have d5 : gg 69 = .bool (decide ((p[k]'hlt) < 0)) := hd 5 (dep_of (by kernel_rfl))
              have e69 := d5
              have d13 : (((decide ((p[k]'hlt) < 0))) = false → gg 77 = .bool (decide ((fs.length : Int) ≤ (p[k]'hlt)))) ∧ (((decide ((p[k]'hlt) < 0))) = true → gg 77 = undef) := hd 13 (dep_of (by kernel_rfl))
              refine ⟨fun _ => ?_, fun hw => Bool.noConfusion (show true = false from hw)⟩
              cases hcc : (decide ((p[k]'hlt) < 0)) with
              | true =>
                rw [hcc] at e69
                refine os_know 69 (.bool true) e69 (by simp [undef]) ?_
                refine os_rv (r_pt (v := .bool _) rfl rfl) ⟨Same.refl _ _, ?_, frsh_no⟩
                exact rfl
              | false =>
                have e77 := d13.1 hcc
                rw [hcc] at e69
                refine os_know 69 (.bool false) e69 (by simp [undef]) ?_
                refine os_know 77 (.bool (decide ((fs.length : Int) ≤ (p[k]'hlt)))) e77 (by simp [undef]) ?_
                refine os_rv (r_pf (v := .bool _) rfl rfl) ⟨Same.refl _ _, ?_, frsh_no⟩
                exact rfl
            | _ + 15, hix, _ => exact absurd hix (by omega)
          · intro gg w28 hs hR hdis
            have hs0 := hs
            replace hB := hB.tr0 hs
            replace hb3 := hb3.tr0 hs
            replace hb4 := hb4.tr0 hs
            replace hBA := hBA.tr0 hs
            replace hb10 := hb10.tr0 hs
            replace hb12 := hb12.tr0 hs
            replace hb13 := hb13.tr0 hs
            clear hs
            have d14 : gg 78 = .bool (decide ((p[k]'hlt) < 0) || decide ((fs.length : Int) ≤ (p[k]'hlt))) := hR 14 (by decide)
            have e78 := d14
            refine wl_know 78 (.bool (decide ((p[k]'hlt) < 0) || decide ((fs.length : Int) ≤ (p[k]'hlt)))) e78 (by simp [undef]) ?_
            refine x_nil ?_
            refine e_S ?_
            refine c_if rfl (fun c78 => ?_) (fun c78 => ?_)
            · have hbad : (p[k]'hlt) < 0 ∨ (fs.length : Int) ≤ (p[k]'hlt) := by simpa using c78
              refine c_region ?_
              refine wl (r_mv (v := .int _ _) rfl) ?_
              refine wl (r_bd2 (v0 := .int _ _) (v1 := .int _ _) (fun v0 v1 => #[v0, v1]) rfl rfl (by kernel_rfl)) ?_
              refine wl_stW hb13 rfl rfl sz30 rfl (by repeat (first | rfl | refine one_cons (by first | rfl | assumption) ?_)) (fun w29 hq hs => ?_)
              replace hB := hB.tr1 hs lo13
              replace hb3 := hb3.tr1 hs (by omega)
              replace hb4 := hb4.tr1 hs (by omega)
              replace hBA := hBA.tr1 hs lo_hBA_b13
              replace hb10 := hb10.tr1 hs (by omega)
              replace hb12 := hb12.tr1 hs (by omega)
              clear hs
              replace hb13 := hq
              obtain ⟨z2, hz2, hWz2⟩ : ∃ zq : Fl, zq = (3, (k : Int)) ∧ Want l fs gr p (k + 1) zq := ⟨_, rfl, want_bad hWk hz0 hlt hbad⟩
              replace hb13 : Blk w29 b13 30 #[.int .i64 z2.1, .int .i64 z2.2] := by rw [hz2]; exact hb13
              refine x_nil ?_
              refine e_B ?_
              refine e_S ?_
              refine c_region ?_
              refine wl (r_mv (v := .int _ _) rfl) ?_
              refine wl (r_add rfl rfl rfl (by omega)) ?_
              refine wl (r_as (v := .int _ _) rfl) ?_
              refine x_nil ?_
              refine e_LS (p.length - (k + 1)) (by omega) (by repeat (first | exact ag_refl | exact ag_ovr' | refine ag_upd rfl ?_ | refine ag_sub rfl ?_ | refine ag_kn (by assumption) ?_)) ?_
              exact ⟨k + 1, z2, by omega, rfl, rfl, hB, hBA, hb3, hb4, hb10, hb12, hb13, hWz2⟩
            · have hgood : ¬ ((p[k]'hlt) < 0 ∨ (fs.length : Int) ≤ (p[k]'hlt)) := fun h => by simp at c78; omega
              obtain ⟨z2, hz2, hWz2⟩ : ∃ zq : Fl, zq = z ∧ Want l fs gr p (k + 1) zq := ⟨_, rfl, want_step hWk hz0 hlt hgood⟩
              replace hb13 : Blk w28 b13 30 #[.int .i64 z2.1, .int .i64 z2.2] := by rw [hz2]; exact hb13
              refine c_skip ?_
              refine e_B ?_
              refine e_S ?_
              refine c_region ?_
              refine wl (r_mv (v := .int _ _) rfl) ?_
              refine wl (r_add rfl rfl rfl (by omega)) ?_
              refine wl (r_as (v := .int _ _) rfl) ?_
              refine x_nil ?_
              refine e_LS (p.length - (k + 1)) (by omega) (by repeat (first | exact ag_refl | exact ag_ovr' | refine ag_upd rfl ?_ | refine ag_sub rfl ?_ | refine ag_kn (by assumption) ?_)) ?_
              exact ⟨k + 1, z2, by omega, rfl, rfl, hB, hBA, hb3, hb4, hb10, hb12, hb13, hWz2⟩
        · have hzA := want_end hWk c61
          subst hzA
          refine c_exit ?_
          refine e_Sx ?_
          refine e_LSx ?_
          refine e_Bx ?_
          refine e_S ?_
          refine c_seq ?_
          refine c_region ?_
          refine wl (r_as (v := .int _ _) rfl) ?_
          refine x_nil ?_
          refine e_S ?_
          refine c_seq ?_
          refine c_seq ?_
          refine c_region ?_
          refine wl (r_as (v := .int _ _) rfl) ?_
          refine x_nil ?_
          refine e_S ?_
          refine c_block ?_
          refine c_loopS [15, 16, 81, 82, 83, 84, 85, 86, 87, 88, 89, 90, 91, 92, 93, 94, 95, 96, 97, 98, 99, 100, 101, 102] (fun m g w' => ∃ (k : Nat) (a : Int), k ≤ p.length ∧ m = p.length - k ∧ g 16 = .int .i64 k ∧ g 15 = .int .i64 a ∧ Bel w w' ∧ Bel wA w' ∧ Blk w' b4 28 #[.slice G gr.length cg] ∧ Blk w' b10 28 #[.slice AA (atG l fs gr p).length (atG l fs gr p).length] ∧ Blk w' b12 30 #[.int .i64 (atF l fs gr p).1, .int .i64 (atF l fs gr p).2] ∧ Blk w' b13 30 #[.int .i64 (atF l fs gr p).1, .int .i64 (atF l fs gr p).2] ∧ ((atF l fs gr p).1 = 0 → -1 ≤ a ∧ a < gr.length ∧ walkT gr p 0 = walkT gr (p.drop k) a)) (p.length) ?_ (fun m g15 w30 hI => ?_)
          · exact ⟨0, 0, Nat.zero_le _, rfl, rfl, rfl, hB, hBA, hb4, hb10, hb12, hb13, fun h => ⟨by omega, by have := (gv_of (atF_zero h).1).gok.pos; omega, rfl⟩⟩
          obtain ⟨k, a, hkk, hm, h16, h15, hB, hBA, hb4, hb10, hb12, hb13, hWa⟩ := hI
          refine c_know 16 (.int .i64 k) h16 (by simp [undef]) ?_
          refine c_know 15 (.int .i64 a) h15 (by simp [undef]) ?_
          refine c_seq ?_
          refine c_seq ?_
          refine c_cut1 [81, 82, 83, 84, 85, 86, 87, 88, 89, 90, 91, 92, 93] 93 (.bool (decide (((k : Int) < (p.length : Int) ∧ (atF l fs gr p).1 = 0) ∧ 0 ≤ a))) (by simp [undef]) ?_ (fun gq => ?_)
          · refine c_region ?_
            refine wl (r_mv (v := .int _ _) rfl) ?_
            refine wl (r_mv (v := .slice _ _ _) rfl) ?_
            refine wl (r_len Tryd.underlying52 rfl) ?_
            refine wl (r_lss rfl rfl) ?_
            refine wl (r_mv (v := .bool _) rfl) ?_
            refine wl_casesd 85 rfl (fun g85 => ?_) (fun g85 => ?_)
            · skip
              refine wl_gd 85 rfl rfl ?_
              refine wl (r_fa Tryd.underlying30 sz3 (by decide) rfl rfl rfl) ?_
              refine wl_gd 85 rfl rfl ?_
              refine wl (r_ld1 (v := .int _ _) Tryd.underlying3 rfl rfl (hb13.cell rfl)) ?_
              refine wl_gd 85 rfl rfl ?_
              refine wl (r_eql rfl rfl) ?_
              refine wl (r_pt (v := .bool _) rfl rfl) ?_
              refine wl (r_mv (v := .bool _) rfl) ?_
              refine wl_casesd 90 rfl (fun g90 => ?_) (fun g90 => ?_)
              · skip
                refine wl_gd 90 rfl rfl ?_
                refine wl (r_mv (v := .int _ _) rfl) ?_
                refine wl_gd 90 rfl rfl ?_
                refine wl (r_geq rfl rfl) ?_
                refine wl (r_pt (v := .bool _) rfl rfl) ?_
                refine x_nil (e_R ⟨rfl, (by repeat (first | exact ag_refl | exact ag_ovr' | refine ag_upd rfl ?_ | refine ag_sub rfl ?_ | refine ag_kn (by assumption) ?_)), ?_⟩)
                show Value.bool _ = Value.bool _
                first | exact congrArg Value.bool (decide_eq_true (by omega)).symm | exact congrArg Value.bool (decide_eq_false (by omega)).symm | exact congrArg Value.bool (decide_eq_decide.2 (by omega)) | exact congrArg Value.bool ((decide_not).symm.trans (decide_eq_decide.2 (by omega)))
              · skip
                refine wlgn 90 rfl rfl rfl ?_
                refine wlgn 90 rfl rfl rfl ?_
                refine wl (r_pf (v := .bool _) rfl rfl) ?_
                refine x_nil (e_R ⟨rfl, (by repeat (first | exact ag_refl | exact ag_ovr' | refine ag_upd rfl ?_ | refine ag_sub rfl ?_ | refine ag_kn (by assumption) ?_)), ?_⟩)
                show Value.bool _ = Value.bool _
                first | exact congrArg Value.bool (decide_eq_true (by omega)).symm | exact congrArg Value.bool (decide_eq_false (by omega)).symm | exact congrArg Value.bool (decide_eq_decide.2 (by omega)) | exact congrArg Value.bool ((decide_not).symm.trans (decide_eq_decide.2 (by omega)))
            · skip
              refine wlgn 85 rfl rfl rfl ?_
              refine wlgn 85 rfl rfl rfl ?_
              refine wlgn 85 rfl rfl rfl ?_
              refine wl (r_pf (v := .bool _) rfl rfl) ?_
              refine wl (r_mv (v := .bool _) rfl) ?_
              refine wlgn 90 rfl rfl rfl ?_
              refine wlgn 90 rfl rfl rfl ?_
              refine wl (r_pf (v := .bool _) rfl rfl) ?_
              refine x_nil (e_R ⟨rfl, (by repeat (first | exact ag_refl | exact ag_ovr' | refine ag_upd rfl ?_ | refine ag_sub rfl ?_ | refine ag_kn (by assumption) ?_)), ?_⟩)
              show Value.bool _ = Value.bool _
              first | exact congrArg Value.bool (decide_eq_true (by omega)).symm | exact congrArg Value.bool (decide_eq_false (by omega)).symm | exact congrArg Value.bool (decide_eq_decide.2 (by omega)) | exact congrArg Value.bool ((decide_not).symm.trans (decide_eq_decide.2 (by omega)))
          refine e_S ?_
          refine c_ifd rfl (fun c93 => ?_) (fun c93 => ?_)
          · have hlt : k < p.length := by omega
            obtain ⟨hz1, hz2⟩ := atF_zero c93.1.2
            have hgv := gv_of hz1
            obtain ⟨_, hal0, hwk⟩ := hWa c93.1.2
            obtain ⟨an, rfl⟩ : ∃ an : Nat, a = an := ⟨a.toNat, by omega⟩
            have hal : an < gr.length := by omega
            obtain ⟨pb, po, rfl, hpb, hpc⟩ := hP.at_ hlt
            have hrg := tgt_rng hgv.gok hal (p[k]'hlt)
            refine c_skip ?_
            refine e_S ?_
            refine c_seq ?_
            refine c_block ?_
            refine c_monoTO 7 [96, 97, 98, 99, 100, 101, 102] (fun _ => false) (fun ix v wv => match ix with | 0 => v = .agg #[.slice G gr.length cg] | 1 => v = .int .i64 an | 2 => v = .slice (some ⟨pb, po, none⟩) p.length cp | 3 => v = .int .i64 k | 4 => v = .pointer (some ⟨pb, po + k * 1, none⟩) | 5 => v = .int .i64 (p[k]'hlt) | 6 => v = .int .i64 (tgt (gr[an]'hal).ln (p[k]'hlt)) | _ => True) (by kernel_rfl) (by kernel_rfl) ?_ ?_ ?_
            · intro ix v wv wv2 h hs
              match ix, h with
              | 0, h => exact h
              | 1, h => exact h
              | 2, h => exact h
              | 3, h => exact h
              | 4, h => exact h
              | 5, h => exact h
              | 6, h => exact h
              | _ + 7, h => exact trivial
            · intro ix o hix hoq gg wx hs hd hdis
              match ix, hix, hoq with
              | 0, _, hoq =>
                obtain rfl : _ = o := Option.some.inj hoq
                have hs0 := hs
                replace hB := hB.tr0 hs
                replace hb4 := hb4.tr0 hs
                replace hBA := hBA.tr0 hs
                replace hb10 := hb10.tr0 hs
                replace hb12 := hb12.tr0 hs
                replace hb13 := hb13.tr0 hs
                clear hs
                refine os_rv (r_ldS Tryd.underlying28 rfl rfl hb4.range0 sz28) ⟨Same.refl _ _, ?_, frsh_no⟩
                exact rfl
              | 1, _, hoq =>
                obtain rfl : _ = o := Option.some.inj hoq
                have hs0 := hs
                replace hB := hB.tr0 hs
                replace hb4 := hb4.tr0 hs
                replace hBA := hBA.tr0 hs
                replace hb10 := hb10.tr0 hs
                replace hb12 := hb12.tr0 hs
                replace hb13 := hb13.tr0 hs
                clear hs
                refine os_rv (r_mv (v := .int _ _) rfl) ⟨Same.refl _ _, ?_, frsh_no⟩
                exact rfl
              | 2, _, hoq =>
                obtain rfl : _ = o := Option.some.inj hoq
                have hs0 := hs
                replace hB := hB.tr0 hs
                replace hb4 := hb4.tr0 hs
                replace hBA := hBA.tr0 hs
                replace hb10 := hb10.tr0 hs
                replace hb12 := hb12.tr0 hs
                replace hb13 := hb13.tr0 hs
                clear hs
                refine os_rv (r_mv (v := .slice _ _ _) rfl) ⟨Same.refl _ _, ?_, frsh_no⟩
                exact rfl
              | 3, _, hoq =>
                obtain rfl : _ = o := Option.some.inj hoq
                have hs0 := hs
                replace hB := hB.tr0 hs
                replace hb4 := hb4.tr0 hs
                replace hBA := hBA.tr0 hs
                replace hb10 := hb10.tr0 hs
                replace hb12 := hb12.tr0 hs
                replace hb13 := hb13.tr0 hs
                clear hs
                refine os_rv (r_mv (v := .int _ _) rfl) ⟨Same.refl _ _, ?_, frsh_no⟩
                exact rfl
              | 4, _, hoq =>
                obtain rfl : _ = o := Option.some.inj hoq
                have hs0 := hs
                replace hB := hB.tr0 hs
                replace hb4 := hb4.tr0 hs
                replace hBA := hBA.tr0 hs
                replace hb10 := hb10.tr0 hs
                replace hb12 := hb12.tr0 hs
                replace hb13 := hb13.tr0 hs
                clear hs
                have d2 : gg 98 = .slice (some ⟨pb, po, none⟩) p.length cp := hd 2 (dep_of (by kernel_rfl))
                have e98 := d2
                have d3 : gg 99 = .int .i64 k := hd 3 (dep_of (by kernel_rfl))
                have e99 := d3
                refine os_know 98 (.slice (some ⟨pb, po, none⟩) p.length cp) e98 (by simp [undef]) ?_
                refine os_know 99 (.int .i64 k) e99 (by simp [undef]) ?_
                refine os_rv (r_ia (i := k) Tryd.underlying52 sz3 rfl rfl (by omega) rfl) ⟨Same.refl _ _, ?_, frsh_no⟩
                exact rfl
              | 5, _, hoq =>
                obtain rfl : _ = o := Option.some.inj hoq
                have hs0 := hs
                replace hB := hB.tr0 hs
                replace hb4 := hb4.tr0 hs
                replace hBA := hBA.tr0 hs
                replace hb10 := hb10.tr0 hs
                replace hb12 := hb12.tr0 hs
                replace hb13 := hb13.tr0 hs
                clear hs
                have d4 : gg 100 = .pointer (some ⟨pb, po + k * 1, none⟩) := hd 4 (dep_of (by kernel_rfl))
                have e100 := d4
                refine os_know 100 (.pointer (some ⟨pb, po + k * 1, none⟩)) e100 (by simp [undef]) ?_
                refine os_rv (r_ld1 (v := .int _ _) Tryd.underlying3 rfl rfl (hB.cell hpb hpc)) ⟨Same.refl _ _, ?_, frsh_no⟩
                exact rfl
              | 6, _, hoq =>
                obtain rfl : _ = o := Option.some.inj hoq
                have hs0 := hs
                replace hB := hB.tr0 hs
                replace hb4 := hb4.tr0 hs
                replace hBA := hBA.tr0 hs
                replace hb10 := hb10.tr0 hs
                replace hb12 := hb12.tr0 hs
                replace hb13 := hb13.tr0 hs
                clear hs
                have d0 : gg 96 = .agg #[.slice G gr.length cg] := hd 0 (dep_of (by kernel_rfl))
                have e96 := d0
                have d1 : gg 97 = .int .i64 an := hd 1 (dep_of (by kernel_rfl))
                have e97 := d1
                have d5 : gg 101 = .int .i64 (p[k]'hlt) := hd 5 (dep_of (by kernel_rfl))
                have e101 := d5
                refine os_know 96 (.agg #[.slice G gr.length cg]) e96 (by simp [undef]) ?_
                refine os_know 97 (.int .i64 an) e97 (by simp [undef]) ?_
                refine os_know 101 (.int .i64 (p[k]'hlt)) e101 (by simp [undef]) ?_
                refine os_cl fn24 (rtarget_any G cg gr an (p[k]'hlt) wx (hG.mono hB) hal) rfl (fun e' w2 hr => ?_)
                obtain ⟨rfl, hs⟩ := hr
                exact ⟨_, rfl, Same.of_bel hs, rfl, frsh_no⟩
              | _ + 7, hix, _ => exact absurd hix (by omega)
            · intro gg w31 hs hR hdis
              have hs0 := hs
              replace hB := hB.tr0 hs
              replace hb4 := hb4.tr0 hs
              replace hBA := hBA.tr0 hs
              replace hb10 := hb10.tr0 hs
              replace hb12 := hb12.tr0 hs
              replace hb13 := hb13.tr0 hs
              clear hs
              have d6 : gg 102 = .int .i64 (tgt (gr[an]'hal).ln (p[k]'hlt)) := hR 6 (by decide)
              have e102 := d6
              refine wl_know 102 (.int .i64 (tgt (gr[an]'hal).ln (p[k]'hlt))) e102 (by simp [undef]) ?_
              refine wl (r_as (v := .int _ _) rfl) ?_
              refine x_nil ?_
              refine e_B ?_
              refine e_S ?_
              refine c_region ?_
              refine wl (r_mv (v := .int _ _) rfl) ?_
              refine wl (r_add rfl rfl rfl (by omega)) ?_
              refine wl (r_as (v := .int _ _) rfl) ?_
              refine x_nil ?_
              refine e_LS (p.length - (k + 1)) (by omega) (by repeat (first | exact ag_refl | exact ag_ovr' | refine ag_upd rfl ?_ | refine ag_sub rfl ?_ | refine ag_kn (by assumption) ?_)) ?_
              exact ⟨k + 1, _, by omega, rfl, rfl, rfl, hB, hBA, hb4, hb10, hb12, hb13, fun _ => ⟨hrg.1, hrg.2, by rw [hwk, walkT_step hlt hal]⟩⟩
          · have hfin : (atF l fs gr p).1 = 0 → walkT gr p 0 = a := fun h => by
              obtain ⟨_, _, e⟩ := hWa h
              by_cases hkn : k < p.length
              · have ha : a < 0 := Int.not_le.1 (fun h3 => c93 ⟨⟨by omega, h⟩, h3⟩)
                rw [e, walkT_neg ha]
              · have hke : k = p.length := by omega
                rw [hke, List.drop_length] at e
                exact e
            refine c_exit ?_
            refine e_Sx ?_
            refine e_LSx ?_
            refine e_Bx ?_
            refine e_S ?_
            refine c_seq ?_
            refine c_seq ?_
            refine c_cut1 [103, 104, 105, 106, 107, 108, 109] 109 (.bool (decide (¬ (atF l fs gr p).1 = 0 ∨ a < 0))) (by simp [undef]) ?_ (fun gq => ?_)
            · refine c_region ?_
              refine wl (r_fa Tryd.underlying30 sz3 (by decide) rfl rfl rfl) ?_
              refine wl (r_ld1 (v := .int _ _) Tryd.underlying3 rfl rfl (hb13.cell rfl)) ?_
              refine wl (r_neq rfl rfl) ?_
              refine wl (r_mv (v := .bool _) rfl) ?_
              refine wl_casesd 106 rfl (fun g106 => ?_) (fun g106 => ?_)
              · skip
                refine wlgn 106 rfl rfl rfl ?_
                refine wlgn 106 rfl rfl rfl ?_
                refine wl (r_pt (v := .bool _) rfl rfl) ?_
                refine x_nil (e_R ⟨rfl, (by repeat (first | exact ag_refl | exact ag_ovr' | refine ag_upd rfl ?_ | refine ag_sub rfl ?_ | refine ag_kn (by assumption) ?_)), ?_⟩)
                show Value.bool _ = Value.bool _
                first | exact congrArg Value.bool (decide_eq_true (by omega)).symm | exact congrArg Value.bool (decide_eq_false (by omega)).symm | exact congrArg Value.bool (decide_eq_decide.2 (by omega)) | exact congrArg Value.bool ((decide_not).symm.trans (decide_eq_decide.2 (by omega)))
              · skip
                refine wl_gd 106 rfl rfl ?_
                refine wl (r_mv (v := .int _ _) rfl) ?_
                refine wl_gd 106 rfl rfl ?_
                refine wl (r_lss rfl rfl) ?_
                refine wl (r_pf (v := .bool _) rfl rfl) ?_
                refine x_nil (e_R ⟨rfl, (by repeat (first | exact ag_refl | exact ag_ovr' | refine ag_upd rfl ?_ | refine ag_sub rfl ?_ | refine ag_kn (by assumption) ?_)), ?_⟩)
                show Value.bool _ = Value.bool _
                first | exact congrArg Value.bool (decide_eq_true (by omega)).symm | exact congrArg Value.bool (decide_eq_false (by omega)).symm | exact congrArg Value.bool (decide_eq_decide.2 (by omega)) | exact congrArg Value.bool ((decide_not).symm.trans (decide_eq_decide.2 (by omega)))
            refine e_S ?_
            refine c_ifd rfl (fun c109 => ?_) (fun c109 => ?_)
            · have hno : ¬ AtOk l fs gr p := fun h => by
                have h1 := hfin h.1
                have h2 := h.2
                rcases c109 with h3 | h3
                · exact h3 h.1
                · omega
              refine c_seq ?_
              refine c_region ?_
              refine wl (r_ldS Tryd.underlying30 rfl rfl hb12.range0 sz30) ?_
              refine wl (r_ldS Tryd.underlying30 rfl rfl hb13.range0 sz30) ?_
              refine wl (r_eqF Tryd.eqGuardType30 ft30 Tryd.stoodInHeld30 fd30 Tryd.underlying3 rfl rfl) ?_
              refine wl (r_mv (v := .bool true) (congrArg Value.bool (decide_eq_true ⟨rfl, rfl⟩))) ?_
              refine wl_gd 113 rfl rfl ?_
              refine wl (r_mv (v := .bool _) rfl) ?_
              refine wl_gd 113 rfl rfl ?_
              refine wl (r_not rfl) ?_
              refine wl (r_pt (v := .bool _) rfl rfl) ?_
              refine wl (r_mv (v := .bool true) (congrArg Value.bool (by simp [hno]))) ?_
              refine wl_gd 117 rfl rfl ?_
              refine wl (r_fa Tryd.underlying28 sz26 (by decide) rfl rfl rfl) ?_
              refine wl_gd 117 rfl rfl ?_
              refine wl (r_ld1 (v := .slice _ _ _) Tryd.underlying26 rfl rfl (hb10.cell rfl)) ?_
              refine wl_gd 117 rfl rfl ?_
              refine wl (r_len Tryd.underlying26 rfl) ?_
              refine wl_gd 117 rfl rfl ?_
              refine wl (r_eql rfl rfl) ?_
              refine wl (r_pt (v := .bool _) rfl rfl) ?_
              refine wl (r_as (v := .bool true) (congrArg Value.bool (decide_eq_true (by rw [atG_no hno]; rfl)))) ?_
              refine x_nil ?_
              refine e_S ?_
              refine c_ret ?_
              refine e_Sr ?_
              refine fin1 (.inl rfl) rfl rfl ?_
              exact ⟨rfl, hB⟩
            · have ha1 : (atF l fs gr p).1 = 0 := Decidable.not_not.1 (fun h => c109 (.inl h))
              have ha2 : 0 ≤ a := Int.not_lt.1 (fun h => c109 (.inr h))
              have hok : AtOk l fs gr p := ⟨ha1, by rw [hfin ha1]; exact ha2⟩
              obtain ⟨an, rfl⟩ : ∃ an : Nat, a = an := ⟨a.toNat, by omega⟩
              obtain ⟨a2, o2, hal2, hae2, hd2, heG⟩ := hAt hok
              have hea : a2 = an := by have := hfin ha1; omega
              subst hea
              have hgv := gv_of (atF_zero ha1).1
              have hf40 := hgv.few
              refine c_skip ?_
              refine e_S ?_
              refine c_seq ?_
              refine c_monoGO 13 [123, 124, 125, 126, 127, 128, 129, 130, 131, 132, 133, 134, 135] (fun _ => false) (fun ix v wv => match ix with | 0 => v = .agg #[.int .i64 (atF l fs gr p).1, .int .i64 (atF l fs gr p).2] | 1 => v = .agg #[.int .i64 (atF l fs gr p).1, .int .i64 (atF l fs gr p).2] | 2 => v = .bool true | 3 => v = .bool true | 4 => v = .bool true | 5 => v = .bool true | 6 => v = .bool true | 7 => v = .agg #[.slice AA (atG l fs gr p).length (atG l fs gr p).length] | 8 => v = .agg #[.slice G gr.length cg] | 9 => v = .int .i64 a2 | 10 => ∃ AR c, v = .agg #[.slice AR (canG gr o2).length c] ∧ NodesIn wv AR (canG gr o2) | 11 => v = .bool true | 12 => v = .bool true | _ => True) (by kernel_rfl) (by kernel_rfl) ?_ ?_ ?_
              · intro ix v wv wv2 h hs
                match ix, h with
                | 0, h => exact h
                | 1, h => exact h
                | 2, h => exact h
                | 3, h => exact h
                | 4, h => exact h
                | 5, h => exact h
                | 6, h => exact h
                | 7, h => exact h
                | 8, h => exact h
                | 9, h => exact h
                | 10, h =>
                  obtain ⟨AR, cR, e133, hNR⟩ := (show ∃ AR c, v = .agg #[.slice AR (canG gr o2).length c] ∧ NodesIn wv AR (canG gr o2) from h)
                  exact ⟨AR, cR, e133, hNR.mono hs.bel⟩
                | 11, h => exact h
                | 12, h => exact h
                | _ + 13, h => exact trivial
              · intro ix o hix hoq gg wx hs hd hdis
                match ix, hix, hoq with
                | 0, _, hoq =>
                  obtain rfl : _ = o := Option.some.inj hoq
                  have hs0 := hs
                  replace hB := hB.tr0 hs
                  replace hb4 := hb4.tr0 hs
                  replace hBA := hBA.tr0 hs
                  replace hb10 := hb10.tr0 hs
                  replace hb12 := hb12.tr0 hs
                  replace hb13 := hb13.tr0 hs
                  clear hs
                  refine ⟨fun _ => ?_, fun hw => Bool.noConfusion (show true = false from hw)⟩
                  refine os_rv (r_ldS Tryd.underlying30 rfl rfl hb12.range0 sz30) ⟨Same.refl _ _, ?_, frsh_no⟩
                  exact rfl
                | 1, _, hoq =>
                  obtain rfl : _ = o := Option.some.inj hoq
                  have hs0 := hs
                  replace hB := hB.tr0 hs
                  replace hb4 := hb4.tr0 hs
                  replace hBA := hBA.tr0 hs
                  replace hb10 := hb10.tr0 hs
                  replace hb12 := hb12.tr0 hs
                  replace hb13 := hb13.tr0 hs
                  clear hs
                  refine ⟨fun _ => ?_, fun hw => Bool.noConfusion (show true = false from hw)⟩
                  refine os_rv (r_ldS Tryd.underlying30 rfl rfl hb13.range0 sz30) ⟨Same.refl _ _, ?_, frsh_no⟩
                  exact rfl
                | 2, _, hoq =>
                  obtain rfl : _ = o := Option.some.inj hoq
                  have hs0 := hs
                  replace hB := hB.tr0 hs
                  replace hb4 := hb4.tr0 hs
                  replace hBA := hBA.tr0 hs
                  replace hb10 := hb10.tr0 hs
                  replace hb12 := hb12.tr0 hs
                  replace hb13 := hb13.tr0 hs
                  clear hs
                  have d0 : gg 123 = .agg #[.int .i64 (atF l fs gr p).1, .int .i64 (atF l fs gr p).2] := hd 0 (dep_of (by kernel_rfl))
                  have e123 := d0
                  have d1 : gg 124 = .agg #[.int .i64 (atF l fs gr p).1, .int .i64 (atF l fs gr p).2] := hd 1 (dep_of (by kernel_rfl))
                  have e124 := d1
                  refine ⟨fun _ => ?_, fun hw => Bool.noConfusion (show true = false from hw)⟩
                  refine os_know 123 (.agg #[.int .i64 (atF l fs gr p).1, .int .i64 (atF l fs gr p).2]) e123 (by simp [undef]) ?_
                  refine os_know 124 (.agg #[.int .i64 (atF l fs gr p).1, .int .i64 (atF l fs gr p).2]) e124 (by simp [undef]) ?_
                  refine os_rv (r_eqF Tryd.eqGuardType30 ft30 Tryd.stoodInHeld30 fd30 Tryd.underlying3 rfl rfl) ⟨Same.refl _ _, ?_, frsh_no⟩
                  exact (congrArg Value.bool (decide_eq_true ⟨rfl, rfl⟩))
                | 3, _, hoq =>
                  obtain rfl : _ = o := Option.some.inj hoq
                  have hs0 := hs
                  replace hB := hB.tr0 hs
                  replace hb4 := hb4.tr0 hs
                  replace hBA := hBA.tr0 hs
                  replace hb10 := hb10.tr0 hs
                  replace hb12 := hb12.tr0 hs
                  replace hb13 := hb13.tr0 hs
                  clear hs
                  have d2 : gg 125 = .bool true := hd 2 (dep_of (by kernel_rfl))
                  have e125 := d2
                  refine ⟨fun _ => ?_, fun hw => Bool.noConfusion (show true = false from hw)⟩
                  refine os_know 125 (.bool true) e125 (by simp [undef]) ?_
                  refine os_rv (r_mv (v := .bool _) rfl) ⟨Same.refl _ _, ?_, frsh_no⟩
                  exact rfl
                | 4, _, hoq =>
                  obtain rfl : _ = o := Option.some.inj hoq
                  have hs0 := hs
                  replace hB := hB.tr0 hs
                  replace hb4 := hb4.tr0 hs
                  replace hBA := hBA.tr0 hs
                  replace hb10 := hb10.tr0 hs
                  replace hb12 := hb12.tr0 hs
                  replace hb13 := hb13.tr0 hs
                  clear hs
                  have d3 : gg 126 = .bool true := hd 3 (dep_of (by kernel_rfl))
                  have e126 := d3
                  refine guard_case 126 true rfl e126 (fun _ => ?_) (fun h => absurd h (by decide))
                  refine os_know 126 (.bool true) e126 (by simp [undef]) ?_
                  refine os_rv (r_mv (v := .bool _) rfl) ⟨Same.refl _ _, ?_, frsh_no⟩
                  exact (congrArg Value.bool (decide_eq_true hok))
                | 5, _, hoq =>
                  obtain rfl : _ = o := Option.some.inj hoq
                  have hs0 := hs
                  replace hB := hB.tr0 hs
                  replace hb4 := hb4.tr0 hs
                  replace hBA := hBA.tr0 hs
                  replace hb10 := hb10.tr0 hs
                  replace hb12 := hb12.tr0 hs
                  replace hb13 := hb13.tr0 hs
                  clear hs
                  have d3 : gg 126 = .bool true := hd 3 (dep_of (by kernel_rfl))
                  have e126 := d3
                  have d4 : gg 127 = .bool true := hd 4 (dep_of (by kernel_rfl))
                  have e127 := d4
                  refine ⟨fun _ => ?_, fun hw => Bool.noConfusion (show true = false from hw)⟩
                  refine os_know 126 (.bool true) e126 (by simp [undef]) ?_
                  refine os_know 127 (.bool true) e127 (by simp [undef]) ?_
                  refine os_rv (r_pt (v := .bool _) rfl rfl) ⟨Same.refl _ _, ?_, frsh_no⟩
                  exact rfl
                | 6, _, hoq =>
                  obtain rfl : _ = o := Option.some.inj hoq
                  have hs0 := hs
                  replace hB := hB.tr0 hs
                  replace hb4 := hb4.tr0 hs
                  replace hBA := hBA.tr0 hs
                  replace hb10 := hb10.tr0 hs
                  replace hb12 := hb12.tr0 hs
                  replace hb13 := hb13.tr0 hs
                  clear hs
                  have d5 : gg 128 = .bool true := hd 5 (dep_of (by kernel_rfl))
                  have e128 := d5
                  refine ⟨fun _ => ?_, fun hw => Bool.noConfusion (show true = false from hw)⟩
                  refine os_know 128 (.bool true) e128 (by simp [undef]) ?_
                  refine os_rv (r_mv (v := .bool _) rfl) ⟨Same.refl _ _, ?_, frsh_no⟩
                  exact rfl
                | 7, _, hoq =>
                  obtain rfl : _ = o := Option.some.inj hoq
                  have hs0 := hs
                  replace hB := hB.tr0 hs
                  replace hb4 := hb4.tr0 hs
                  replace hBA := hBA.tr0 hs
                  replace hb10 := hb10.tr0 hs
                  replace hb12 := hb12.tr0 hs
                  replace hb13 := hb13.tr0 hs
                  clear hs
                  have d6 : gg 129 = .bool true := hd 6 (dep_of (by kernel_rfl))
                  have e129 := d6
                  refine guard_case 129 true rfl e129 (fun _ => ?_) (fun h => absurd h (by decide))
                  refine os_know 129 (.bool true) e129 (by simp [undef]) ?_
                  refine os_rv (r_ldS Tryd.underlying28 rfl rfl hb10.range0 sz28) ⟨Same.refl _ _, ?_, frsh_no⟩
                  exact rfl
                | 8, _, hoq =>
                  obtain rfl : _ = o := Option.some.inj hoq
                  have hs0 := hs
                  replace hB := hB.tr0 hs
                  replace hb4 := hb4.tr0 hs
                  replace hBA := hBA.tr0 hs
                  replace hb10 := hb10.tr0 hs
                  replace hb12 := hb12.tr0 hs
                  replace hb13 := hb13.tr0 hs
                  clear hs
                  have d6 : gg 129 = .bool true := hd 6 (dep_of (by kernel_rfl))
                  have e129 := d6
                  refine guard_case 129 true rfl e129 (fun _ => ?_) (fun h => absurd h (by decide))
                  refine os_know 129 (.bool true) e129 (by simp [undef]) ?_
                  refine os_rv (r_ldS Tryd.underlying28 rfl rfl hb4.range0 sz28) ⟨Same.refl _ _, ?_, frsh_no⟩
                  exact rfl
                | 9, _, hoq =>
                  obtain rfl : _ = o := Option.some.inj hoq
                  have hs0 := hs
                  replace hB := hB.tr0 hs
                  replace hb4 := hb4.tr0 hs
                  replace hBA := hBA.tr0 hs
                  replace hb10 := hb10.tr0 hs
                  replace hb12 := hb12.tr0 hs
                  replace hb13 := hb13.tr0 hs
                  clear hs
                  have d6 : gg 129 = .bool true := hd 6 (dep_of (by kernel_rfl))
                  have e129 := d6
                  refine guard_case 129 true rfl e129 (fun _ => ?_) (fun h => absurd h (by decide))
                  refine os_know 129 (.bool true) e129 (by simp [undef]) ?_
                  refine os_rv (r_mv (v := .int _ _) rfl) ⟨Same.refl _ _, ?_, frsh_no⟩
                  exact rfl
                | 10, _, hoq =>
                  obtain rfl : _ = o := Option.some.inj hoq
                  have hs0 := hs
                  replace hB := hB.tr0 hs
                  replace hb4 := hb4.tr0 hs
                  replace hBA := hBA.tr0 hs
                  replace hb10 := hb10.tr0 hs
                  replace hb12 := hb12.tr0 hs
                  replace hb13 := hb13.tr0 hs
                  clear hs
                  have d6 : gg 129 = .bool true := hd 6 (dep_of (by kernel_rfl))
                  have e129 := d6
                  have d8 : gg 131 = .agg #[.slice G gr.length cg] := hd 8 (dep_of (by kernel_rfl))
                  have e131 := d8
                  have d9 : gg 132 = .int .i64 a2 := hd 9 (dep_of (by kernel_rfl))
                  have e132 := d9
                  refine guard_case 129 true rfl e129 (fun _ => ?_) (fun h => absurd h (by decide))
                  refine os_know 129 (.bool true) e129 (by simp [undef]) ?_
                  refine os_know 131 (.agg #[.slice G gr.length cg]) e131 (by simp [undef]) ?_
                  refine os_know 132 (.int .i64 a2) e132 (by simp [undef]) ?_
                  refine os_cl fn25 (rfr_any G cg l.length fs.length gr a2 o2 wx (hG.mono hB) hgv.gok (by omega) hal2 hd2) rfl (fun e' w2 hr => ?_)
                  obtain ⟨⟨AR, cR, rfl, hNR⟩, hs⟩ := hr
                  exact ⟨_, rfl, Same.of_bel hs, ⟨_, _, rfl, hNR⟩, frsh_no⟩
                | 11, _, hoq =>
                  obtain rfl : _ = o := Option.some.inj hoq
                  have hs0 := hs
                  replace hB := hB.tr0 hs
                  replace hb4 := hb4.tr0 hs
                  replace hBA := hBA.tr0 hs
                  replace hb10 := hb10.tr0 hs
                  replace hb12 := hb12.tr0 hs
                  replace hb13 := hb13.tr0 hs
                  clear hs
                  have d6 : gg 129 = .bool true := hd 6 (dep_of (by kernel_rfl))
                  have e129 := d6
                  have d7 : gg 130 = .agg #[.slice AA (atG l fs gr p).length (atG l fs gr p).length] := hd 7 (dep_of (by kernel_rfl))
                  have e130 := d7
                  have d10 : ∃ AR c, gg 133 = .agg #[.slice AR (canG gr o2).length c] ∧ NodesIn wx AR (canG gr o2) := hd 10 (dep_of (by kernel_rfl))
                  obtain ⟨AR, cR, e133, hNR⟩ := d10
                  refine guard_case 129 true rfl e129 (fun _ => ?_) (fun h => absurd h (by decide))
                  refine os_know 129 (.bool true) e129 (by simp [undef]) ?_
                  refine os_know 130 (.agg #[.slice AA (atG l fs gr p).length (atG l fs gr p).length]) e130 (by simp [undef]) ?_
                  refine os_know 133 (.agg #[.slice AR (canG gr o2).length cR]) e133 (by simp [undef]) ?_
                  refine os_cl fn15 (same_any AA AR _ _ _ cR _ _ wx (hNA.mono hBA) hNR rfl rfl heG) rfl (fun e' w2 hr => ?_)
                  obtain ⟨rfl, hs⟩ := hr
                  exact ⟨_, rfl, Same.of_bel hs, rfl, frsh_no⟩
                | 12, _, hoq =>
                  obtain rfl : _ = o := Option.some.inj hoq
                  have hs0 := hs
                  replace hB := hB.tr0 hs
                  replace hb4 := hb4.tr0 hs
                  replace hBA := hBA.tr0 hs
                  replace hb10 := hb10.tr0 hs
                  replace hb12 := hb12.tr0 hs
                  replace hb13 := hb13.tr0 hs
                  clear hs
                  have d6 : gg 129 = .bool true := hd 6 (dep_of (by kernel_rfl))
                  have e129 := d6
                  have d11 : gg 134 = .bool true := hd 11 (dep_of (by kernel_rfl))
                  have e134 := d11
                  refine ⟨fun _ => ?_, fun hw => Bool.noConfusion (show true = false from hw)⟩
                  refine os_know 129 (.bool true) e129 (by simp [undef]) ?_
                  refine os_know 134 (.bool true) e134 (by simp [undef]) ?_
                  refine os_rv (r_pt (v := .bool _) rfl rfl) ⟨Same.refl _ _, ?_, frsh_no⟩
                  exact rfl
                | _ + 13, hix, _ => exact absurd hix (by omega)
              · intro gg w32 hs hR hdis
                have hs0 := hs
                replace hB := hB.tr0 hs
                replace hb4 := hb4.tr0 hs
                replace hBA := hBA.tr0 hs
                replace hb10 := hb10.tr0 hs
                replace hb12 := hb12.tr0 hs
                replace hb13 := hb13.tr0 hs
                clear hs
                have d12 : gg 135 = .bool true := hR 12 (by decide)
                have e135 := d12
                refine wl_know 135 (.bool true) e135 (by simp [undef]) ?_
                refine wl (r_as (v := .bool _) rfl) ?_
                refine x_nil ?_
                refine e_S ?_
                refine c_ret ?_
                refine fin1 (.inl rfl) rfl rfl ?_
                exact ⟨rfl, hB⟩
end Go.Proofs.YtdegobbnidddjaaDoor
