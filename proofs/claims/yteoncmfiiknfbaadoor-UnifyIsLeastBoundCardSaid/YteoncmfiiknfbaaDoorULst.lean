/- What these functions of the program compute, at every world: glosswright/glosswrightlaw3.UnifyIsLeastBound. -/
import Derived.Test.YteoncmfiiknfbaaDoorUOrd
namespace Go.Proofs.YteoncmfiiknfbaaDoor
open Go.RowKit

theorem unip2_any {w : World} {A B G1 G2 : Option Addr} (hTab : TabIn w) (hT : TypesIn w A pairT) (hF : FeatsIn w B pairF) (hG1 : NodesIn w G1 apartG) (hG2 : NodesIn w G2 sharedG) : Calls Tryd.prog 16 #[.agg #[.slice A 4 4, .slice B 2 2], .agg #[.slice G1 3 3], .agg #[.slice G2 2 2]] w fun e w' => (∃ GA, e = .returned (.tuple #[.agg #[.slice GA 2 2], .bool true, .agg #[.int .i64 0, .int .i64 0]]) ∧ NodesIn w' GA sharedG) ∧ Bel w w' := by
  refine (unify_any A B G1 G2 4 2 3 2 pairT pairF apartG sharedG w hTab hT hF hG1 hG2).mono fun e w' h => ?_
  obtain ⟨⟨GA, X, ok, f, he, hN, hU⟩, hs⟩ := h
  have h0 := two_mk apart_ok shared_ok
  obtain ⟨hu1, hu2⟩ := unify_says h0 hU
  have hok : ok = true := by
    rcases Bool.eq_false_or_eq_true ok with h | h
    · exact h
    · have := hu1 h
      rw [subB_as] at this
      cases this
  obtain ⟨hf, hd⟩ := hu2 hok
  rw [subB_as, canF_ok shared_ok shared_dl] at hd
  have hX : X = sharedG := (of_decide_eq_true hd).trans (by decide)
  subst hX hok hf
  exact ⟨⟨GA, he, hN _ (FrSame.refl _ _)⟩, hs⟩
theorem same_more {b : Nat} {X : List Nat} {w w1 w2 : World} (h : Same [b] w w1) (hs : Same X w1 w2) (hx : ∀ g ∈ X, g = b ∨ w.heap.size ≤ g) : Same [b] w w2 :=
  ⟨hs.os.trans h.os, hs.tape.trans h.tape, hs.output.trans h.output, Nat.le_trans h.size hs.size, fun k hk hn => (hs.blk k (Nat.lt_of_lt_of_le hk h.size) (fun hm => by
    rcases hx k hm with e | e
    · exact hn (by rw [e]; exact List.mem_singleton.2 rfl)
    · omega)).trans (h.blk k hk hn)⟩
section least
variable {l : List Ty} {fs : List Ft} {ga gb X : List Nd} {ok : Bool} {f : Fl}
theorem uni_code (ha : (graphF l fs ga).1 = 0) (hb : (graphF l fs gb).1 = 0) (h : UnifyS l fs ga gb ok f X) (hf : ¬ f.1 = 0) : f.1 = 17 := by
  rcases h with ⟨h, _⟩ | ⟨_, _, rfl, _⟩ | ⟨_, _, rfl, _⟩ | ⟨_, _, rfl, _⟩
  · exact absurd (two_mk ha hb) h
  · exact absurd rfl hf
  · rfl
  · exact absurd rfl hf
theorem uni_bounds (ha : (graphF l fs ga).1 = 0) (hb : (graphF l fs gb).1 = 0) (h : UnifyS l fs ga gb ok f X) (hok : ok = true) : subB l fs ga X = true ∧ subB l fs gb X = true ∧ (graphF l fs X).1 = 0 := by
  subst hok
  have hva := gv_of ha
  have hvb := gv_of hb
  rcases h with ⟨_, h, _⟩ | ⟨_, h, _⟩ | ⟨_, h, _⟩ | ⟨_, _, _, h1, h2⟩
  · cases h
  · cases h
  · cases h
  · have hX0 : (graphF l fs X).1 = 0 := by rw [uni_valid hva hvb h1 h2]
    have hl := uni_lub hva.gx hvb.gx h1
    exact ⟨(subB_iff ha hX0).2 hl.left, (subB_iff hb hX0).2 hl.right, hX0⟩
theorem uni_least {gz : List Nd} (ha : (graphF l fs ga).1 = 0) (hb : (graphF l fs gb).1 = 0) (hz : (graphF l fs gz).1 = 0) (h : UnifyS l fs ga gb ok f X) (hf : f.1 = 0) (h1 : subB l fs ga gz = true) (h2 : subB l fs gb gz = true) : ok = true ∧ subB l fs X gz = true := by
  have hva := gv_of ha
  have hvb := gv_of hb
  have hvz := gv_of hz
  have m1 := (subB_iff ha hz).1 h1
  have m2 := (subB_iff hb hz).1 h2
  have hk := h
  rcases h with ⟨h, _⟩ | ⟨_, _, _, _, h⟩ | ⟨_, _, rfl, _⟩ | ⟨_, h3, _, h4, _⟩
  · exact absurd (two_mk ha hb) h
  · exact absurd (pair_bound hvz.gx.toGY m1 m2 hva.gx.toGY hvb.gx.toGY) h
  · exact absurd hf (by decide)
  · exact ⟨h3, (subB_iff (uni_bounds ha hb hk h3).2.2 hz).2 ((uni_lub hva.gx hvb.gx h4).least _ hvz.gx.toGY m1 m2)⟩
theorem alls_val {gs : List (List Nd)} (h : AllS l fs gs ok f X) (hok : ok = true) : (graphF l fs X).1 = 0 := by
  subst hok
  rcases h with ⟨_, h, _⟩ | ⟨_, h, _⟩ | ⟨_, h, _⟩ | ⟨_, _, _, _, _, h⟩
  · cases h
  · cases h
  · cases h
  · rw [h]
end least

theorem fn18_ULst : callable Tryd.prog 18 = true := by kernel_rfl
set_option maxRecDepth 100000 in
set_option maxHeartbeats 8000000 in
theorem law22_any (A B G1 G2 G3 : Option Addr) (c d c1 c2 c3 : Nat) (l : List Ty) (fs : List Ft) (ga gb gc : List Nd) (w : World) (hTab : TabIn w) (hcl : l.length ≤ c) (hdl : fs.length ≤ d) (hT : TypesIn w A l) (hF : FeatsIn w B fs) (hG1 : NodesIn w G1 ga) (hG2 : NodesIn w G2 gb) (hG3 : NodesIn w G3 gc) : Calls Tryd.prog 5 #[.agg #[.slice A l.length c, .slice B fs.length d], .agg #[.slice G1 ga.length c1], .agg #[.slice G2 gb.length c2], .agg #[.slice G3 gc.length c3]] w fun e w' => e = .returned (.bool true) ∧ Bel w w' := by
 refine enter Tryd.func5 Tryd.ntmps5 rfl (Nat.le_of_ble_eq_true rfl) ?_
 have hB : Bel w w := Below.refl _ _
 refine c_seq (c_region ?_)
 refine wl_bx (v := .agg #[_, _]) (cs := #[_, _]) rfl rfl (fun b4 w1 hb4 hs hr => ?_)
 have lo4 := Nat.le_trans (Bel.size hB) hr
 replace hB := hB.tr0 hs
 clear hs
 clear hr
 refine wl_bx (v := .agg #[_]) (cs := #[_]) rfl rfl (fun b5 w2 hb5 hs hr => ?_)
 have or_b4_b5 : b4 < b5 := Nat.lt_of_lt_of_le hb4.lt hr
 have lo5 := Nat.le_trans (Bel.size hB) hr
 replace hB := hB.tr0 hs
 replace hb4 := hb4.tr0 hs
 clear hs
 clear hr
 refine wl_bx (v := .agg #[_]) (cs := #[_]) rfl rfl (fun b6 w3 hb6 hs hr => ?_)
 have or_b4_b6 : b4 < b6 := Nat.lt_of_lt_of_le hb4.lt hr
 have or_b5_b6 : b5 < b6 := Nat.lt_of_lt_of_le hb5.lt hr
 have lo6 := Nat.le_trans (Bel.size hB) hr
 replace hB := hB.tr0 hs
 replace hb4 := hb4.tr0 hs
 replace hb5 := hb5.tr0 hs
 clear hs
 clear hr
 refine wl_bx (v := .agg #[_]) (cs := #[_]) rfl rfl (fun b7 w4 hb7 hs hr => ?_)
 have or_b4_b7 : b4 < b7 := Nat.lt_of_lt_of_le hb4.lt hr
 have or_b5_b7 : b5 < b7 := Nat.lt_of_lt_of_le hb5.lt hr
 have or_b6_b7 : b6 < b7 := Nat.lt_of_lt_of_le hb6.lt hr
 have lo7 := Nat.le_trans (Bel.size hB) hr
 replace hB := hB.tr0 hs
 replace hb4 := hb4.tr0 hs
 replace hb5 := hb5.tr0 hs
 replace hb6 := hb6.tr0 hs
 clear hs
 clear hr
 refine wl (r_as (v := .bool _) rfl) (x_nil (e_S (c_seq (c_seq (c_region ?_)))))
 refine wl_cl fn10_UOrd (pair_any _) rfl (fun e' w5 hr => ?_)
 obtain ⟨⟨Ap, Bp, rfl, hTp, hFp⟩, hs⟩ := hr
 replace hs := Same.of_bel hs
 replace hB := hB.tr0 hs
 replace hb4 := hb4.tr0 hs
 replace hb5 := hb5.tr0 hs
 replace hb6 := hb6.tr0 hs
 replace hb7 := hb7.tr0 hs
 clear hs
 have hB0 : Bel w5 w5 := Below.refl _ _
 refine ⟨_, rfl, ?_⟩
 refine wl_cl fn12 (apart_any _) rfl (fun e' w6 hr => ?_)
 obtain ⟨⟨Ga, rfl, hGa⟩, hs⟩ := hr
 replace hs := Same.of_bel hs
 replace hB := hB.tr0 hs
 replace hb4 := hb4.tr0 hs
 replace hb5 := hb5.tr0 hs
 replace hb6 := hb6.tr0 hs
 replace hb7 := hb7.tr0 hs
 replace hB0 := hB0.tr0 hs
 clear hs
 have hB1 : Bel w6 w6 := Below.refl _ _
 refine ⟨_, rfl, ?_⟩
 refine wl_cl fn11_UOrd (shared_any _) rfl (fun e' w7 hr => ?_)
 obtain ⟨⟨Gb, rfl, hGb⟩, hs⟩ := hr
 replace hs := Same.of_bel hs
 replace hB := hB.tr0 hs
 replace hb4 := hb4.tr0 hs
 replace hb5 := hb5.tr0 hs
 replace hb6 := hb6.tr0 hs
 replace hb7 := hb7.tr0 hs
 replace hB0 := hB0.tr0 hs
 replace hB1 := hB1.tr0 hs
 clear hs
 have hB2 : Bel w7 w7 := Below.refl _ _
 refine ⟨_, rfl, ?_⟩
 refine wl_cl fn16_UOrd (unip2_any (hTab.mono hB) (hTp.mono hB0) (hFp.mono hB0) (hGa.mono hB1) (hGb.mono hB2)) rfl (fun e' w8 hr => ?_)
 obtain ⟨⟨GW, rfl, hGW⟩, hs⟩ := hr
 replace hs := Same.of_bel hs
 replace hB := hB.tr0 hs
 replace hb4 := hb4.tr0 hs
 replace hb5 := hb5.tr0 hs
 replace hb6 := hb6.tr0 hs
 replace hb7 := hb7.tr0 hs
 replace hB0 := hB0.tr0 hs
 replace hB1 := hB1.tr0 hs
 replace hB2 := hB2.tr0 hs
 clear hs
 have hBW : Bel w8 w8 := Below.refl _ _
 refine ⟨_, rfl, ?_⟩
 refine wl (r_mv (v := .tuple _) rfl) (wl (r_ex (v := _) rfl rfl) (wl (r_ex (v := _) rfl rfl) (wl (r_ex (v := _) rfl rfl) ?_)))
 refine wl_al (cs := #[.slice none 0 0]) ze28_UAll rfl (fun b9 w9 hb9 hs hr => ?_)
 have or_b4_b9 : b4 < b9 := Nat.lt_of_lt_of_le hb4.lt hr
 have or_b5_b9 : b5 < b9 := Nat.lt_of_lt_of_le hb5.lt hr
 have or_b6_b9 : b6 < b9 := Nat.lt_of_lt_of_le hb6.lt hr
 have or_b7_b9 : b7 < b9 := Nat.lt_of_lt_of_le hb7.lt hr
 have lo9 := Nat.le_trans (Bel.size hB) hr
 have lo_hBW_b9 := Nat.le_trans (Bel.size hBW) hr
 replace hB := hB.tr0 hs
 replace hb4 := hb4.tr0 hs
 replace hb5 := hb5.tr0 hs
 replace hb6 := hb6.tr0 hs
 replace hb7 := hb7.tr0 hs
 replace hBW := hBW.tr0 hs
 clear hs
 clear hr
 refine wl_al (cs := #[.int .i64 0, .int .i64 0]) ze30_UAll rfl (fun b11 w10 hb11 hs hr => ?_)
 have or_b4_b11 : b4 < b11 := Nat.lt_of_lt_of_le hb4.lt hr
 have or_b5_b11 : b5 < b11 := Nat.lt_of_lt_of_le hb5.lt hr
 have or_b6_b11 : b6 < b11 := Nat.lt_of_lt_of_le hb6.lt hr
 have or_b7_b11 : b7 < b11 := Nat.lt_of_lt_of_le hb7.lt hr
 have or_b9_b11 : b9 < b11 := Nat.lt_of_lt_of_le hb9.lt hr
 have lo11 := Nat.le_trans (Bel.size hB) hr
 have lo_hBW_b11 := Nat.le_trans (Bel.size hBW) hr
 replace hB := hB.tr0 hs
 replace hb4 := hb4.tr0 hs
 replace hb5 := hb5.tr0 hs
 replace hb6 := hb6.tr0 hs
 replace hb7 := hb7.tr0 hs
 replace hBW := hBW.tr0 hs
 replace hb9 := hb9.tr0 hs
 clear hs
 clear hr
 refine wl_stW hb9 rfl rfl sz28 rfl (by repeat (first | rfl | refine one_cons (by first | rfl | assumption) ?_)) (fun w11 hq hs => ?_)
 replace hB := hB.tr1 hs lo9
 replace hb4 := hb4.tr1 hs (by omega)
 replace hb5 := hb5.tr1 hs (by omega)
 replace hb6 := hb6.tr1 hs (by omega)
 replace hb7 := hb7.tr1 hs (by omega)
 replace hBW := hBW.tr1 hs lo_hBW_b9
 replace hb11 := hb11.tr1 hs (by omega)
 clear hs
 replace hb9 := hq
 refine wl (r_as (v := .bool _) rfl) ?_
 refine wl_stW hb11 rfl rfl sz30_UAll rfl (by repeat (first | rfl | refine one_cons (by first | rfl | assumption) ?_)) (fun w12 hq hs => ?_)
 replace hB := hB.tr1 hs lo11
 replace hb4 := hb4.tr1 hs (by omega)
 replace hb5 := hb5.tr1 hs (by omega)
 replace hb6 := hb6.tr1 hs (by omega)
 replace hb7 := hb7.tr1 hs (by omega)
 replace hBW := hBW.tr1 hs lo_hBW_b11
 replace hb9 := hb9.tr1 hs (by omega)
 clear hs
 replace hb11 := hq
 refine x_nil (e_S (c_seq ?_))
 refine c_monoGO 8 [34, 35, 36, 37, 38, 39, 40, 41] (fun _ => false) (fun ix v wv => match ix with | 0 => v = .bool true | 1 => v = .bool false | 2 => v = .bool false | 3 => v = .agg #[.slice GW 2 2] | 4 => ∃ AS, v = .agg #[.slice AS 2 2] ∧ NodesIn wv AS sharedG | 5 => v = .bool true | 6 => v = .bool false | 7 => v = .bool false | _ => True) (by kernel_rfl) (by kernel_rfl) ?_ ?_ ?_
 ·
  intro ix v wv wv2 h hs
  match ix, h with
  | 0, h => exact h
  | 1, h => exact h
  | 2, h => exact h
  | 3, h => exact h
  | 4, h =>
   obtain ⟨AS, e38, hNS⟩ := (show ∃ AS, v = .agg #[.slice AS 2 2] ∧ NodesIn wv AS sharedG from h)
   exact ⟨AS, e38, hNS.mono hs.bel⟩
  | 5, h => exact h
  | 6, h => exact h
  | 7, h => exact h
  | _ + 8, h => exact trivial
 ·
  intro ix o hix hoq gg wx hs hd hdis
  match ix, hix, hoq with
  | 0, _, hoq =>
   obtain rfl : _ = o := Option.some.inj hoq
   have hs0 := hs
   clear hs
   refine ⟨fun _ => ?_, fun hw => Bool.noConfusion (show true = false from hw)⟩
   refine os_rv (r_mv (v := .bool _) rfl) ⟨Same.refl _ _, ?_, frsh_no⟩
   exact rfl
  | 1, _, hoq =>
   obtain rfl : _ = o := Option.some.inj hoq
   have hs0 := hs
   clear hs
   have d0 : gg 34 = .bool true := hd 0 (dep_of (by kernel_rfl))
   have e34 := d0
   refine ⟨fun _ => ?_, fun hw => Bool.noConfusion (show true = false from hw)⟩
   refine os_know 34 (.bool true) e34 (by simp [undef]) ?_
   refine os_rv (r_not rfl) ⟨Same.refl _ _, ?_, frsh_no⟩
   exact rfl
  | 2, _, hoq =>
   obtain rfl : _ = o := Option.some.inj hoq
   have hs0 := hs
   clear hs
   have d1 : gg 35 = .bool false := hd 1 (dep_of (by kernel_rfl))
   have e35 := d1
   refine ⟨fun _ => ?_, fun hw => Bool.noConfusion (show true = false from hw)⟩
   refine os_know 35 (.bool false) e35 (by simp [undef]) ?_
   refine os_rv (r_mv (v := .bool _) rfl) ⟨Same.refl _ _, ?_, frsh_no⟩
   exact rfl
  | 3, _, hoq =>
   obtain rfl : _ = o := Option.some.inj hoq
   have hs0 := hs
   replace hb9 := hb9.tr0 hs
   clear hs
   have d2 : gg 36 = .bool false := hd 2 (dep_of (by kernel_rfl))
   have e36 := d2
   refine guard_case 36 false rfl e36 (fun _ => ?_) (fun h => absurd h (by decide))
   refine os_know 36 (.bool false) e36 (by simp [undef]) ?_
   refine os_rv (r_ldS Tryd.underlying28 rfl rfl hb9.range0 sz28) ⟨Same.refl _ _, ?_, frsh_no⟩
   exact rfl
  | 4, _, hoq =>
   obtain rfl : _ = o := Option.some.inj hoq
   have hs0 := hs
   clear hs
   have d2 : gg 36 = .bool false := hd 2 (dep_of (by kernel_rfl))
   have e36 := d2
   refine guard_case 36 false rfl e36 (fun _ => ?_) (fun h => absurd h (by decide))
   refine os_know 36 (.bool false) e36 (by simp [undef]) ?_
   refine os_cl fn11_UOrd (shared_any wx) rfl (fun e' w2 hr => ?_)
   obtain ⟨⟨AS, rfl, hNS⟩, hs⟩ := hr
   exact ⟨_, rfl, Same.of_bel hs, ⟨_, rfl, hNS⟩, frsh_no⟩
  | 5, _, hoq =>
   obtain rfl : _ = o := Option.some.inj hoq
   have hs0 := hs
   replace hBW := hBW.tr0 hs
   clear hs
   have d2 : gg 36 = .bool false := hd 2 (dep_of (by kernel_rfl))
   have e36 := d2
   have d3 : gg 37 = .agg #[.slice GW 2 2] := hd 3 (dep_of (by kernel_rfl))
   have e37 := d3
   have d4 : ∃ AS, gg 38 = .agg #[.slice AS 2 2] ∧ NodesIn wx AS sharedG := hd 4 (dep_of (by kernel_rfl))
   obtain ⟨AS, e38, hNS⟩ := d4
   refine guard_case 36 false rfl e36 (fun _ => ?_) (fun h => absurd h (by decide))
   refine os_know 36 (.bool false) e36 (by simp [undef]) (os_know 37 (.agg #[.slice GW 2 2]) e37 (by simp [undef]) (os_know 38 (.agg #[.slice AS 2 2]) e38 (by simp [undef]) ?_))
   refine os_cl fn13_UOrd (same_any GW AS 2 2 2 2 sharedG sharedG wx (hGW.mono hBW) hNS rfl rfl rfl) rfl (fun e' w2 hr => ?_)
   obtain ⟨rfl, hs⟩ := hr
   exact ⟨_, rfl, Same.of_bel hs, rfl, frsh_no⟩
  | 6, _, hoq =>
   obtain rfl : _ = o := Option.some.inj hoq
   have hs0 := hs
   clear hs
   have d2 : gg 36 = .bool false := hd 2 (dep_of (by kernel_rfl))
   have e36 := d2
   have d5 : gg 39 = .bool true := hd 5 (dep_of (by kernel_rfl))
   have e39 := d5
   refine guard_case 36 false rfl e36 (fun _ => ?_) (fun h => absurd h (by decide))
   refine os_know 36 (.bool false) e36 (by simp [undef]) (os_know 39 (.bool true) e39 (by simp [undef]) ?_)
   refine os_rv (r_not rfl) ⟨Same.refl _ _, ?_, frsh_no⟩
   exact rfl
  | 7, _, hoq =>
   obtain rfl : _ = o := Option.some.inj hoq
   have hs0 := hs
   clear hs
   have d2 : gg 36 = .bool false := hd 2 (dep_of (by kernel_rfl))
   have e36 := d2
   have d6 : gg 40 = .bool false := hd 6 (dep_of (by kernel_rfl))
   have e40 := d6
   refine ⟨fun _ => ?_, fun hw => Bool.noConfusion (show true = false from hw)⟩
   refine os_know 36 (.bool false) e36 (by simp [undef]) (os_know 40 (.bool false) e40 (by simp [undef]) ?_)
   refine os_rv (r_pf (v := .bool _) rfl rfl) ⟨Same.refl _ _, ?_, frsh_no⟩
   exact rfl
  | _ + 8, hix, _ => exact absurd hix (by omega)
 ·
  intro gg w13 hs hR hdis
  have hs0 := hs
  replace hB := hB.tr0 hs
  replace hb4 := hb4.tr0 hs
  replace hb5 := hb5.tr0 hs
  replace hb6 := hb6.tr0 hs
  replace hb7 := hb7.tr0 hs
  replace hBW := hBW.tr0 hs
  replace hb9 := hb9.tr0 hs
  replace hb11 := hb11.tr0 hs
  clear hs
  have d7 : gg 41 = .bool false := hR 7 (by decide)
  have e41 := d7
  refine wl_know 41 (.bool false) e41 (by simp [undef]) (x_nil (e_S ?_))
  refine c_if rfl (fun c41 => ?_) (fun c41 => ?_)
  ·
   exact absurd c41 (by decide)
  ·
   refine c_skip (e_S (c_seq (c_seq (c_region (wl (r_ldS Tryd.underlying25 rfl rfl hb4.range0 sz25) ?_)))))
   refine wl (r_ldS Tryd.underlying28 rfl rfl hb5.range0 sz28) (wl (r_ldS Tryd.underlying28 rfl rfl hb6.range0 sz28) ?_)
   refine wl_cl fn14_UOrd (twof_any A B G1 G2 c d c1 c2 l fs ga gb _ hcl hdl (hT.mono hB) (hF.mono hB) (hG1.mono hB) (hG2.mono hB)) rfl (fun e' w14 hr => ?_)
   obtain ⟨rfl, hs⟩ := hr
   replace hs := Same.of_bel hs
   replace hB := hB.tr0 hs
   replace hb4 := hb4.tr0 hs
   replace hb5 := hb5.tr0 hs
   replace hb6 := hb6.tr0 hs
   replace hb7 := hb7.tr0 hs
   replace hb9 := hb9.tr0 hs
   replace hb11 := hb11.tr0 hs
   clear hs
   refine ⟨_, rfl, ?_⟩
   refine wl (r_fd1 (v := .int _ _) Tryd.underlying30 rfl Tryd.underlying3 rfl rfl rfl) (wl (r_neq rfl rfl) (wl (r_mv (v := .bool _) rfl) ?_))
   refine wl_casesd 48 rfl (fun g48 => ?_) (fun g48 => ?_)
   ·
    refine wlgn 48 rfl rfl rfl (wlgn 48 rfl rfl rfl (wlgn 48 rfl rfl rfl (wlgn 48 rfl rfl rfl (wlgn 48 rfl rfl rfl (wl (r_pt (v := .bool _) rfl rfl) ?_)))))
    refine x_nil (e_S (c_yes rfl (c_seq (c_region (wl (r_as (v := .bool _) rfl) ?_)))))
    refine x_nil (e_S (c_ret (e_Sr (fin1 (.inl rfl) rfl rfl ?_))))
    exact ⟨rfl, hB⟩
   ·
    have h0 := Decidable.not_not.1 g48
    obtain ⟨⟨hva, hvb⟩, hga0, hgb0⟩ := two_gv h0
    refine wl_gd 48 rfl rfl (wl (r_ldS Tryd.underlying25 rfl rfl hb4.range0 sz25) (wl_gd 48 rfl rfl (wl (r_ldS Tryd.underlying28 rfl rfl hb7.range0 sz28) (wl_gd 48 rfl rfl ?_))))
    refine wl_cl fn15 (inh_any A B G3 c d c3 l fs gc _ (hT.mono hB) hva.s.vt hva.s.le (hF.mono hB) (hG3.mono hB) hva.f) rfl (fun e' w15 hr => ?_)
    obtain ⟨rfl, hs⟩ := hr
    replace hs := Same.of_bel hs
    replace hB := hB.tr0 hs
    replace hb4 := hb4.tr0 hs
    replace hb5 := hb5.tr0 hs
    replace hb6 := hb6.tr0 hs
    replace hb7 := hb7.tr0 hs
    replace hb9 := hb9.tr0 hs
    replace hb11 := hb11.tr0 hs
    clear hs
    refine ⟨_, rfl, ?_⟩
    refine wl_gd 48 rfl rfl (wl (r_fd1 (v := .int _ _) Tryd.underlying30 rfl Tryd.underlying3 rfl rfl rfl) (wl_gd 48 rfl rfl (wl (r_neq rfl rfl) (wl (r_pf (v := .bool _) rfl rfl) (x_nil ?_)))))
    refine e_S ?_
    refine c_ifd rfl (fun c54 => ?_) (fun c54 => ?_)
    ·
     refine c_seq (c_region (wl (r_as (v := .bool _) rfl) (x_nil (e_S (c_ret ?_)))))
     refine e_Sr (fin1 (.inl rfl) rfl rfl ?_)
     exact ⟨rfl, hB⟩
    ·
     have hc0 := Decidable.not_not.1 c54
     have hgc0 : (graphF l fs gc).1 = 0 := by rw [gf_in hva.h]; exact hc0
     have hvc := gv_of hgc0
     refine c_skip (e_S (c_seq (c_seq (c_region (wl (r_mv (v := .int _ _) rfl) ?_)))))
     refine x_nil (e_S (c_block ?_))
     refine c_loopS [8, 12, 13, 14, 15, 16, 17, 18, 19, 20, 21, 22, 23, 24, 25, 55, 56, 57, 58, 59, 60, 61, 62, 63, 64, 65, 66, 67, 68, 69, 70, 71, 72, 73, 74, 75, 76, 77, 78, 79, 80, 81, 82, 83, 84, 85, 86, 87, 88, 89, 90, 91, 92, 93, 94, 95, 96, 97, 98, 99, 100, 101, 102, 103, 104, 105, 106, 107, 108, 109, 110, 111, 112, 113, 114, 115, 116, 117, 118, 119, 120, 121, 122, 123, 124, 125, 126, 127, 128, 129, 130, 131, 132, 133, 134, 135, 136, 137, 138, 139] (fun m g w' => ∃ (k : Nat) (gz : List Nd) (G3z : Option Addr) (c3z : Nat) (wz : World), k ≤ 2 ∧ m = 2 - k ∧ g 55 = .int .i64 k ∧ Bel w w' ∧ Blk w' b4 25 #[.slice A l.length c, .slice B fs.length d] ∧ Blk w' b5 28 #[.slice G1 ga.length c1] ∧ Blk w' b6 28 #[.slice G2 gb.length c2] ∧ Blk w' b7 28 #[.slice G3z gz.length c3z] ∧ (graphF l fs gz).1 = 0 ∧ Same [b7] wz w' ∧ ∀ w2, Same [b7] wz w2 → NodesIn w2 G3z gz) (2) ?_ (fun m g7 w16 hI => ?_)
     ·
      exact ⟨0, gc, G3, c3, w, by omega, rfl, rfl, hB, hb4, hb5, hb6, hb7, hgc0, (Same.of_bel hB).weak (by simp), fun w2 h => hG3.mono (Bel.tr (Below.refl _ _ : Bel w w) h (fun g hg => by rw [List.mem_singleton.1 hg]; exact lo7))⟩
     obtain ⟨k, gz, G3z, c3z, wz, hk, hm, h55, hB, hb4, hb5, hb6, hb7, hgz, hFz, hNz⟩ := hI
     refine c_know 55 (.int .i64 k) h55 (by simp [undef]) (c_seq (c_region (wl (r_lss rfl rfl) (x_nil (e_S ?_)))))
     refine c_seq ?_
     refine c_ifd rfl (fun c56 => ?_) (fun c56 => ?_)
     ·
      have hlt : k < 2 := by omega
      refine c_skip (e_S (c_seq (c_block (c_seq (c_region ?_)))))
      refine wl (r_ldS Tryd.underlying25 rfl rfl hb4.range0 sz25) (wl (r_ldS Tryd.underlying28 rfl rfl hb5.range0 sz28) (wl (r_ldS Tryd.underlying28 rfl rfl hb6.range0 sz28) ?_))
      refine wl_cl fn16_UOrd (unify_any A B G1 G2 c d c1 c2 l fs ga gb _ (hTab.mono hB) (hT.mono hB) (hF.mono hB) (hG1.mono hB) (hG2.mono hB)) rfl (fun e' w17 hr => ?_)
      obtain ⟨⟨AU, XU, okU, fU, rfl, hNU, hUU⟩, hs⟩ := hr
      replace hs := Same.of_bel hs
      replace hB := hB.tr0 hs
      replace hb4 := hb4.tr0 hs
      replace hb5 := hb5.tr0 hs
      replace hb6 := hb6.tr0 hs
      replace hb7 := hb7.tr0 hs
      replace hFz := same_more hFz hs (by simp)
      clear hs
      replace hNU := hNU w17 (FrSame.refl _ _)
      have hBuU : Bel w17 w17 := Below.refl _ _
      refine ⟨_, rfl, ?_⟩
      refine wl (r_mv (v := .tuple _) rfl) (wl (r_ex (v := _) rfl rfl) (wl (r_ex (v := _) rfl rfl) (wl (r_ex (v := _) rfl rfl) ?_)))
      refine wl_al (cs := #[.slice none 0 0]) ze28_UAll rfl (fun b12 w18 hb12 hs hr => ?_)
      have or_b4_b12 : b4 < b12 := Nat.lt_of_lt_of_le hb4.lt hr
      have or_b5_b12 : b5 < b12 := Nat.lt_of_lt_of_le hb5.lt hr
      have or_b6_b12 : b6 < b12 := Nat.lt_of_lt_of_le hb6.lt hr
      have or_b7_b12 : b7 < b12 := Nat.lt_of_lt_of_le hb7.lt hr
      have or_hFz_b12 := (Nat.le_trans hFz.size hr)
      have lo12 := Nat.le_trans (Bel.size hB) hr
      have lo_hBuU_b12 := Nat.le_trans (Bel.size hBuU) hr
      replace hB := hB.tr0 hs
      replace hb4 := hb4.tr0 hs
      replace hb5 := hb5.tr0 hs
      replace hb6 := hb6.tr0 hs
      replace hb7 := hb7.tr0 hs
      replace hFz := same_more hFz hs (by simp)
      replace hBuU := hBuU.tr0 hs
      clear hs
      clear hr
      refine wl_al (cs := #[.int .i64 0, .int .i64 0]) ze30_UAll rfl (fun b14 w19 hb14 hs hr => ?_)
      have or_b4_b14 : b4 < b14 := Nat.lt_of_lt_of_le hb4.lt hr
      have or_b5_b14 : b5 < b14 := Nat.lt_of_lt_of_le hb5.lt hr
      have or_b6_b14 : b6 < b14 := Nat.lt_of_lt_of_le hb6.lt hr
      have or_b7_b14 : b7 < b14 := Nat.lt_of_lt_of_le hb7.lt hr
      have or_hFz_b14 := (Nat.le_trans hFz.size hr)
      have or_b12_b14 : b12 < b14 := Nat.lt_of_lt_of_le hb12.lt hr
      have lo14 := Nat.le_trans (Bel.size hB) hr
      have lo_hBuU_b14 := Nat.le_trans (Bel.size hBuU) hr
      replace hB := hB.tr0 hs
      replace hb4 := hb4.tr0 hs
      replace hb5 := hb5.tr0 hs
      replace hb6 := hb6.tr0 hs
      replace hb7 := hb7.tr0 hs
      replace hFz := same_more hFz hs (by simp)
      replace hBuU := hBuU.tr0 hs
      replace hb12 := hb12.tr0 hs
      clear hs
      clear hr
      refine wl_stW hb12 rfl rfl sz28 rfl (by repeat (first | rfl | refine one_cons (by first | rfl | assumption) ?_)) (fun w20 hq hs => ?_)
      replace hB := hB.tr1 hs lo12
      replace hb4 := hb4.tr1 hs (by omega)
      replace hb5 := hb5.tr1 hs (by omega)
      replace hb6 := hb6.tr1 hs (by omega)
      replace hb7 := hb7.tr1 hs (by omega)
      replace hFz := same_more hFz hs (fun g hg => by rw [List.mem_singleton.1 hg]; first | exact .inl rfl | exact .inr (by omega))
      replace hBuU := hBuU.tr1 hs lo_hBuU_b12
      replace hb14 := hb14.tr1 hs (by omega)
      clear hs
      replace hb12 := hq
      refine wl (r_as (v := .bool _) rfl) ?_
      refine wl_stW hb14 rfl rfl sz30_UAll rfl (by repeat (first | rfl | refine one_cons (by first | rfl | assumption) ?_)) (fun w21 hq hs => ?_)
      replace hB := hB.tr1 hs lo14
      replace hb4 := hb4.tr1 hs (by omega)
      replace hb5 := hb5.tr1 hs (by omega)
      replace hb6 := hb6.tr1 hs (by omega)
      replace hb7 := hb7.tr1 hs (by omega)
      replace hFz := same_more hFz hs (fun g hg => by rw [List.mem_singleton.1 hg]; first | exact .inl rfl | exact .inr (by omega))
      replace hBuU := hBuU.tr1 hs lo_hBuU_b14
      replace hb12 := hb12.tr1 hs (by omega)
      clear hs
      replace hb14 := hq
      refine x_nil (e_S (c_seq (c_seq (c_region (wl (r_fa Tryd.underlying30 sz3_GSearch (by decide) rfl rfl rfl) ?_)))))
      refine wl (r_ld1 (v := .int _ _) Tryd.underlying3 rfl rfl (hb14.cell rfl)) (wl (r_neq rfl rfl) (x_nil (e_S ?_)))
      refine c_ifd rfl (fun c67 => ?_) (fun c67 => ?_)
      ·
       have h17 := uni_code hga0 hgb0 hUU c67
       refine c_seq (c_region (wl (r_fa Tryd.underlying30 sz3_GSearch (by decide) rfl rfl rfl) (wl (r_ld1 (v := .int _ _) Tryd.underlying3 rfl rfl (hb14.cell rfl)) (wl (r_eql rfl rfl) (wl (r_as (v := .bool true) (congrArg Value.bool (decide_eq_true h17))) ?_)))))
       refine x_nil (e_S (c_ret (e_Sr (e_Br (e_Sr ?_)))))
       refine e_LSr (e_Br (e_Sr (fin1 (.inl rfl) rfl rfl ?_)))
       exact ⟨rfl, hB⟩
      ·
       have hf0 : fU.1 = 0 := Decidable.not_not.1 c67
       refine c_skip (e_S (c_seq (c_seq (c_region (wl (r_mv (v := .bool _) rfl) ?_)))))
       refine x_nil (e_S ?_)
       refine c_if rfl (fun c71 => ?_) (fun c71 => ?_)
       ·
        have hokU : okU = true := by simpa using c71
        obtain ⟨hs1, hs2, hXU0⟩ := uni_bounds hga0 hgb0 hUU hokU
        refine c_seq (c_region (wl (r_ldS Tryd.underlying25 rfl rfl hb4.range0 sz25) (wl (r_ldS Tryd.underlying28 rfl rfl hb5.range0 sz28) (wl (r_ldS Tryd.underlying28 rfl rfl hb12.range0 sz28) ?_))))
        refine wl_cl fn18_ULst (subs_any A B G1 AU c d c1 XU.length l fs ga XU _ (hTab.mono hB) (hT.mono hB) (hF.mono hB) (hG1.mono hB) (hNU.mono hBuU)) rfl (fun e' w22 hr => ?_)
        obtain ⟨rfl, hs⟩ := hr
        replace hs := Same.of_bel hs
        replace hB := hB.tr0 hs
        replace hb4 := hb4.tr0 hs
        replace hb5 := hb5.tr0 hs
        replace hb6 := hb6.tr0 hs
        replace hb7 := hb7.tr0 hs
        replace hFz := same_more hFz hs (by simp)
        replace hBuU := hBuU.tr0 hs
        replace hb12 := hb12.tr0 hs
        replace hb14 := hb14.tr0 hs
        clear hs
        refine ⟨_, rfl, ?_⟩
        refine wl (r_mv (v := .tuple _) rfl) (wl (r_ex (v := _) rfl rfl) (wl (r_ex (v := _) rfl rfl) ?_))
        refine wl_al (cs := #[.int .i64 0, .int .i64 0]) ze30_UAll rfl (fun b16 w23 hb16 hs hr => ?_)
        have or_b4_b16 : b4 < b16 := Nat.lt_of_lt_of_le hb4.lt hr
        have or_b5_b16 : b5 < b16 := Nat.lt_of_lt_of_le hb5.lt hr
        have or_b6_b16 : b6 < b16 := Nat.lt_of_lt_of_le hb6.lt hr
        have or_b7_b16 : b7 < b16 := Nat.lt_of_lt_of_le hb7.lt hr
        have or_hFz_b16 := (Nat.le_trans hFz.size hr)
        have or_b12_b16 : b12 < b16 := Nat.lt_of_lt_of_le hb12.lt hr
        have or_b14_b16 : b14 < b16 := Nat.lt_of_lt_of_le hb14.lt hr
        have lo16 := Nat.le_trans (Bel.size hB) hr
        have lo_hBuU_b16 := Nat.le_trans (Bel.size hBuU) hr
        replace hB := hB.tr0 hs
        replace hb4 := hb4.tr0 hs
        replace hb5 := hb5.tr0 hs
        replace hb6 := hb6.tr0 hs
        replace hb7 := hb7.tr0 hs
        replace hFz := same_more hFz hs (by simp)
        replace hBuU := hBuU.tr0 hs
        replace hb12 := hb12.tr0 hs
        replace hb14 := hb14.tr0 hs
        clear hs
        clear hr
        refine wl (r_as (v := .bool _) rfl) ?_
        refine wl_stW hb16 rfl rfl sz30_UAll rfl (by repeat (first | rfl | refine one_cons (by first | rfl | assumption) ?_)) (fun w24 hq hs => ?_)
        replace hB := hB.tr1 hs lo16
        replace hb4 := hb4.tr1 hs (by omega)
        replace hb5 := hb5.tr1 hs (by omega)
        replace hb6 := hb6.tr1 hs (by omega)
        replace hb7 := hb7.tr1 hs (by omega)
        replace hFz := same_more hFz hs (fun g hg => by rw [List.mem_singleton.1 hg]; first | exact .inl rfl | exact .inr (by omega))
        replace hBuU := hBuU.tr1 hs lo_hBuU_b16
        replace hb12 := hb12.tr1 hs (by omega)
        replace hb14 := hb14.tr1 hs (by omega)
        clear hs
        replace hb16 := hq
        refine x_nil (e_S (c_seq (c_region (wl (r_ldS Tryd.underlying25 rfl rfl hb4.range0 sz25) (wl (r_ldS Tryd.underlying28 rfl rfl hb6.range0 sz28) ?_)))))
        refine wl (r_ldS Tryd.underlying28 rfl rfl hb12.range0 sz28) ?_
        refine wl_cl fn18_ULst (subs_any A B G2 AU c d c2 XU.length l fs gb XU _ (hTab.mono hB) (hT.mono hB) (hF.mono hB) (hG2.mono hB) (hNU.mono hBuU)) rfl (fun e' w25 hr => ?_)
        obtain ⟨rfl, hs⟩ := hr
        replace hs := Same.of_bel hs
        replace hB := hB.tr0 hs
        replace hb4 := hb4.tr0 hs
        replace hb5 := hb5.tr0 hs
        replace hb6 := hb6.tr0 hs
        replace hb7 := hb7.tr0 hs
        replace hFz := same_more hFz hs (by simp)
        replace hBuU := hBuU.tr0 hs
        replace hb12 := hb12.tr0 hs
        replace hb14 := hb14.tr0 hs
        replace hb16 := hb16.tr0 hs
        clear hs
        refine ⟨_, rfl, ?_⟩
        refine wl (r_mv (v := .tuple _) rfl) (wl (r_ex (v := _) rfl rfl) (wl (r_ex (v := _) rfl rfl) ?_))
        refine wl_al (cs := #[.int .i64 0, .int .i64 0]) ze30_UAll rfl (fun b18 w26 hb18 hs hr => ?_)
        have or_b4_b18 : b4 < b18 := Nat.lt_of_lt_of_le hb4.lt hr
        have or_b5_b18 : b5 < b18 := Nat.lt_of_lt_of_le hb5.lt hr
        have or_b6_b18 : b6 < b18 := Nat.lt_of_lt_of_le hb6.lt hr
        have or_b7_b18 : b7 < b18 := Nat.lt_of_lt_of_le hb7.lt hr
        have or_hFz_b18 := (Nat.le_trans hFz.size hr)
        have or_b12_b18 : b12 < b18 := Nat.lt_of_lt_of_le hb12.lt hr
        have or_b14_b18 : b14 < b18 := Nat.lt_of_lt_of_le hb14.lt hr
        have or_b16_b18 : b16 < b18 := Nat.lt_of_lt_of_le hb16.lt hr
        have lo18 := Nat.le_trans (Bel.size hB) hr
        have lo_hBuU_b18 := Nat.le_trans (Bel.size hBuU) hr
        replace hB := hB.tr0 hs
        replace hb4 := hb4.tr0 hs
        replace hb5 := hb5.tr0 hs
        replace hb6 := hb6.tr0 hs
        replace hb7 := hb7.tr0 hs
        replace hFz := same_more hFz hs (by simp)
        replace hBuU := hBuU.tr0 hs
        replace hb12 := hb12.tr0 hs
        replace hb14 := hb14.tr0 hs
        replace hb16 := hb16.tr0 hs
        clear hs
        clear hr
        refine wl (r_as (v := .bool _) rfl) ?_
        refine wl_stW hb18 rfl rfl sz30_UAll rfl (by repeat (first | rfl | refine one_cons (by first | rfl | assumption) ?_)) (fun w27 hq hs => ?_)
        replace hB := hB.tr1 hs lo18
        replace hb4 := hb4.tr1 hs (by omega)
        replace hb5 := hb5.tr1 hs (by omega)
        replace hb6 := hb6.tr1 hs (by omega)
        replace hb7 := hb7.tr1 hs (by omega)
        replace hFz := same_more hFz hs (fun g hg => by rw [List.mem_singleton.1 hg]; first | exact .inl rfl | exact .inr (by omega))
        replace hBuU := hBuU.tr1 hs lo_hBuU_b18
        replace hb12 := hb12.tr1 hs (by omega)
        replace hb14 := hb14.tr1 hs (by omega)
        replace hb16 := hb16.tr1 hs (by omega)
        clear hs
        replace hb18 := hq
        refine x_nil (e_S (c_seq (c_region (wl (r_mv (v := .bool true) (congrArg Value.bool hs1)) (wl (r_not rfl) ?_)))))
        refine wl (r_mv (v := .bool false) rfl) (wl_gd 88 rfl rfl (wl (r_mv (v := .bool true) (congrArg Value.bool hs2)) (wl_gd 88 rfl rfl (wl (r_not rfl) (wl (r_pf (v := .bool _) rfl rfl) ?_)))))
        refine x_nil (e_S ?_)
        refine c_if rfl (fun c91 => ?_) (fun c91 => ?_)
        ·
         exact absurd c91 (by decide)
        ·
         refine c_skip (e_S (c_seq (c_region (wl (r_ldS Tryd.underlying25 rfl rfl hb4.range0 sz25) (wl (r_ldS Tryd.underlying28 rfl rfl hb5.range0 sz28) ?_)))))
         refine wl (r_ldS Tryd.underlying28 rfl rfl hb7.range0 sz28) ?_
         refine wl_cl fn18_ULst (subs_any A B G1 G3z c d c1 c3z l fs ga gz _ (hTab.mono hB) (hT.mono hB) (hF.mono hB) (hG1.mono hB) (hNz _ hFz)) rfl (fun e' w28 hr => ?_)
         obtain ⟨rfl, hs⟩ := hr
         replace hs := Same.of_bel hs
         replace hB := hB.tr0 hs
         replace hb4 := hb4.tr0 hs
         replace hb5 := hb5.tr0 hs
         replace hb6 := hb6.tr0 hs
         replace hb7 := hb7.tr0 hs
         replace hFz := same_more hFz hs (by simp)
         replace hBuU := hBuU.tr0 hs
         replace hb12 := hb12.tr0 hs
         replace hb14 := hb14.tr0 hs
         replace hb16 := hb16.tr0 hs
         replace hb18 := hb18.tr0 hs
         clear hs
         refine ⟨_, rfl, ?_⟩
         refine wl (r_mv (v := .tuple _) rfl) (wl (r_ex (v := _) rfl rfl) (wl (r_ex (v := _) rfl rfl) ?_))
         refine wl_al (cs := #[.int .i64 0, .int .i64 0]) ze30_UAll rfl (fun b20 w29 hb20 hs hr => ?_)
         have or_b4_b20 : b4 < b20 := Nat.lt_of_lt_of_le hb4.lt hr
         have or_b5_b20 : b5 < b20 := Nat.lt_of_lt_of_le hb5.lt hr
         have or_b6_b20 : b6 < b20 := Nat.lt_of_lt_of_le hb6.lt hr
         have or_b7_b20 : b7 < b20 := Nat.lt_of_lt_of_le hb7.lt hr
         have or_hFz_b20 := (Nat.le_trans hFz.size hr)
         have or_b12_b20 : b12 < b20 := Nat.lt_of_lt_of_le hb12.lt hr
         have or_b14_b20 : b14 < b20 := Nat.lt_of_lt_of_le hb14.lt hr
         have or_b16_b20 : b16 < b20 := Nat.lt_of_lt_of_le hb16.lt hr
         have or_b18_b20 : b18 < b20 := Nat.lt_of_lt_of_le hb18.lt hr
         have lo20 := Nat.le_trans (Bel.size hB) hr
         have lo_hBuU_b20 := Nat.le_trans (Bel.size hBuU) hr
         replace hB := hB.tr0 hs
         replace hb4 := hb4.tr0 hs
         replace hb5 := hb5.tr0 hs
         replace hb6 := hb6.tr0 hs
         replace hb7 := hb7.tr0 hs
         replace hFz := same_more hFz hs (by simp)
         replace hBuU := hBuU.tr0 hs
         replace hb12 := hb12.tr0 hs
         replace hb14 := hb14.tr0 hs
         replace hb16 := hb16.tr0 hs
         replace hb18 := hb18.tr0 hs
         clear hs
         clear hr
         refine wl (r_as (v := .bool _) rfl) ?_
         refine wl_stW hb20 rfl rfl sz30_UAll rfl (by repeat (first | rfl | refine one_cons (by first | rfl | assumption) ?_)) (fun w30 hq hs => ?_)
         replace hB := hB.tr1 hs lo20
         replace hb4 := hb4.tr1 hs (by omega)
         replace hb5 := hb5.tr1 hs (by omega)
         replace hb6 := hb6.tr1 hs (by omega)
         replace hb7 := hb7.tr1 hs (by omega)
         replace hFz := same_more hFz hs (fun g hg => by rw [List.mem_singleton.1 hg]; first | exact .inl rfl | exact .inr (by omega))
         replace hBuU := hBuU.tr1 hs lo_hBuU_b20
         replace hb12 := hb12.tr1 hs (by omega)
         replace hb14 := hb14.tr1 hs (by omega)
         replace hb16 := hb16.tr1 hs (by omega)
         replace hb18 := hb18.tr1 hs (by omega)
         clear hs
         replace hb20 := hq
         refine x_nil (e_S (c_seq (c_region (wl (r_ldS Tryd.underlying25 rfl rfl hb4.range0 sz25) (wl (r_ldS Tryd.underlying28 rfl rfl hb6.range0 sz28) ?_)))))
         refine wl (r_ldS Tryd.underlying28 rfl rfl hb7.range0 sz28) ?_
         refine wl_cl fn18_ULst (subs_any A B G2 G3z c d c2 c3z l fs gb gz _ (hTab.mono hB) (hT.mono hB) (hF.mono hB) (hG2.mono hB) (hNz _ hFz)) rfl (fun e' w31 hr => ?_)
         obtain ⟨rfl, hs⟩ := hr
         replace hs := Same.of_bel hs
         replace hB := hB.tr0 hs
         replace hb4 := hb4.tr0 hs
         replace hb5 := hb5.tr0 hs
         replace hb6 := hb6.tr0 hs
         replace hb7 := hb7.tr0 hs
         replace hFz := same_more hFz hs (by simp)
         replace hBuU := hBuU.tr0 hs
         replace hb12 := hb12.tr0 hs
         replace hb14 := hb14.tr0 hs
         replace hb16 := hb16.tr0 hs
         replace hb18 := hb18.tr0 hs
         replace hb20 := hb20.tr0 hs
         clear hs
         refine ⟨_, rfl, ?_⟩
         refine wl (r_mv (v := .tuple _) rfl) (wl (r_ex (v := _) rfl rfl) (wl (r_ex (v := _) rfl rfl) ?_))
         refine wl_al (cs := #[.int .i64 0, .int .i64 0]) ze30_UAll rfl (fun b22 w32 hb22 hs hr => ?_)
         have or_b4_b22 : b4 < b22 := Nat.lt_of_lt_of_le hb4.lt hr
         have or_b5_b22 : b5 < b22 := Nat.lt_of_lt_of_le hb5.lt hr
         have or_b6_b22 : b6 < b22 := Nat.lt_of_lt_of_le hb6.lt hr
         have or_b7_b22 : b7 < b22 := Nat.lt_of_lt_of_le hb7.lt hr
         have or_hFz_b22 := (Nat.le_trans hFz.size hr)
         have or_b12_b22 : b12 < b22 := Nat.lt_of_lt_of_le hb12.lt hr
         have or_b14_b22 : b14 < b22 := Nat.lt_of_lt_of_le hb14.lt hr
         have or_b16_b22 : b16 < b22 := Nat.lt_of_lt_of_le hb16.lt hr
         have or_b18_b22 : b18 < b22 := Nat.lt_of_lt_of_le hb18.lt hr
         have or_b20_b22 : b20 < b22 := Nat.lt_of_lt_of_le hb20.lt hr
         have lo22 := Nat.le_trans (Bel.size hB) hr
         have lo_hBuU_b22 := Nat.le_trans (Bel.size hBuU) hr
         replace hB := hB.tr0 hs
         replace hb4 := hb4.tr0 hs
         replace hb5 := hb5.tr0 hs
         replace hb6 := hb6.tr0 hs
         replace hb7 := hb7.tr0 hs
         replace hFz := same_more hFz hs (by simp)
         replace hBuU := hBuU.tr0 hs
         replace hb12 := hb12.tr0 hs
         replace hb14 := hb14.tr0 hs
         replace hb16 := hb16.tr0 hs
         replace hb18 := hb18.tr0 hs
         replace hb20 := hb20.tr0 hs
         clear hs
         clear hr
         refine wl (r_as (v := .bool _) rfl) ?_
         refine wl_stW hb22 rfl rfl sz30_UAll rfl (by repeat (first | rfl | refine one_cons (by first | rfl | assumption) ?_)) (fun w33 hq hs => ?_)
         replace hB := hB.tr1 hs lo22
         replace hb4 := hb4.tr1 hs (by omega)
         replace hb5 := hb5.tr1 hs (by omega)
         replace hb6 := hb6.tr1 hs (by omega)
         replace hb7 := hb7.tr1 hs (by omega)
         replace hFz := same_more hFz hs (fun g hg => by rw [List.mem_singleton.1 hg]; first | exact .inl rfl | exact .inr (by omega))
         replace hBuU := hBuU.tr1 hs lo_hBuU_b22
         replace hb12 := hb12.tr1 hs (by omega)
         replace hb14 := hb14.tr1 hs (by omega)
         replace hb16 := hb16.tr1 hs (by omega)
         replace hb18 := hb18.tr1 hs (by omega)
         replace hb20 := hb20.tr1 hs (by omega)
         clear hs
         replace hb22 := hq
         refine x_nil (e_S (c_seq (c_seq (c_region (wl (r_mv (v := .bool _) rfl) ?_)))))
         refine wl (r_mv (v := .bool _) rfl) ?_
         refine wl_cases 107 rfl (fun g107 => ?_) (fun g107 => ?_)
         ·
          refine wl_gd 107 rfl rfl (wl (r_mv (v := .bool _) rfl) (wl (r_pt (v := .bool _) rfl rfl) (x_nil (e_S ?_))))
          refine c_if rfl (fun c109 => ?_) (fun c109 => ?_)
          ·
           have hzy : subB l fs gb gz = true := by simpa using c109
           obtain ⟨hokz, hlz⟩ := uni_least hga0 hgb0 hgz hUU hf0 g107 hzy
           refine c_seq (c_seq (c_region (wl (r_mv (v := .bool _) rfl) (wl (r_not rfl) (x_nil ?_)))))
           refine e_S ?_
           refine c_if rfl (fun c111 => ?_) (fun c111 => ?_)
           ·
            exact absurd hokz (by simpa using c111)
           ·
            refine c_skip (e_S (c_seq (c_region (wl (r_ldS Tryd.underlying25 rfl rfl hb4.range0 sz25) (wl (r_ldS Tryd.underlying28 rfl rfl hb12.range0 sz28) ?_)))))
            refine wl (r_ldS Tryd.underlying28 rfl rfl hb7.range0 sz28) ?_
            refine wl_cl fn18_ULst (subs_any A B AU G3z c d XU.length c3z l fs XU gz _ (hTab.mono hB) (hT.mono hB) (hF.mono hB) (hNU.mono hBuU) (hNz _ hFz)) rfl (fun e' w34 hr => ?_)
            obtain ⟨rfl, hs⟩ := hr
            replace hs := Same.of_bel hs
            replace hB := hB.tr0 hs
            replace hb4 := hb4.tr0 hs
            replace hb5 := hb5.tr0 hs
            replace hb6 := hb6.tr0 hs
            replace hb7 := hb7.tr0 hs
            replace hFz := same_more hFz hs (by simp)
            replace hBuU := hBuU.tr0 hs
            replace hb12 := hb12.tr0 hs
            replace hb14 := hb14.tr0 hs
            replace hb16 := hb16.tr0 hs
            replace hb18 := hb18.tr0 hs
            replace hb20 := hb20.tr0 hs
            replace hb22 := hb22.tr0 hs
            clear hs
            refine ⟨_, rfl, ?_⟩
            refine wl (r_mv (v := .tuple _) rfl) (wl (r_ex (v := _) rfl rfl) (wl (r_ex (v := _) rfl rfl) ?_))
            refine wl_al (cs := #[.int .i64 0, .int .i64 0]) ze30_UAll rfl (fun b24 w35 hb24 hs hr => ?_)
            have or_b4_b24 : b4 < b24 := Nat.lt_of_lt_of_le hb4.lt hr
            have or_b5_b24 : b5 < b24 := Nat.lt_of_lt_of_le hb5.lt hr
            have or_b6_b24 : b6 < b24 := Nat.lt_of_lt_of_le hb6.lt hr
            have or_b7_b24 : b7 < b24 := Nat.lt_of_lt_of_le hb7.lt hr
            have or_hFz_b24 := (Nat.le_trans hFz.size hr)
            have or_b12_b24 : b12 < b24 := Nat.lt_of_lt_of_le hb12.lt hr
            have or_b14_b24 : b14 < b24 := Nat.lt_of_lt_of_le hb14.lt hr
            have or_b16_b24 : b16 < b24 := Nat.lt_of_lt_of_le hb16.lt hr
            have or_b18_b24 : b18 < b24 := Nat.lt_of_lt_of_le hb18.lt hr
            have or_b20_b24 : b20 < b24 := Nat.lt_of_lt_of_le hb20.lt hr
            have or_b22_b24 : b22 < b24 := Nat.lt_of_lt_of_le hb22.lt hr
            have lo24 := Nat.le_trans (Bel.size hB) hr
            have lo_hBuU_b24 := Nat.le_trans (Bel.size hBuU) hr
            replace hB := hB.tr0 hs
            replace hb4 := hb4.tr0 hs
            replace hb5 := hb5.tr0 hs
            replace hb6 := hb6.tr0 hs
            replace hb7 := hb7.tr0 hs
            replace hFz := same_more hFz hs (by simp)
            replace hBuU := hBuU.tr0 hs
            replace hb12 := hb12.tr0 hs
            replace hb14 := hb14.tr0 hs
            replace hb16 := hb16.tr0 hs
            replace hb18 := hb18.tr0 hs
            replace hb20 := hb20.tr0 hs
            replace hb22 := hb22.tr0 hs
            clear hs
            clear hr
            refine wl (r_as (v := .bool _) rfl) ?_
            refine wl_stW hb24 rfl rfl sz30_UAll rfl (by repeat (first | rfl | refine one_cons (by first | rfl | assumption) ?_)) (fun w36 hq hs => ?_)
            replace hB := hB.tr1 hs lo24
            replace hb4 := hb4.tr1 hs (by omega)
            replace hb5 := hb5.tr1 hs (by omega)
            replace hb6 := hb6.tr1 hs (by omega)
            replace hb7 := hb7.tr1 hs (by omega)
            replace hFz := same_more hFz hs (fun g hg => by rw [List.mem_singleton.1 hg]; first | exact .inl rfl | exact .inr (by omega))
            replace hBuU := hBuU.tr1 hs lo_hBuU_b24
            replace hb12 := hb12.tr1 hs (by omega)
            replace hb14 := hb14.tr1 hs (by omega)
            replace hb16 := hb16.tr1 hs (by omega)
            replace hb18 := hb18.tr1 hs (by omega)
            replace hb20 := hb20.tr1 hs (by omega)
            replace hb22 := hb22.tr1 hs (by omega)
            clear hs
            replace hb24 := hq
            refine x_nil (e_S (c_seq (c_region (wl (r_mv (v := .bool true) (congrArg Value.bool hlz)) (wl (r_not rfl) ?_)))))
            refine x_nil (e_S ?_)
            refine c_if rfl (fun c120 => ?_) (fun c120 => ?_)
            ·
             exact absurd c120 (by decide)
            ·
             refine c_skip (e_S (c_seq (c_region (wl (r_ldS Tryd.underlying25 rfl rfl hb4.range0 sz25) (wl (r_ldS Tryd.underlying28 rfl rfl hb5.range0 sz28) ?_)))))
             refine wl (r_ldS Tryd.underlying28 rfl rfl hb7.range0 sz28) (wl (r_ldS Tryd.underlying28 rfl rfl hb6.range0 sz28) ?_)
             refine wl_bs (cs := #[_, _, _]) [(0, .agg _), (1, .agg _), (2, .agg _)] rfl Tryd.underlying35 sz28 ze28_UAll (by decide) (by decide) (by kernel_rfl) rfl (fun b126 w37 hb126 hs hr => ?_)
             have or_b4_b126 : b4 < b126 := Nat.lt_of_lt_of_le hb4.lt hr
             have or_b5_b126 : b5 < b126 := Nat.lt_of_lt_of_le hb5.lt hr
             have or_b6_b126 : b6 < b126 := Nat.lt_of_lt_of_le hb6.lt hr
             have or_b7_b126 : b7 < b126 := Nat.lt_of_lt_of_le hb7.lt hr
             have or_hFz_b126 := (Nat.le_trans hFz.size hr)
             have or_b12_b126 : b12 < b126 := Nat.lt_of_lt_of_le hb12.lt hr
             have or_b14_b126 : b14 < b126 := Nat.lt_of_lt_of_le hb14.lt hr
             have or_b16_b126 : b16 < b126 := Nat.lt_of_lt_of_le hb16.lt hr
             have or_b18_b126 : b18 < b126 := Nat.lt_of_lt_of_le hb18.lt hr
             have or_b20_b126 : b20 < b126 := Nat.lt_of_lt_of_le hb20.lt hr
             have or_b22_b126 : b22 < b126 := Nat.lt_of_lt_of_le hb22.lt hr
             have or_b24_b126 : b24 < b126 := Nat.lt_of_lt_of_le hb24.lt hr
             have lo126 := Nat.le_trans (Bel.size hB) hr
             have lo_hBuU_b126 := Nat.le_trans (Bel.size hBuU) hr
             replace hB := hB.tr0 hs
             replace hb4 := hb4.tr0 hs
             replace hb5 := hb5.tr0 hs
             replace hb6 := hb6.tr0 hs
             replace hb7 := hb7.tr0 hs
             replace hFz := same_more hFz hs (by simp)
             replace hBuU := hBuU.tr0 hs
             replace hb12 := hb12.tr0 hs
             replace hb14 := hb14.tr0 hs
             replace hb16 := hb16.tr0 hs
             replace hb18 := hb18.tr0 hs
             replace hb20 := hb20.tr0 hs
             replace hb22 := hb22.tr0 hs
             replace hb24 := hb24.tr0 hs
             clear hs
             clear hr
             have z14 := hb14.lt
             have z7 := hb7.lt
             refine wl_cl fn9 (uall_any A B (some ⟨b126, 0, none⟩) c d 3 l fs [ga, gz, gb] _ (hTab.mono hB) (hT.mono hB) (hF.mono hB) (grs_of_blk hb126 (.cons (hG1.mono hB) (.cons (hNz _ hFz) (.cons (hG2.mono hB) .nil))) (by show 3 ≤ maxI; decide))) rfl (fun e' w38 hr => ?_)
             obtain ⟨⟨AA, XA, okA, fA, rfl, hNA, hUA⟩, hs⟩ := hr
             replace hs := Same.of_bel hs
             replace hB := hB.tr0 hs
             replace hb4 := hb4.tr0 hs
             replace hb5 := hb5.tr0 hs
             replace hb6 := hb6.tr0 hs
             replace hb7 := hb7.tr0 hs
             replace hFz := same_more hFz hs (by simp)
             replace hBuU := hBuU.tr0 hs
             replace hb12 := hb12.tr0 hs
             replace hb14 := hb14.tr0 hs
             replace hb16 := hb16.tr0 hs
             replace hb18 := hb18.tr0 hs
             replace hb20 := hb20.tr0 hs
             replace hb22 := hb22.tr0 hs
             replace hb24 := hb24.tr0 hs
             replace hb126 := hb126.tr0 hs
             clear hs
             obtain ⟨ZA, hZA⟩ : ∃ z, z = (w37).heap.size := ⟨_, rfl⟩
             rw [← hZA] at hNA z14 z7
             obtain ⟨wA, hwA⟩ : ∃ z, z = w38 := ⟨_, rfl⟩
             have hFA : FrSame ZA wA w38 := by rw [hwA]; exact FrSame.refl _ _
             rw [← hwA] at hNA
             refine ⟨_, rfl, ?_⟩
             refine wl (r_mv (v := .tuple _) rfl) (wl (r_ex (v := _) rfl rfl) (wl (r_ex (v := _) rfl rfl) (wl (r_ex (v := _) rfl rfl) ?_)))
             refine wl_al (cs := #[.slice none 0 0]) ze28_UAll rfl (fun b25 w39 hb25 hs hr => ?_)
             have or_b4_b25 : b4 < b25 := Nat.lt_of_lt_of_le hb4.lt hr
             have or_b5_b25 : b5 < b25 := Nat.lt_of_lt_of_le hb5.lt hr
             have or_b6_b25 : b6 < b25 := Nat.lt_of_lt_of_le hb6.lt hr
             have or_b7_b25 : b7 < b25 := Nat.lt_of_lt_of_le hb7.lt hr
             have or_b12_b25 : b12 < b25 := Nat.lt_of_lt_of_le hb12.lt hr
             have or_b14_b25 : b14 < b25 := Nat.lt_of_lt_of_le hb14.lt hr
             have or_b16_b25 : b16 < b25 := Nat.lt_of_lt_of_le hb16.lt hr
             have or_b18_b25 : b18 < b25 := Nat.lt_of_lt_of_le hb18.lt hr
             have or_b20_b25 : b20 < b25 := Nat.lt_of_lt_of_le hb20.lt hr
             have or_b22_b25 : b22 < b25 := Nat.lt_of_lt_of_le hb22.lt hr
             have or_b24_b25 : b24 < b25 := Nat.lt_of_lt_of_le hb24.lt hr
             have or_b126_b25 : b126 < b25 := Nat.lt_of_lt_of_le hb126.lt hr
             have or_hFA_b25 := (Nat.le_trans hFA.size hr)
             have lo25 := Nat.le_trans (Bel.size hB) hr
             replace hB := hB.tr0 hs
             replace hb4 := hb4.tr0 hs
             replace hb5 := hb5.tr0 hs
             replace hb6 := hb6.tr0 hs
             replace hb7 := hb7.tr0 hs
             replace hb12 := hb12.tr0 hs
             replace hb14 := hb14.tr0 hs
             replace hb16 := hb16.tr0 hs
             replace hb18 := hb18.tr0 hs
             replace hb20 := hb20.tr0 hs
             replace hb22 := hb22.tr0 hs
             replace hb24 := hb24.tr0 hs
             replace hb126 := hb126.tr0 hs
             replace hFA := hFA.of hs (by simp)
             clear hs
             clear hr
             refine wl_stW hb25 rfl rfl sz28 rfl (by repeat (first | rfl | refine one_cons (by first | rfl | assumption) ?_)) (fun w40 hq hs => ?_)
             replace hB := hB.tr1 hs lo25
             replace hb4 := hb4.tr1 hs (by omega)
             replace hb5 := hb5.tr1 hs (by omega)
             replace hb6 := hb6.tr1 hs (by omega)
             replace hb7 := hb7.tr1 hs (by omega)
             replace hb12 := hb12.tr1 hs (by omega)
             replace hb14 := hb14.tr1 hs (by omega)
             replace hb16 := hb16.tr1 hs (by omega)
             replace hb18 := hb18.tr1 hs (by omega)
             replace hb20 := hb20.tr1 hs (by omega)
             replace hb22 := hb22.tr1 hs (by omega)
             replace hb24 := hb24.tr1 hs (by omega)
             replace hb126 := hb126.tr1 hs (by omega)
             replace hFA := hFA.of hs (fun g hg => by rw [List.mem_singleton.1 hg]; omega)
             clear hs
             replace hb25 := hq
             refine wl (r_as (v := .bool _) rfl) ?_
             refine wl_stW hb14 rfl rfl sz30_UAll rfl (by repeat (first | rfl | refine one_cons (by first | rfl | assumption) ?_)) (fun w41 hq hs => ?_)
             replace hB := hB.tr1 hs lo14
             replace hb4 := hb4.tr1 hs (by omega)
             replace hb5 := hb5.tr1 hs (by omega)
             replace hb6 := hb6.tr1 hs (by omega)
             replace hb7 := hb7.tr1 hs (by omega)
             replace hb12 := hb12.tr1 hs (by omega)
             replace hb16 := hb16.tr1 hs (by omega)
             replace hb18 := hb18.tr1 hs (by omega)
             replace hb20 := hb20.tr1 hs (by omega)
             replace hb22 := hb22.tr1 hs (by omega)
             replace hb24 := hb24.tr1 hs (by omega)
             replace hb126 := hb126.tr1 hs (by omega)
             replace hFA := hFA.of hs (fun g hg => by rw [List.mem_singleton.1 hg]; omega)
             replace hb25 := hb25.tr1 hs (by omega)
             clear hs
             replace hb14 := hq
             refine x_nil (e_S (c_seq (c_seq (c_region (wl (r_fa Tryd.underlying30 sz3_GSearch (by decide) rfl rfl rfl) ?_)))))
             refine wl (r_ld1 (v := .int _ _) Tryd.underlying3 rfl rfl (hb14.cell rfl)) (wl (r_neq rfl rfl) (wl (r_mv (v := .bool _) rfl) ?_))
             refine wl_casesd 134 rfl (fun g134 => ?_) (fun g134 => ?_)
             ·
              refine wlgn 134 rfl rfl rfl (wlgn 134 rfl rfl rfl (wl (r_pt (v := .bool _) rfl rfl) (x_nil (e_S (c_yes rfl ?_)))))
              refine c_seq (c_region (wl (r_as (v := .bool _) rfl) (x_nil (e_S (c_ret ?_)))))
              refine e_Sr (e_Br (e_Sr (e_LSr (e_Br (e_Sr ?_)))))
              refine fin1 (.inl rfl) rfl rfl ?_
              exact ⟨rfl, hB⟩
             ·
              refine wl_gd 134 rfl rfl (wl (r_mv (v := .bool _) rfl) (wl_gd 134 rfl rfl (wl (r_not rfl) (wl (r_pf (v := .bool _) rfl rfl) (x_nil ?_)))))
              refine e_S ?_
              refine c_if rfl (fun c137 => ?_) (fun c137 => ?_)
              ·
               refine c_seq (c_region (wl (r_as (v := .bool _) rfl) (x_nil (e_S (c_ret ?_)))))
               refine e_Sr (e_Br (e_Sr (e_LSr (e_Br (e_Sr ?_)))))
               refine fin1 (.inl rfl) rfl rfl ?_
               exact ⟨rfl, hB⟩
              ·
               have hokA : okA = true := by simpa using c137
               have hgA0 := alls_val hUA hokA
               refine c_skip (e_S (c_region (wl (r_ldS Tryd.underlying28 rfl rfl hb25.range0 sz28) ?_)))
               refine wl_stW hb7 rfl rfl sz28 rfl (by repeat (first | rfl | refine one_cons (by first | rfl | assumption) ?_)) (fun w42 hq hs => ?_)
               replace hB := hB.tr1 hs lo7
               replace hb4 := hb4.tr1 hs (by omega)
               replace hb5 := hb5.tr1 hs (by omega)
               replace hb6 := hb6.tr1 hs (by omega)
               replace hb12 := hb12.tr1 hs (by omega)
               replace hb14 := hb14.tr1 hs (by omega)
               replace hb16 := hb16.tr1 hs (by omega)
               replace hb18 := hb18.tr1 hs (by omega)
               replace hb20 := hb20.tr1 hs (by omega)
               replace hb22 := hb22.tr1 hs (by omega)
               replace hb24 := hb24.tr1 hs (by omega)
               replace hb126 := hb126.tr1 hs (by omega)
               replace hFA := hFA.of hs (fun g hg => by rw [List.mem_singleton.1 hg]; omega)
               replace hb25 := hb25.tr1 hs (by omega)
               clear hs
               replace hb7 := hq
               refine x_nil (e_B (e_S (c_region (wl (r_add rfl rfl rfl (by omega)) (wl (r_mv (v := .int _ _) rfl) ?_)))))
               refine x_nil ?_
               refine e_LS (2 - (k + 1)) (by omega) (by repeat (first | exact ag_refl | exact ag_ovr' | refine ag_upd rfl ?_ | refine ag_sub rfl ?_ | refine ag_kn (by assumption) ?_)) ?_
               exact ⟨k + 1, XA, AA, XA.length, _, by omega, rfl, rfl, hB, hb4, hb5, hb6, hb7, hgA0, Same.refl _ _, fun w2 h => hNA _ (hFA.of h (fun g hg => by rw [List.mem_singleton.1 hg]; left; omega))⟩
          ·
           refine c_skip (e_S (c_seq (c_region (wl (r_ldS Tryd.underlying25 rfl rfl hb4.range0 sz25) (wl (r_ldS Tryd.underlying28 rfl rfl hb5.range0 sz28) ?_)))))
           refine wl (r_ldS Tryd.underlying28 rfl rfl hb7.range0 sz28) (wl (r_ldS Tryd.underlying28 rfl rfl hb6.range0 sz28) ?_)
           refine wl_bs (cs := #[_, _, _]) [(0, .agg _), (1, .agg _), (2, .agg _)] rfl Tryd.underlying35 sz28 ze28_UAll (by decide) (by decide) (by kernel_rfl) rfl (fun b126 w43 hb126 hs hr => ?_)
           have or_b4_b126 : b4 < b126 := Nat.lt_of_lt_of_le hb4.lt hr
           have or_b5_b126 : b5 < b126 := Nat.lt_of_lt_of_le hb5.lt hr
           have or_b6_b126 : b6 < b126 := Nat.lt_of_lt_of_le hb6.lt hr
           have or_b7_b126 : b7 < b126 := Nat.lt_of_lt_of_le hb7.lt hr
           have or_hFz_b126 := (Nat.le_trans hFz.size hr)
           have or_b12_b126 : b12 < b126 := Nat.lt_of_lt_of_le hb12.lt hr
           have or_b14_b126 : b14 < b126 := Nat.lt_of_lt_of_le hb14.lt hr
           have or_b16_b126 : b16 < b126 := Nat.lt_of_lt_of_le hb16.lt hr
           have or_b18_b126 : b18 < b126 := Nat.lt_of_lt_of_le hb18.lt hr
           have or_b20_b126 : b20 < b126 := Nat.lt_of_lt_of_le hb20.lt hr
           have or_b22_b126 : b22 < b126 := Nat.lt_of_lt_of_le hb22.lt hr
           have lo126 := Nat.le_trans (Bel.size hB) hr
           have lo_hBuU_b126 := Nat.le_trans (Bel.size hBuU) hr
           replace hB := hB.tr0 hs
           replace hb4 := hb4.tr0 hs
           replace hb5 := hb5.tr0 hs
           replace hb6 := hb6.tr0 hs
           replace hb7 := hb7.tr0 hs
           replace hFz := same_more hFz hs (by simp)
           replace hBuU := hBuU.tr0 hs
           replace hb12 := hb12.tr0 hs
           replace hb14 := hb14.tr0 hs
           replace hb16 := hb16.tr0 hs
           replace hb18 := hb18.tr0 hs
           replace hb20 := hb20.tr0 hs
           replace hb22 := hb22.tr0 hs
           clear hs
           clear hr
           have z14 := hb14.lt
           have z7 := hb7.lt
           refine wl_cl fn9 (uall_any A B (some ⟨b126, 0, none⟩) c d 3 l fs [ga, gz, gb] _ (hTab.mono hB) (hT.mono hB) (hF.mono hB) (grs_of_blk hb126 (.cons (hG1.mono hB) (.cons (hNz _ hFz) (.cons (hG2.mono hB) .nil))) (by show 3 ≤ maxI; decide))) rfl (fun e' w44 hr => ?_)
           obtain ⟨⟨AA, XA, okA, fA, rfl, hNA, hUA⟩, hs⟩ := hr
           replace hs := Same.of_bel hs
           replace hB := hB.tr0 hs
           replace hb4 := hb4.tr0 hs
           replace hb5 := hb5.tr0 hs
           replace hb6 := hb6.tr0 hs
           replace hb7 := hb7.tr0 hs
           replace hFz := same_more hFz hs (by simp)
           replace hBuU := hBuU.tr0 hs
           replace hb12 := hb12.tr0 hs
           replace hb14 := hb14.tr0 hs
           replace hb16 := hb16.tr0 hs
           replace hb18 := hb18.tr0 hs
           replace hb20 := hb20.tr0 hs
           replace hb22 := hb22.tr0 hs
           replace hb126 := hb126.tr0 hs
           clear hs
           obtain ⟨ZA, hZA⟩ : ∃ z, z = (w43).heap.size := ⟨_, rfl⟩
           rw [← hZA] at hNA z14 z7
           obtain ⟨wA, hwA⟩ : ∃ z, z = w44 := ⟨_, rfl⟩
           have hFA : FrSame ZA wA w44 := by rw [hwA]; exact FrSame.refl _ _
           rw [← hwA] at hNA
           refine ⟨_, rfl, ?_⟩
           refine wl (r_mv (v := .tuple _) rfl) (wl (r_ex (v := _) rfl rfl) (wl (r_ex (v := _) rfl rfl) (wl (r_ex (v := _) rfl rfl) ?_)))
           refine wl_al (cs := #[.slice none 0 0]) ze28_UAll rfl (fun b25 w45 hb25 hs hr => ?_)
           have or_b4_b25 : b4 < b25 := Nat.lt_of_lt_of_le hb4.lt hr
           have or_b5_b25 : b5 < b25 := Nat.lt_of_lt_of_le hb5.lt hr
           have or_b6_b25 : b6 < b25 := Nat.lt_of_lt_of_le hb6.lt hr
           have or_b7_b25 : b7 < b25 := Nat.lt_of_lt_of_le hb7.lt hr
           have or_b12_b25 : b12 < b25 := Nat.lt_of_lt_of_le hb12.lt hr
           have or_b14_b25 : b14 < b25 := Nat.lt_of_lt_of_le hb14.lt hr
           have or_b16_b25 : b16 < b25 := Nat.lt_of_lt_of_le hb16.lt hr
           have or_b18_b25 : b18 < b25 := Nat.lt_of_lt_of_le hb18.lt hr
           have or_b20_b25 : b20 < b25 := Nat.lt_of_lt_of_le hb20.lt hr
           have or_b22_b25 : b22 < b25 := Nat.lt_of_lt_of_le hb22.lt hr
           have or_b126_b25 : b126 < b25 := Nat.lt_of_lt_of_le hb126.lt hr
           have or_hFA_b25 := (Nat.le_trans hFA.size hr)
           have lo25 := Nat.le_trans (Bel.size hB) hr
           replace hB := hB.tr0 hs
           replace hb4 := hb4.tr0 hs
           replace hb5 := hb5.tr0 hs
           replace hb6 := hb6.tr0 hs
           replace hb7 := hb7.tr0 hs
           replace hb12 := hb12.tr0 hs
           replace hb14 := hb14.tr0 hs
           replace hb16 := hb16.tr0 hs
           replace hb18 := hb18.tr0 hs
           replace hb20 := hb20.tr0 hs
           replace hb22 := hb22.tr0 hs
           replace hb126 := hb126.tr0 hs
           replace hFA := hFA.of hs (by simp)
           clear hs
           clear hr
           refine wl_stW hb25 rfl rfl sz28 rfl (by repeat (first | rfl | refine one_cons (by first | rfl | assumption) ?_)) (fun w46 hq hs => ?_)
           replace hB := hB.tr1 hs lo25
           replace hb4 := hb4.tr1 hs (by omega)
           replace hb5 := hb5.tr1 hs (by omega)
           replace hb6 := hb6.tr1 hs (by omega)
           replace hb7 := hb7.tr1 hs (by omega)
           replace hb12 := hb12.tr1 hs (by omega)
           replace hb14 := hb14.tr1 hs (by omega)
           replace hb16 := hb16.tr1 hs (by omega)
           replace hb18 := hb18.tr1 hs (by omega)
           replace hb20 := hb20.tr1 hs (by omega)
           replace hb22 := hb22.tr1 hs (by omega)
           replace hb126 := hb126.tr1 hs (by omega)
           replace hFA := hFA.of hs (fun g hg => by rw [List.mem_singleton.1 hg]; omega)
           clear hs
           replace hb25 := hq
           refine wl (r_as (v := .bool _) rfl) ?_
           refine wl_stW hb14 rfl rfl sz30_UAll rfl (by repeat (first | rfl | refine one_cons (by first | rfl | assumption) ?_)) (fun w47 hq hs => ?_)
           replace hB := hB.tr1 hs lo14
           replace hb4 := hb4.tr1 hs (by omega)
           replace hb5 := hb5.tr1 hs (by omega)
           replace hb6 := hb6.tr1 hs (by omega)
           replace hb7 := hb7.tr1 hs (by omega)
           replace hb12 := hb12.tr1 hs (by omega)
           replace hb16 := hb16.tr1 hs (by omega)
           replace hb18 := hb18.tr1 hs (by omega)
           replace hb20 := hb20.tr1 hs (by omega)
           replace hb22 := hb22.tr1 hs (by omega)
           replace hb126 := hb126.tr1 hs (by omega)
           replace hFA := hFA.of hs (fun g hg => by rw [List.mem_singleton.1 hg]; omega)
           replace hb25 := hb25.tr1 hs (by omega)
           clear hs
           replace hb14 := hq
           refine x_nil (e_S (c_seq (c_seq (c_region (wl (r_fa Tryd.underlying30 sz3_GSearch (by decide) rfl rfl rfl) ?_)))))
           refine wl (r_ld1 (v := .int _ _) Tryd.underlying3 rfl rfl (hb14.cell rfl)) (wl (r_neq rfl rfl) (wl (r_mv (v := .bool _) rfl) ?_))
           refine wl_casesd 134 rfl (fun g134 => ?_) (fun g134 => ?_)
           ·
            refine wlgn 134 rfl rfl rfl (wlgn 134 rfl rfl rfl (wl (r_pt (v := .bool _) rfl rfl) (x_nil (e_S (c_yes rfl ?_)))))
            refine c_seq (c_region (wl (r_as (v := .bool _) rfl) (x_nil (e_S (c_ret ?_)))))
            refine e_Sr (e_Br (e_Sr (e_LSr (e_Br (e_Sr ?_)))))
            refine fin1 (.inl rfl) rfl rfl ?_
            exact ⟨rfl, hB⟩
           ·
            refine wl_gd 134 rfl rfl (wl (r_mv (v := .bool _) rfl) (wl_gd 134 rfl rfl (wl (r_not rfl) (wl (r_pf (v := .bool _) rfl rfl) (x_nil ?_)))))
            refine e_S ?_
            refine c_if rfl (fun c137 => ?_) (fun c137 => ?_)
            ·
             refine c_seq (c_region (wl (r_as (v := .bool _) rfl) (x_nil (e_S (c_ret ?_)))))
             refine e_Sr (e_Br (e_Sr (e_LSr (e_Br (e_Sr ?_)))))
             refine fin1 (.inl rfl) rfl rfl ?_
             exact ⟨rfl, hB⟩
            ·
             have hokA : okA = true := by simpa using c137
             have hgA0 := alls_val hUA hokA
             refine c_skip (e_S (c_region (wl (r_ldS Tryd.underlying28 rfl rfl hb25.range0 sz28) ?_)))
             refine wl_stW hb7 rfl rfl sz28 rfl (by repeat (first | rfl | refine one_cons (by first | rfl | assumption) ?_)) (fun w48 hq hs => ?_)
             replace hB := hB.tr1 hs lo7
             replace hb4 := hb4.tr1 hs (by omega)
             replace hb5 := hb5.tr1 hs (by omega)
             replace hb6 := hb6.tr1 hs (by omega)
             replace hb12 := hb12.tr1 hs (by omega)
             replace hb14 := hb14.tr1 hs (by omega)
             replace hb16 := hb16.tr1 hs (by omega)
             replace hb18 := hb18.tr1 hs (by omega)
             replace hb20 := hb20.tr1 hs (by omega)
             replace hb22 := hb22.tr1 hs (by omega)
             replace hb126 := hb126.tr1 hs (by omega)
             replace hFA := hFA.of hs (fun g hg => by rw [List.mem_singleton.1 hg]; omega)
             replace hb25 := hb25.tr1 hs (by omega)
             clear hs
             replace hb7 := hq
             refine x_nil (e_B (e_S (c_region (wl (r_add rfl rfl rfl (by omega)) (wl (r_mv (v := .int _ _) rfl) ?_)))))
             refine x_nil ?_
             refine e_LS (2 - (k + 1)) (by omega) (by repeat (first | exact ag_refl | exact ag_ovr' | refine ag_upd rfl ?_ | refine ag_sub rfl ?_ | refine ag_kn (by assumption) ?_)) ?_
             exact ⟨k + 1, XA, AA, XA.length, _, by omega, rfl, rfl, hB, hb4, hb5, hb6, hb7, hgA0, Same.refl _ _, fun w2 h => hNA _ (hFA.of h (fun g hg => by rw [List.mem_singleton.1 hg]; left; omega))⟩
         ·
          refine wlgn 107 rfl rfl rfl (wl (r_pf (v := .bool _) rfl rfl) (x_nil (e_S (c_no rfl (c_skip ?_)))))
          refine e_S (c_seq (c_region (wl (r_ldS Tryd.underlying25 rfl rfl hb4.range0 sz25) (wl (r_ldS Tryd.underlying28 rfl rfl hb5.range0 sz28) (wl (r_ldS Tryd.underlying28 rfl rfl hb7.range0 sz28) ?_)))))
          refine wl (r_ldS Tryd.underlying28 rfl rfl hb6.range0 sz28) ?_
          refine wl_bs (cs := #[_, _, _]) [(0, .agg _), (1, .agg _), (2, .agg _)] rfl Tryd.underlying35 sz28 ze28_UAll (by decide) (by decide) (by kernel_rfl) rfl (fun b126 w49 hb126 hs hr => ?_)
          have or_b4_b126 : b4 < b126 := Nat.lt_of_lt_of_le hb4.lt hr
          have or_b5_b126 : b5 < b126 := Nat.lt_of_lt_of_le hb5.lt hr
          have or_b6_b126 : b6 < b126 := Nat.lt_of_lt_of_le hb6.lt hr
          have or_b7_b126 : b7 < b126 := Nat.lt_of_lt_of_le hb7.lt hr
          have or_hFz_b126 := (Nat.le_trans hFz.size hr)
          have or_b12_b126 : b12 < b126 := Nat.lt_of_lt_of_le hb12.lt hr
          have or_b14_b126 : b14 < b126 := Nat.lt_of_lt_of_le hb14.lt hr
          have or_b16_b126 : b16 < b126 := Nat.lt_of_lt_of_le hb16.lt hr
          have or_b18_b126 : b18 < b126 := Nat.lt_of_lt_of_le hb18.lt hr
          have or_b20_b126 : b20 < b126 := Nat.lt_of_lt_of_le hb20.lt hr
          have or_b22_b126 : b22 < b126 := Nat.lt_of_lt_of_le hb22.lt hr
          have lo126 := Nat.le_trans (Bel.size hB) hr
          have lo_hBuU_b126 := Nat.le_trans (Bel.size hBuU) hr
          replace hB := hB.tr0 hs
          replace hb4 := hb4.tr0 hs
          replace hb5 := hb5.tr0 hs
          replace hb6 := hb6.tr0 hs
          replace hb7 := hb7.tr0 hs
          replace hFz := same_more hFz hs (by simp)
          replace hBuU := hBuU.tr0 hs
          replace hb12 := hb12.tr0 hs
          replace hb14 := hb14.tr0 hs
          replace hb16 := hb16.tr0 hs
          replace hb18 := hb18.tr0 hs
          replace hb20 := hb20.tr0 hs
          replace hb22 := hb22.tr0 hs
          clear hs
          clear hr
          have z14 := hb14.lt
          have z7 := hb7.lt
          refine wl_cl fn9 (uall_any A B (some ⟨b126, 0, none⟩) c d 3 l fs [ga, gz, gb] _ (hTab.mono hB) (hT.mono hB) (hF.mono hB) (grs_of_blk hb126 (.cons (hG1.mono hB) (.cons (hNz _ hFz) (.cons (hG2.mono hB) .nil))) (by show 3 ≤ maxI; decide))) rfl (fun e' w50 hr => ?_)
          obtain ⟨⟨AA, XA, okA, fA, rfl, hNA, hUA⟩, hs⟩ := hr
          replace hs := Same.of_bel hs
          replace hB := hB.tr0 hs
          replace hb4 := hb4.tr0 hs
          replace hb5 := hb5.tr0 hs
          replace hb6 := hb6.tr0 hs
          replace hb7 := hb7.tr0 hs
          replace hFz := same_more hFz hs (by simp)
          replace hBuU := hBuU.tr0 hs
          replace hb12 := hb12.tr0 hs
          replace hb14 := hb14.tr0 hs
          replace hb16 := hb16.tr0 hs
          replace hb18 := hb18.tr0 hs
          replace hb20 := hb20.tr0 hs
          replace hb22 := hb22.tr0 hs
          replace hb126 := hb126.tr0 hs
          clear hs
          obtain ⟨ZA, hZA⟩ : ∃ z, z = (w49).heap.size := ⟨_, rfl⟩
          rw [← hZA] at hNA z14 z7
          obtain ⟨wA, hwA⟩ : ∃ z, z = w50 := ⟨_, rfl⟩
          have hFA : FrSame ZA wA w50 := by rw [hwA]; exact FrSame.refl _ _
          rw [← hwA] at hNA
          refine ⟨_, rfl, ?_⟩
          refine wl (r_mv (v := .tuple _) rfl) (wl (r_ex (v := _) rfl rfl) (wl (r_ex (v := _) rfl rfl) (wl (r_ex (v := _) rfl rfl) ?_)))
          refine wl_al (cs := #[.slice none 0 0]) ze28_UAll rfl (fun b25 w51 hb25 hs hr => ?_)
          have or_b4_b25 : b4 < b25 := Nat.lt_of_lt_of_le hb4.lt hr
          have or_b5_b25 : b5 < b25 := Nat.lt_of_lt_of_le hb5.lt hr
          have or_b6_b25 : b6 < b25 := Nat.lt_of_lt_of_le hb6.lt hr
          have or_b7_b25 : b7 < b25 := Nat.lt_of_lt_of_le hb7.lt hr
          have or_b12_b25 : b12 < b25 := Nat.lt_of_lt_of_le hb12.lt hr
          have or_b14_b25 : b14 < b25 := Nat.lt_of_lt_of_le hb14.lt hr
          have or_b16_b25 : b16 < b25 := Nat.lt_of_lt_of_le hb16.lt hr
          have or_b18_b25 : b18 < b25 := Nat.lt_of_lt_of_le hb18.lt hr
          have or_b20_b25 : b20 < b25 := Nat.lt_of_lt_of_le hb20.lt hr
          have or_b22_b25 : b22 < b25 := Nat.lt_of_lt_of_le hb22.lt hr
          have or_b126_b25 : b126 < b25 := Nat.lt_of_lt_of_le hb126.lt hr
          have or_hFA_b25 := (Nat.le_trans hFA.size hr)
          have lo25 := Nat.le_trans (Bel.size hB) hr
          replace hB := hB.tr0 hs
          replace hb4 := hb4.tr0 hs
          replace hb5 := hb5.tr0 hs
          replace hb6 := hb6.tr0 hs
          replace hb7 := hb7.tr0 hs
          replace hb12 := hb12.tr0 hs
          replace hb14 := hb14.tr0 hs
          replace hb16 := hb16.tr0 hs
          replace hb18 := hb18.tr0 hs
          replace hb20 := hb20.tr0 hs
          replace hb22 := hb22.tr0 hs
          replace hb126 := hb126.tr0 hs
          replace hFA := hFA.of hs (by simp)
          clear hs
          clear hr
          refine wl_stW hb25 rfl rfl sz28 rfl (by repeat (first | rfl | refine one_cons (by first | rfl | assumption) ?_)) (fun w52 hq hs => ?_)
          replace hB := hB.tr1 hs lo25
          replace hb4 := hb4.tr1 hs (by omega)
          replace hb5 := hb5.tr1 hs (by omega)
          replace hb6 := hb6.tr1 hs (by omega)
          replace hb7 := hb7.tr1 hs (by omega)
          replace hb12 := hb12.tr1 hs (by omega)
          replace hb14 := hb14.tr1 hs (by omega)
          replace hb16 := hb16.tr1 hs (by omega)
          replace hb18 := hb18.tr1 hs (by omega)
          replace hb20 := hb20.tr1 hs (by omega)
          replace hb22 := hb22.tr1 hs (by omega)
          replace hb126 := hb126.tr1 hs (by omega)
          replace hFA := hFA.of hs (fun g hg => by rw [List.mem_singleton.1 hg]; omega)
          clear hs
          replace hb25 := hq
          refine wl (r_as (v := .bool _) rfl) ?_
          refine wl_stW hb14 rfl rfl sz30_UAll rfl (by repeat (first | rfl | refine one_cons (by first | rfl | assumption) ?_)) (fun w53 hq hs => ?_)
          replace hB := hB.tr1 hs lo14
          replace hb4 := hb4.tr1 hs (by omega)
          replace hb5 := hb5.tr1 hs (by omega)
          replace hb6 := hb6.tr1 hs (by omega)
          replace hb7 := hb7.tr1 hs (by omega)
          replace hb12 := hb12.tr1 hs (by omega)
          replace hb16 := hb16.tr1 hs (by omega)
          replace hb18 := hb18.tr1 hs (by omega)
          replace hb20 := hb20.tr1 hs (by omega)
          replace hb22 := hb22.tr1 hs (by omega)
          replace hb126 := hb126.tr1 hs (by omega)
          replace hFA := hFA.of hs (fun g hg => by rw [List.mem_singleton.1 hg]; omega)
          replace hb25 := hb25.tr1 hs (by omega)
          clear hs
          replace hb14 := hq
          refine x_nil (e_S (c_seq (c_seq (c_region (wl (r_fa Tryd.underlying30 sz3_GSearch (by decide) rfl rfl rfl) ?_)))))
          refine wl (r_ld1 (v := .int _ _) Tryd.underlying3 rfl rfl (hb14.cell rfl)) (wl (r_neq rfl rfl) (wl (r_mv (v := .bool _) rfl) ?_))
          refine wl_casesd 134 rfl (fun g134 => ?_) (fun g134 => ?_)
          ·
           refine wlgn 134 rfl rfl rfl (wlgn 134 rfl rfl rfl (wl (r_pt (v := .bool _) rfl rfl) (x_nil (e_S (c_yes rfl ?_)))))
           refine c_seq (c_region (wl (r_as (v := .bool _) rfl) (x_nil (e_S (c_ret ?_)))))
           refine e_Sr (e_Br (e_Sr (e_LSr (e_Br (e_Sr ?_)))))
           refine fin1 (.inl rfl) rfl rfl ?_
           exact ⟨rfl, hB⟩
          ·
           refine wl_gd 134 rfl rfl (wl (r_mv (v := .bool _) rfl) (wl_gd 134 rfl rfl (wl (r_not rfl) (wl (r_pf (v := .bool _) rfl rfl) (x_nil ?_)))))
           refine e_S ?_
           refine c_if rfl (fun c137 => ?_) (fun c137 => ?_)
           ·
            refine c_seq (c_region (wl (r_as (v := .bool _) rfl) (x_nil (e_S (c_ret ?_)))))
            refine e_Sr (e_Br (e_Sr (e_LSr (e_Br (e_Sr ?_)))))
            refine fin1 (.inl rfl) rfl rfl ?_
            exact ⟨rfl, hB⟩
           ·
            have hokA : okA = true := by simpa using c137
            have hgA0 := alls_val hUA hokA
            refine c_skip (e_S (c_region (wl (r_ldS Tryd.underlying28 rfl rfl hb25.range0 sz28) ?_)))
            refine wl_stW hb7 rfl rfl sz28 rfl (by repeat (first | rfl | refine one_cons (by first | rfl | assumption) ?_)) (fun w54 hq hs => ?_)
            replace hB := hB.tr1 hs lo7
            replace hb4 := hb4.tr1 hs (by omega)
            replace hb5 := hb5.tr1 hs (by omega)
            replace hb6 := hb6.tr1 hs (by omega)
            replace hb12 := hb12.tr1 hs (by omega)
            replace hb14 := hb14.tr1 hs (by omega)
            replace hb16 := hb16.tr1 hs (by omega)
            replace hb18 := hb18.tr1 hs (by omega)
            replace hb20 := hb20.tr1 hs (by omega)
            replace hb22 := hb22.tr1 hs (by omega)
            replace hb126 := hb126.tr1 hs (by omega)
            replace hFA := hFA.of hs (fun g hg => by rw [List.mem_singleton.1 hg]; omega)
            replace hb25 := hb25.tr1 hs (by omega)
            clear hs
            replace hb7 := hq
            refine x_nil (e_B (e_S (c_region (wl (r_add rfl rfl rfl (by omega)) (wl (r_mv (v := .int _ _) rfl) ?_)))))
            refine x_nil ?_
            refine e_LS (2 - (k + 1)) (by omega) (by repeat (first | exact ag_refl | exact ag_ovr' | refine ag_upd rfl ?_ | refine ag_sub rfl ?_ | refine ag_kn (by assumption) ?_)) ?_
            exact ⟨k + 1, XA, AA, XA.length, _, by omega, rfl, rfl, hB, hb4, hb5, hb6, hb7, hgA0, Same.refl _ _, fun w2 h => hNA _ (hFA.of h (fun g hg => by rw [List.mem_singleton.1 hg]; left; omega))⟩
       ·
        refine c_skip (e_S (c_seq (c_region (wl (r_ldS Tryd.underlying25 rfl rfl hb4.range0 sz25) (wl (r_ldS Tryd.underlying28 rfl rfl hb5.range0 sz28) ?_)))))
        refine wl (r_ldS Tryd.underlying28 rfl rfl hb7.range0 sz28) ?_
        refine wl_cl fn18_ULst (subs_any A B G1 G3z c d c1 c3z l fs ga gz _ (hTab.mono hB) (hT.mono hB) (hF.mono hB) (hG1.mono hB) (hNz _ hFz)) rfl (fun e' w55 hr => ?_)
        obtain ⟨rfl, hs⟩ := hr
        replace hs := Same.of_bel hs
        replace hB := hB.tr0 hs
        replace hb4 := hb4.tr0 hs
        replace hb5 := hb5.tr0 hs
        replace hb6 := hb6.tr0 hs
        replace hb7 := hb7.tr0 hs
        replace hFz := same_more hFz hs (by simp)
        replace hBuU := hBuU.tr0 hs
        replace hb12 := hb12.tr0 hs
        replace hb14 := hb14.tr0 hs
        clear hs
        refine ⟨_, rfl, ?_⟩
        refine wl (r_mv (v := .tuple _) rfl) (wl (r_ex (v := _) rfl rfl) (wl (r_ex (v := _) rfl rfl) ?_))
        refine wl_al (cs := #[.int .i64 0, .int .i64 0]) ze30_UAll rfl (fun b20 w56 hb20 hs hr => ?_)
        have or_b4_b20 : b4 < b20 := Nat.lt_of_lt_of_le hb4.lt hr
        have or_b5_b20 : b5 < b20 := Nat.lt_of_lt_of_le hb5.lt hr
        have or_b6_b20 : b6 < b20 := Nat.lt_of_lt_of_le hb6.lt hr
        have or_b7_b20 : b7 < b20 := Nat.lt_of_lt_of_le hb7.lt hr
        have or_hFz_b20 := (Nat.le_trans hFz.size hr)
        have or_b12_b20 : b12 < b20 := Nat.lt_of_lt_of_le hb12.lt hr
        have or_b14_b20 : b14 < b20 := Nat.lt_of_lt_of_le hb14.lt hr
        have lo20 := Nat.le_trans (Bel.size hB) hr
        have lo_hBuU_b20 := Nat.le_trans (Bel.size hBuU) hr
        replace hB := hB.tr0 hs
        replace hb4 := hb4.tr0 hs
        replace hb5 := hb5.tr0 hs
        replace hb6 := hb6.tr0 hs
        replace hb7 := hb7.tr0 hs
        replace hFz := same_more hFz hs (by simp)
        replace hBuU := hBuU.tr0 hs
        replace hb12 := hb12.tr0 hs
        replace hb14 := hb14.tr0 hs
        clear hs
        clear hr
        refine wl (r_as (v := .bool _) rfl) ?_
        refine wl_stW hb20 rfl rfl sz30_UAll rfl (by repeat (first | rfl | refine one_cons (by first | rfl | assumption) ?_)) (fun w57 hq hs => ?_)
        replace hB := hB.tr1 hs lo20
        replace hb4 := hb4.tr1 hs (by omega)
        replace hb5 := hb5.tr1 hs (by omega)
        replace hb6 := hb6.tr1 hs (by omega)
        replace hb7 := hb7.tr1 hs (by omega)
        replace hFz := same_more hFz hs (fun g hg => by rw [List.mem_singleton.1 hg]; first | exact .inl rfl | exact .inr (by omega))
        replace hBuU := hBuU.tr1 hs lo_hBuU_b20
        replace hb12 := hb12.tr1 hs (by omega)
        replace hb14 := hb14.tr1 hs (by omega)
        clear hs
        replace hb20 := hq
        refine x_nil (e_S (c_seq (c_region (wl (r_ldS Tryd.underlying25 rfl rfl hb4.range0 sz25) (wl (r_ldS Tryd.underlying28 rfl rfl hb6.range0 sz28) ?_)))))
        refine wl (r_ldS Tryd.underlying28 rfl rfl hb7.range0 sz28) ?_
        refine wl_cl fn18_ULst (subs_any A B G2 G3z c d c2 c3z l fs gb gz _ (hTab.mono hB) (hT.mono hB) (hF.mono hB) (hG2.mono hB) (hNz _ hFz)) rfl (fun e' w58 hr => ?_)
        obtain ⟨rfl, hs⟩ := hr
        replace hs := Same.of_bel hs
        replace hB := hB.tr0 hs
        replace hb4 := hb4.tr0 hs
        replace hb5 := hb5.tr0 hs
        replace hb6 := hb6.tr0 hs
        replace hb7 := hb7.tr0 hs
        replace hFz := same_more hFz hs (by simp)
        replace hBuU := hBuU.tr0 hs
        replace hb12 := hb12.tr0 hs
        replace hb14 := hb14.tr0 hs
        replace hb20 := hb20.tr0 hs
        clear hs
        refine ⟨_, rfl, ?_⟩
        refine wl (r_mv (v := .tuple _) rfl) (wl (r_ex (v := _) rfl rfl) (wl (r_ex (v := _) rfl rfl) ?_))
        refine wl_al (cs := #[.int .i64 0, .int .i64 0]) ze30_UAll rfl (fun b22 w59 hb22 hs hr => ?_)
        have or_b4_b22 : b4 < b22 := Nat.lt_of_lt_of_le hb4.lt hr
        have or_b5_b22 : b5 < b22 := Nat.lt_of_lt_of_le hb5.lt hr
        have or_b6_b22 : b6 < b22 := Nat.lt_of_lt_of_le hb6.lt hr
        have or_b7_b22 : b7 < b22 := Nat.lt_of_lt_of_le hb7.lt hr
        have or_hFz_b22 := (Nat.le_trans hFz.size hr)
        have or_b12_b22 : b12 < b22 := Nat.lt_of_lt_of_le hb12.lt hr
        have or_b14_b22 : b14 < b22 := Nat.lt_of_lt_of_le hb14.lt hr
        have or_b20_b22 : b20 < b22 := Nat.lt_of_lt_of_le hb20.lt hr
        have lo22 := Nat.le_trans (Bel.size hB) hr
        have lo_hBuU_b22 := Nat.le_trans (Bel.size hBuU) hr
        replace hB := hB.tr0 hs
        replace hb4 := hb4.tr0 hs
        replace hb5 := hb5.tr0 hs
        replace hb6 := hb6.tr0 hs
        replace hb7 := hb7.tr0 hs
        replace hFz := same_more hFz hs (by simp)
        replace hBuU := hBuU.tr0 hs
        replace hb12 := hb12.tr0 hs
        replace hb14 := hb14.tr0 hs
        replace hb20 := hb20.tr0 hs
        clear hs
        clear hr
        refine wl (r_as (v := .bool _) rfl) ?_
        refine wl_stW hb22 rfl rfl sz30_UAll rfl (by repeat (first | rfl | refine one_cons (by first | rfl | assumption) ?_)) (fun w60 hq hs => ?_)
        replace hB := hB.tr1 hs lo22
        replace hb4 := hb4.tr1 hs (by omega)
        replace hb5 := hb5.tr1 hs (by omega)
        replace hb6 := hb6.tr1 hs (by omega)
        replace hb7 := hb7.tr1 hs (by omega)
        replace hFz := same_more hFz hs (fun g hg => by rw [List.mem_singleton.1 hg]; first | exact .inl rfl | exact .inr (by omega))
        replace hBuU := hBuU.tr1 hs lo_hBuU_b22
        replace hb12 := hb12.tr1 hs (by omega)
        replace hb14 := hb14.tr1 hs (by omega)
        replace hb20 := hb20.tr1 hs (by omega)
        clear hs
        replace hb22 := hq
        refine x_nil (e_S (c_seq (c_seq (c_region (wl (r_mv (v := .bool _) rfl) ?_)))))
        refine wl (r_mv (v := .bool _) rfl) ?_
        refine wl_cases 107 rfl (fun g107 => ?_) (fun g107 => ?_)
        ·
         refine wl_gd 107 rfl rfl (wl (r_mv (v := .bool _) rfl) (wl (r_pt (v := .bool _) rfl rfl) (x_nil (e_S ?_))))
         refine c_if rfl (fun c109 => ?_) (fun c109 => ?_)
         ·
          have hzy : subB l fs gb gz = true := by simpa using c109
          obtain ⟨hokz, hlz⟩ := uni_least hga0 hgb0 hgz hUU hf0 g107 hzy
          refine c_seq (c_seq (c_region (wl (r_mv (v := .bool _) rfl) (wl (r_not rfl) (x_nil ?_)))))
          refine e_S ?_
          refine c_if rfl (fun c111 => ?_) (fun c111 => ?_)
          ·
           exact absurd hokz (by simpa using c111)
          ·
           refine c_skip (e_S (c_seq (c_region (wl (r_ldS Tryd.underlying25 rfl rfl hb4.range0 sz25) (wl (r_ldS Tryd.underlying28 rfl rfl hb12.range0 sz28) ?_)))))
           refine wl (r_ldS Tryd.underlying28 rfl rfl hb7.range0 sz28) ?_
           refine wl_cl fn18_ULst (subs_any A B AU G3z c d XU.length c3z l fs XU gz _ (hTab.mono hB) (hT.mono hB) (hF.mono hB) (hNU.mono hBuU) (hNz _ hFz)) rfl (fun e' w61 hr => ?_)
           obtain ⟨rfl, hs⟩ := hr
           replace hs := Same.of_bel hs
           replace hB := hB.tr0 hs
           replace hb4 := hb4.tr0 hs
           replace hb5 := hb5.tr0 hs
           replace hb6 := hb6.tr0 hs
           replace hb7 := hb7.tr0 hs
           replace hFz := same_more hFz hs (by simp)
           replace hBuU := hBuU.tr0 hs
           replace hb12 := hb12.tr0 hs
           replace hb14 := hb14.tr0 hs
           replace hb20 := hb20.tr0 hs
           replace hb22 := hb22.tr0 hs
           clear hs
           refine ⟨_, rfl, ?_⟩
           refine wl (r_mv (v := .tuple _) rfl) (wl (r_ex (v := _) rfl rfl) (wl (r_ex (v := _) rfl rfl) ?_))
           refine wl_al (cs := #[.int .i64 0, .int .i64 0]) ze30_UAll rfl (fun b24 w62 hb24 hs hr => ?_)
           have or_b4_b24 : b4 < b24 := Nat.lt_of_lt_of_le hb4.lt hr
           have or_b5_b24 : b5 < b24 := Nat.lt_of_lt_of_le hb5.lt hr
           have or_b6_b24 : b6 < b24 := Nat.lt_of_lt_of_le hb6.lt hr
           have or_b7_b24 : b7 < b24 := Nat.lt_of_lt_of_le hb7.lt hr
           have or_hFz_b24 := (Nat.le_trans hFz.size hr)
           have or_b12_b24 : b12 < b24 := Nat.lt_of_lt_of_le hb12.lt hr
           have or_b14_b24 : b14 < b24 := Nat.lt_of_lt_of_le hb14.lt hr
           have or_b20_b24 : b20 < b24 := Nat.lt_of_lt_of_le hb20.lt hr
           have or_b22_b24 : b22 < b24 := Nat.lt_of_lt_of_le hb22.lt hr
           have lo24 := Nat.le_trans (Bel.size hB) hr
           have lo_hBuU_b24 := Nat.le_trans (Bel.size hBuU) hr
           replace hB := hB.tr0 hs
           replace hb4 := hb4.tr0 hs
           replace hb5 := hb5.tr0 hs
           replace hb6 := hb6.tr0 hs
           replace hb7 := hb7.tr0 hs
           replace hFz := same_more hFz hs (by simp)
           replace hBuU := hBuU.tr0 hs
           replace hb12 := hb12.tr0 hs
           replace hb14 := hb14.tr0 hs
           replace hb20 := hb20.tr0 hs
           replace hb22 := hb22.tr0 hs
           clear hs
           clear hr
           refine wl (r_as (v := .bool _) rfl) ?_
           refine wl_stW hb24 rfl rfl sz30_UAll rfl (by repeat (first | rfl | refine one_cons (by first | rfl | assumption) ?_)) (fun w63 hq hs => ?_)
           replace hB := hB.tr1 hs lo24
           replace hb4 := hb4.tr1 hs (by omega)
           replace hb5 := hb5.tr1 hs (by omega)
           replace hb6 := hb6.tr1 hs (by omega)
           replace hb7 := hb7.tr1 hs (by omega)
           replace hFz := same_more hFz hs (fun g hg => by rw [List.mem_singleton.1 hg]; first | exact .inl rfl | exact .inr (by omega))
           replace hBuU := hBuU.tr1 hs lo_hBuU_b24
           replace hb12 := hb12.tr1 hs (by omega)
           replace hb14 := hb14.tr1 hs (by omega)
           replace hb20 := hb20.tr1 hs (by omega)
           replace hb22 := hb22.tr1 hs (by omega)
           clear hs
           replace hb24 := hq
           refine x_nil (e_S (c_seq (c_region (wl (r_mv (v := .bool true) (congrArg Value.bool hlz)) (wl (r_not rfl) ?_)))))
           refine x_nil (e_S ?_)
           refine c_if rfl (fun c120 => ?_) (fun c120 => ?_)
           ·
            exact absurd c120 (by decide)
           ·
            refine c_skip (e_S (c_seq (c_region (wl (r_ldS Tryd.underlying25 rfl rfl hb4.range0 sz25) (wl (r_ldS Tryd.underlying28 rfl rfl hb5.range0 sz28) ?_)))))
            refine wl (r_ldS Tryd.underlying28 rfl rfl hb7.range0 sz28) (wl (r_ldS Tryd.underlying28 rfl rfl hb6.range0 sz28) ?_)
            refine wl_bs (cs := #[_, _, _]) [(0, .agg _), (1, .agg _), (2, .agg _)] rfl Tryd.underlying35 sz28 ze28_UAll (by decide) (by decide) (by kernel_rfl) rfl (fun b126 w64 hb126 hs hr => ?_)
            have or_b4_b126 : b4 < b126 := Nat.lt_of_lt_of_le hb4.lt hr
            have or_b5_b126 : b5 < b126 := Nat.lt_of_lt_of_le hb5.lt hr
            have or_b6_b126 : b6 < b126 := Nat.lt_of_lt_of_le hb6.lt hr
            have or_b7_b126 : b7 < b126 := Nat.lt_of_lt_of_le hb7.lt hr
            have or_hFz_b126 := (Nat.le_trans hFz.size hr)
            have or_b12_b126 : b12 < b126 := Nat.lt_of_lt_of_le hb12.lt hr
            have or_b14_b126 : b14 < b126 := Nat.lt_of_lt_of_le hb14.lt hr
            have or_b20_b126 : b20 < b126 := Nat.lt_of_lt_of_le hb20.lt hr
            have or_b22_b126 : b22 < b126 := Nat.lt_of_lt_of_le hb22.lt hr
            have or_b24_b126 : b24 < b126 := Nat.lt_of_lt_of_le hb24.lt hr
            have lo126 := Nat.le_trans (Bel.size hB) hr
            have lo_hBuU_b126 := Nat.le_trans (Bel.size hBuU) hr
            replace hB := hB.tr0 hs
            replace hb4 := hb4.tr0 hs
            replace hb5 := hb5.tr0 hs
            replace hb6 := hb6.tr0 hs
            replace hb7 := hb7.tr0 hs
            replace hFz := same_more hFz hs (by simp)
            replace hBuU := hBuU.tr0 hs
            replace hb12 := hb12.tr0 hs
            replace hb14 := hb14.tr0 hs
            replace hb20 := hb20.tr0 hs
            replace hb22 := hb22.tr0 hs
            replace hb24 := hb24.tr0 hs
            clear hs
            clear hr
            have z14 := hb14.lt
            have z7 := hb7.lt
            refine wl_cl fn9 (uall_any A B (some ⟨b126, 0, none⟩) c d 3 l fs [ga, gz, gb] _ (hTab.mono hB) (hT.mono hB) (hF.mono hB) (grs_of_blk hb126 (.cons (hG1.mono hB) (.cons (hNz _ hFz) (.cons (hG2.mono hB) .nil))) (by show 3 ≤ maxI; decide))) rfl (fun e' w65 hr => ?_)
            obtain ⟨⟨AA, XA, okA, fA, rfl, hNA, hUA⟩, hs⟩ := hr
            replace hs := Same.of_bel hs
            replace hB := hB.tr0 hs
            replace hb4 := hb4.tr0 hs
            replace hb5 := hb5.tr0 hs
            replace hb6 := hb6.tr0 hs
            replace hb7 := hb7.tr0 hs
            replace hFz := same_more hFz hs (by simp)
            replace hBuU := hBuU.tr0 hs
            replace hb12 := hb12.tr0 hs
            replace hb14 := hb14.tr0 hs
            replace hb20 := hb20.tr0 hs
            replace hb22 := hb22.tr0 hs
            replace hb24 := hb24.tr0 hs
            replace hb126 := hb126.tr0 hs
            clear hs
            obtain ⟨ZA, hZA⟩ : ∃ z, z = (w64).heap.size := ⟨_, rfl⟩
            rw [← hZA] at hNA z14 z7
            obtain ⟨wA, hwA⟩ : ∃ z, z = w65 := ⟨_, rfl⟩
            have hFA : FrSame ZA wA w65 := by rw [hwA]; exact FrSame.refl _ _
            rw [← hwA] at hNA
            refine ⟨_, rfl, ?_⟩
            refine wl (r_mv (v := .tuple _) rfl) (wl (r_ex (v := _) rfl rfl) (wl (r_ex (v := _) rfl rfl) (wl (r_ex (v := _) rfl rfl) ?_)))
            refine wl_al (cs := #[.slice none 0 0]) ze28_UAll rfl (fun b25 w66 hb25 hs hr => ?_)
            have or_b4_b25 : b4 < b25 := Nat.lt_of_lt_of_le hb4.lt hr
            have or_b5_b25 : b5 < b25 := Nat.lt_of_lt_of_le hb5.lt hr
            have or_b6_b25 : b6 < b25 := Nat.lt_of_lt_of_le hb6.lt hr
            have or_b7_b25 : b7 < b25 := Nat.lt_of_lt_of_le hb7.lt hr
            have or_b12_b25 : b12 < b25 := Nat.lt_of_lt_of_le hb12.lt hr
            have or_b14_b25 : b14 < b25 := Nat.lt_of_lt_of_le hb14.lt hr
            have or_b20_b25 : b20 < b25 := Nat.lt_of_lt_of_le hb20.lt hr
            have or_b22_b25 : b22 < b25 := Nat.lt_of_lt_of_le hb22.lt hr
            have or_b24_b25 : b24 < b25 := Nat.lt_of_lt_of_le hb24.lt hr
            have or_b126_b25 : b126 < b25 := Nat.lt_of_lt_of_le hb126.lt hr
            have or_hFA_b25 := (Nat.le_trans hFA.size hr)
            have lo25 := Nat.le_trans (Bel.size hB) hr
            replace hB := hB.tr0 hs
            replace hb4 := hb4.tr0 hs
            replace hb5 := hb5.tr0 hs
            replace hb6 := hb6.tr0 hs
            replace hb7 := hb7.tr0 hs
            replace hb12 := hb12.tr0 hs
            replace hb14 := hb14.tr0 hs
            replace hb20 := hb20.tr0 hs
            replace hb22 := hb22.tr0 hs
            replace hb24 := hb24.tr0 hs
            replace hb126 := hb126.tr0 hs
            replace hFA := hFA.of hs (by simp)
            clear hs
            clear hr
            refine wl_stW hb25 rfl rfl sz28 rfl (by repeat (first | rfl | refine one_cons (by first | rfl | assumption) ?_)) (fun w67 hq hs => ?_)
            replace hB := hB.tr1 hs lo25
            replace hb4 := hb4.tr1 hs (by omega)
            replace hb5 := hb5.tr1 hs (by omega)
            replace hb6 := hb6.tr1 hs (by omega)
            replace hb7 := hb7.tr1 hs (by omega)
            replace hb12 := hb12.tr1 hs (by omega)
            replace hb14 := hb14.tr1 hs (by omega)
            replace hb20 := hb20.tr1 hs (by omega)
            replace hb22 := hb22.tr1 hs (by omega)
            replace hb24 := hb24.tr1 hs (by omega)
            replace hb126 := hb126.tr1 hs (by omega)
            replace hFA := hFA.of hs (fun g hg => by rw [List.mem_singleton.1 hg]; omega)
            clear hs
            replace hb25 := hq
            refine wl (r_as (v := .bool _) rfl) ?_
            refine wl_stW hb14 rfl rfl sz30_UAll rfl (by repeat (first | rfl | refine one_cons (by first | rfl | assumption) ?_)) (fun w68 hq hs => ?_)
            replace hB := hB.tr1 hs lo14
            replace hb4 := hb4.tr1 hs (by omega)
            replace hb5 := hb5.tr1 hs (by omega)
            replace hb6 := hb6.tr1 hs (by omega)
            replace hb7 := hb7.tr1 hs (by omega)
            replace hb12 := hb12.tr1 hs (by omega)
            replace hb20 := hb20.tr1 hs (by omega)
            replace hb22 := hb22.tr1 hs (by omega)
            replace hb24 := hb24.tr1 hs (by omega)
            replace hb126 := hb126.tr1 hs (by omega)
            replace hFA := hFA.of hs (fun g hg => by rw [List.mem_singleton.1 hg]; omega)
            replace hb25 := hb25.tr1 hs (by omega)
            clear hs
            replace hb14 := hq
            refine x_nil (e_S (c_seq (c_seq (c_region (wl (r_fa Tryd.underlying30 sz3_GSearch (by decide) rfl rfl rfl) ?_)))))
            refine wl (r_ld1 (v := .int _ _) Tryd.underlying3 rfl rfl (hb14.cell rfl)) (wl (r_neq rfl rfl) (wl (r_mv (v := .bool _) rfl) ?_))
            refine wl_casesd 134 rfl (fun g134 => ?_) (fun g134 => ?_)
            ·
             refine wlgn 134 rfl rfl rfl (wlgn 134 rfl rfl rfl (wl (r_pt (v := .bool _) rfl rfl) (x_nil (e_S (c_yes rfl ?_)))))
             refine c_seq (c_region (wl (r_as (v := .bool _) rfl) (x_nil (e_S (c_ret ?_)))))
             refine e_Sr (e_Br (e_Sr (e_LSr (e_Br (e_Sr ?_)))))
             refine fin1 (.inl rfl) rfl rfl ?_
             exact ⟨rfl, hB⟩
            ·
             refine wl_gd 134 rfl rfl (wl (r_mv (v := .bool _) rfl) (wl_gd 134 rfl rfl (wl (r_not rfl) (wl (r_pf (v := .bool _) rfl rfl) (x_nil ?_)))))
             refine e_S ?_
             refine c_if rfl (fun c137 => ?_) (fun c137 => ?_)
             ·
              refine c_seq (c_region (wl (r_as (v := .bool _) rfl) (x_nil (e_S (c_ret ?_)))))
              refine e_Sr (e_Br (e_Sr (e_LSr (e_Br (e_Sr ?_)))))
              refine fin1 (.inl rfl) rfl rfl ?_
              exact ⟨rfl, hB⟩
             ·
              have hokA : okA = true := by simpa using c137
              have hgA0 := alls_val hUA hokA
              refine c_skip (e_S (c_region (wl (r_ldS Tryd.underlying28 rfl rfl hb25.range0 sz28) ?_)))
              refine wl_stW hb7 rfl rfl sz28 rfl (by repeat (first | rfl | refine one_cons (by first | rfl | assumption) ?_)) (fun w69 hq hs => ?_)
              replace hB := hB.tr1 hs lo7
              replace hb4 := hb4.tr1 hs (by omega)
              replace hb5 := hb5.tr1 hs (by omega)
              replace hb6 := hb6.tr1 hs (by omega)
              replace hb12 := hb12.tr1 hs (by omega)
              replace hb14 := hb14.tr1 hs (by omega)
              replace hb20 := hb20.tr1 hs (by omega)
              replace hb22 := hb22.tr1 hs (by omega)
              replace hb24 := hb24.tr1 hs (by omega)
              replace hb126 := hb126.tr1 hs (by omega)
              replace hFA := hFA.of hs (fun g hg => by rw [List.mem_singleton.1 hg]; omega)
              replace hb25 := hb25.tr1 hs (by omega)
              clear hs
              replace hb7 := hq
              refine x_nil (e_B (e_S (c_region (wl (r_add rfl rfl rfl (by omega)) (wl (r_mv (v := .int _ _) rfl) ?_)))))
              refine x_nil ?_
              refine e_LS (2 - (k + 1)) (by omega) (by repeat (first | exact ag_refl | exact ag_ovr' | refine ag_upd rfl ?_ | refine ag_sub rfl ?_ | refine ag_kn (by assumption) ?_)) ?_
              exact ⟨k + 1, XA, AA, XA.length, _, by omega, rfl, rfl, hB, hb4, hb5, hb6, hb7, hgA0, Same.refl _ _, fun w2 h => hNA _ (hFA.of h (fun g hg => by rw [List.mem_singleton.1 hg]; left; omega))⟩
         ·
          refine c_skip (e_S (c_seq (c_region (wl (r_ldS Tryd.underlying25 rfl rfl hb4.range0 sz25) (wl (r_ldS Tryd.underlying28 rfl rfl hb5.range0 sz28) ?_)))))
          refine wl (r_ldS Tryd.underlying28 rfl rfl hb7.range0 sz28) (wl (r_ldS Tryd.underlying28 rfl rfl hb6.range0 sz28) ?_)
          refine wl_bs (cs := #[_, _, _]) [(0, .agg _), (1, .agg _), (2, .agg _)] rfl Tryd.underlying35 sz28 ze28_UAll (by decide) (by decide) (by kernel_rfl) rfl (fun b126 w70 hb126 hs hr => ?_)
          have or_b4_b126 : b4 < b126 := Nat.lt_of_lt_of_le hb4.lt hr
          have or_b5_b126 : b5 < b126 := Nat.lt_of_lt_of_le hb5.lt hr
          have or_b6_b126 : b6 < b126 := Nat.lt_of_lt_of_le hb6.lt hr
          have or_b7_b126 : b7 < b126 := Nat.lt_of_lt_of_le hb7.lt hr
          have or_hFz_b126 := (Nat.le_trans hFz.size hr)
          have or_b12_b126 : b12 < b126 := Nat.lt_of_lt_of_le hb12.lt hr
          have or_b14_b126 : b14 < b126 := Nat.lt_of_lt_of_le hb14.lt hr
          have or_b20_b126 : b20 < b126 := Nat.lt_of_lt_of_le hb20.lt hr
          have or_b22_b126 : b22 < b126 := Nat.lt_of_lt_of_le hb22.lt hr
          have lo126 := Nat.le_trans (Bel.size hB) hr
          have lo_hBuU_b126 := Nat.le_trans (Bel.size hBuU) hr
          replace hB := hB.tr0 hs
          replace hb4 := hb4.tr0 hs
          replace hb5 := hb5.tr0 hs
          replace hb6 := hb6.tr0 hs
          replace hb7 := hb7.tr0 hs
          replace hFz := same_more hFz hs (by simp)
          replace hBuU := hBuU.tr0 hs
          replace hb12 := hb12.tr0 hs
          replace hb14 := hb14.tr0 hs
          replace hb20 := hb20.tr0 hs
          replace hb22 := hb22.tr0 hs
          clear hs
          clear hr
          have z14 := hb14.lt
          have z7 := hb7.lt
          refine wl_cl fn9 (uall_any A B (some ⟨b126, 0, none⟩) c d 3 l fs [ga, gz, gb] _ (hTab.mono hB) (hT.mono hB) (hF.mono hB) (grs_of_blk hb126 (.cons (hG1.mono hB) (.cons (hNz _ hFz) (.cons (hG2.mono hB) .nil))) (by show 3 ≤ maxI; decide))) rfl (fun e' w71 hr => ?_)
          obtain ⟨⟨AA, XA, okA, fA, rfl, hNA, hUA⟩, hs⟩ := hr
          replace hs := Same.of_bel hs
          replace hB := hB.tr0 hs
          replace hb4 := hb4.tr0 hs
          replace hb5 := hb5.tr0 hs
          replace hb6 := hb6.tr0 hs
          replace hb7 := hb7.tr0 hs
          replace hFz := same_more hFz hs (by simp)
          replace hBuU := hBuU.tr0 hs
          replace hb12 := hb12.tr0 hs
          replace hb14 := hb14.tr0 hs
          replace hb20 := hb20.tr0 hs
          replace hb22 := hb22.tr0 hs
          replace hb126 := hb126.tr0 hs
          clear hs
          obtain ⟨ZA, hZA⟩ : ∃ z, z = (w70).heap.size := ⟨_, rfl⟩
          rw [← hZA] at hNA z14 z7
          obtain ⟨wA, hwA⟩ : ∃ z, z = w71 := ⟨_, rfl⟩
          have hFA : FrSame ZA wA w71 := by rw [hwA]; exact FrSame.refl _ _
          rw [← hwA] at hNA
          refine ⟨_, rfl, ?_⟩
          refine wl (r_mv (v := .tuple _) rfl) (wl (r_ex (v := _) rfl rfl) (wl (r_ex (v := _) rfl rfl) (wl (r_ex (v := _) rfl rfl) ?_)))
          refine wl_al (cs := #[.slice none 0 0]) ze28_UAll rfl (fun b25 w72 hb25 hs hr => ?_)
          have or_b4_b25 : b4 < b25 := Nat.lt_of_lt_of_le hb4.lt hr
          have or_b5_b25 : b5 < b25 := Nat.lt_of_lt_of_le hb5.lt hr
          have or_b6_b25 : b6 < b25 := Nat.lt_of_lt_of_le hb6.lt hr
          have or_b7_b25 : b7 < b25 := Nat.lt_of_lt_of_le hb7.lt hr
          have or_b12_b25 : b12 < b25 := Nat.lt_of_lt_of_le hb12.lt hr
          have or_b14_b25 : b14 < b25 := Nat.lt_of_lt_of_le hb14.lt hr
          have or_b20_b25 : b20 < b25 := Nat.lt_of_lt_of_le hb20.lt hr
          have or_b22_b25 : b22 < b25 := Nat.lt_of_lt_of_le hb22.lt hr
          have or_b126_b25 : b126 < b25 := Nat.lt_of_lt_of_le hb126.lt hr
          have or_hFA_b25 := (Nat.le_trans hFA.size hr)
          have lo25 := Nat.le_trans (Bel.size hB) hr
          replace hB := hB.tr0 hs
          replace hb4 := hb4.tr0 hs
          replace hb5 := hb5.tr0 hs
          replace hb6 := hb6.tr0 hs
          replace hb7 := hb7.tr0 hs
          replace hb12 := hb12.tr0 hs
          replace hb14 := hb14.tr0 hs
          replace hb20 := hb20.tr0 hs
          replace hb22 := hb22.tr0 hs
          replace hb126 := hb126.tr0 hs
          replace hFA := hFA.of hs (by simp)
          clear hs
          clear hr
          refine wl_stW hb25 rfl rfl sz28 rfl (by repeat (first | rfl | refine one_cons (by first | rfl | assumption) ?_)) (fun w73 hq hs => ?_)
          replace hB := hB.tr1 hs lo25
          replace hb4 := hb4.tr1 hs (by omega)
          replace hb5 := hb5.tr1 hs (by omega)
          replace hb6 := hb6.tr1 hs (by omega)
          replace hb7 := hb7.tr1 hs (by omega)
          replace hb12 := hb12.tr1 hs (by omega)
          replace hb14 := hb14.tr1 hs (by omega)
          replace hb20 := hb20.tr1 hs (by omega)
          replace hb22 := hb22.tr1 hs (by omega)
          replace hb126 := hb126.tr1 hs (by omega)
          replace hFA := hFA.of hs (fun g hg => by rw [List.mem_singleton.1 hg]; omega)
          clear hs
          replace hb25 := hq
          refine wl (r_as (v := .bool _) rfl) ?_
          refine wl_stW hb14 rfl rfl sz30_UAll rfl (by repeat (first | rfl | refine one_cons (by first | rfl | assumption) ?_)) (fun w74 hq hs => ?_)
          replace hB := hB.tr1 hs lo14
          replace hb4 := hb4.tr1 hs (by omega)
          replace hb5 := hb5.tr1 hs (by omega)
          replace hb6 := hb6.tr1 hs (by omega)
          replace hb7 := hb7.tr1 hs (by omega)
          replace hb12 := hb12.tr1 hs (by omega)
          replace hb20 := hb20.tr1 hs (by omega)
          replace hb22 := hb22.tr1 hs (by omega)
          replace hb126 := hb126.tr1 hs (by omega)
          replace hFA := hFA.of hs (fun g hg => by rw [List.mem_singleton.1 hg]; omega)
          replace hb25 := hb25.tr1 hs (by omega)
          clear hs
          replace hb14 := hq
          refine x_nil (e_S (c_seq (c_seq (c_region (wl (r_fa Tryd.underlying30 sz3_GSearch (by decide) rfl rfl rfl) ?_)))))
          refine wl (r_ld1 (v := .int _ _) Tryd.underlying3 rfl rfl (hb14.cell rfl)) (wl (r_neq rfl rfl) (wl (r_mv (v := .bool _) rfl) ?_))
          refine wl_casesd 134 rfl (fun g134 => ?_) (fun g134 => ?_)
          ·
           refine wlgn 134 rfl rfl rfl (wlgn 134 rfl rfl rfl (wl (r_pt (v := .bool _) rfl rfl) (x_nil (e_S (c_yes rfl ?_)))))
           refine c_seq (c_region (wl (r_as (v := .bool _) rfl) (x_nil (e_S (c_ret ?_)))))
           refine e_Sr (e_Br (e_Sr (e_LSr (e_Br (e_Sr ?_)))))
           refine fin1 (.inl rfl) rfl rfl ?_
           exact ⟨rfl, hB⟩
          ·
           refine wl_gd 134 rfl rfl (wl (r_mv (v := .bool _) rfl) (wl_gd 134 rfl rfl (wl (r_not rfl) (wl (r_pf (v := .bool _) rfl rfl) (x_nil ?_)))))
           refine e_S ?_
           refine c_if rfl (fun c137 => ?_) (fun c137 => ?_)
           ·
            refine c_seq (c_region (wl (r_as (v := .bool _) rfl) (x_nil (e_S (c_ret ?_)))))
            refine e_Sr (e_Br (e_Sr (e_LSr (e_Br (e_Sr ?_)))))
            refine fin1 (.inl rfl) rfl rfl ?_
            exact ⟨rfl, hB⟩
           ·
            have hokA : okA = true := by simpa using c137
            have hgA0 := alls_val hUA hokA
            refine c_skip (e_S (c_region (wl (r_ldS Tryd.underlying28 rfl rfl hb25.range0 sz28) ?_)))
            refine wl_stW hb7 rfl rfl sz28 rfl (by repeat (first | rfl | refine one_cons (by first | rfl | assumption) ?_)) (fun w75 hq hs => ?_)
            replace hB := hB.tr1 hs lo7
            replace hb4 := hb4.tr1 hs (by omega)
            replace hb5 := hb5.tr1 hs (by omega)
            replace hb6 := hb6.tr1 hs (by omega)
            replace hb12 := hb12.tr1 hs (by omega)
            replace hb14 := hb14.tr1 hs (by omega)
            replace hb20 := hb20.tr1 hs (by omega)
            replace hb22 := hb22.tr1 hs (by omega)
            replace hb126 := hb126.tr1 hs (by omega)
            replace hFA := hFA.of hs (fun g hg => by rw [List.mem_singleton.1 hg]; omega)
            replace hb25 := hb25.tr1 hs (by omega)
            clear hs
            replace hb7 := hq
            refine x_nil (e_B (e_S (c_region (wl (r_add rfl rfl rfl (by omega)) (wl (r_mv (v := .int _ _) rfl) ?_)))))
            refine x_nil ?_
            refine e_LS (2 - (k + 1)) (by omega) (by repeat (first | exact ag_refl | exact ag_ovr' | refine ag_upd rfl ?_ | refine ag_sub rfl ?_ | refine ag_kn (by assumption) ?_)) ?_
            exact ⟨k + 1, XA, AA, XA.length, _, by omega, rfl, rfl, hB, hb4, hb5, hb6, hb7, hgA0, Same.refl _ _, fun w2 h => hNA _ (hFA.of h (fun g hg => by rw [List.mem_singleton.1 hg]; left; omega))⟩
        ·
         refine wlgn 107 rfl rfl rfl (wl (r_pf (v := .bool _) rfl rfl) (x_nil (e_S (c_no rfl (c_skip ?_)))))
         refine e_S (c_seq (c_region (wl (r_ldS Tryd.underlying25 rfl rfl hb4.range0 sz25) (wl (r_ldS Tryd.underlying28 rfl rfl hb5.range0 sz28) (wl (r_ldS Tryd.underlying28 rfl rfl hb7.range0 sz28) ?_)))))
         refine wl (r_ldS Tryd.underlying28 rfl rfl hb6.range0 sz28) ?_
         refine wl_bs (cs := #[_, _, _]) [(0, .agg _), (1, .agg _), (2, .agg _)] rfl Tryd.underlying35 sz28 ze28_UAll (by decide) (by decide) (by kernel_rfl) rfl (fun b126 w76 hb126 hs hr => ?_)
         have or_b4_b126 : b4 < b126 := Nat.lt_of_lt_of_le hb4.lt hr
         have or_b5_b126 : b5 < b126 := Nat.lt_of_lt_of_le hb5.lt hr
         have or_b6_b126 : b6 < b126 := Nat.lt_of_lt_of_le hb6.lt hr
         have or_b7_b126 : b7 < b126 := Nat.lt_of_lt_of_le hb7.lt hr
         have or_hFz_b126 := (Nat.le_trans hFz.size hr)
         have or_b12_b126 : b12 < b126 := Nat.lt_of_lt_of_le hb12.lt hr
         have or_b14_b126 : b14 < b126 := Nat.lt_of_lt_of_le hb14.lt hr
         have or_b20_b126 : b20 < b126 := Nat.lt_of_lt_of_le hb20.lt hr
         have or_b22_b126 : b22 < b126 := Nat.lt_of_lt_of_le hb22.lt hr
         have lo126 := Nat.le_trans (Bel.size hB) hr
         have lo_hBuU_b126 := Nat.le_trans (Bel.size hBuU) hr
         replace hB := hB.tr0 hs
         replace hb4 := hb4.tr0 hs
         replace hb5 := hb5.tr0 hs
         replace hb6 := hb6.tr0 hs
         replace hb7 := hb7.tr0 hs
         replace hFz := same_more hFz hs (by simp)
         replace hBuU := hBuU.tr0 hs
         replace hb12 := hb12.tr0 hs
         replace hb14 := hb14.tr0 hs
         replace hb20 := hb20.tr0 hs
         replace hb22 := hb22.tr0 hs
         clear hs
         clear hr
         have z14 := hb14.lt
         have z7 := hb7.lt
         refine wl_cl fn9 (uall_any A B (some ⟨b126, 0, none⟩) c d 3 l fs [ga, gz, gb] _ (hTab.mono hB) (hT.mono hB) (hF.mono hB) (grs_of_blk hb126 (.cons (hG1.mono hB) (.cons (hNz _ hFz) (.cons (hG2.mono hB) .nil))) (by show 3 ≤ maxI; decide))) rfl (fun e' w77 hr => ?_)
         obtain ⟨⟨AA, XA, okA, fA, rfl, hNA, hUA⟩, hs⟩ := hr
         replace hs := Same.of_bel hs
         replace hB := hB.tr0 hs
         replace hb4 := hb4.tr0 hs
         replace hb5 := hb5.tr0 hs
         replace hb6 := hb6.tr0 hs
         replace hb7 := hb7.tr0 hs
         replace hFz := same_more hFz hs (by simp)
         replace hBuU := hBuU.tr0 hs
         replace hb12 := hb12.tr0 hs
         replace hb14 := hb14.tr0 hs
         replace hb20 := hb20.tr0 hs
         replace hb22 := hb22.tr0 hs
         replace hb126 := hb126.tr0 hs
         clear hs
         obtain ⟨ZA, hZA⟩ : ∃ z, z = (w76).heap.size := ⟨_, rfl⟩
         rw [← hZA] at hNA z14 z7
         obtain ⟨wA, hwA⟩ : ∃ z, z = w77 := ⟨_, rfl⟩
         have hFA : FrSame ZA wA w77 := by rw [hwA]; exact FrSame.refl _ _
         rw [← hwA] at hNA
         refine ⟨_, rfl, ?_⟩
         refine wl (r_mv (v := .tuple _) rfl) (wl (r_ex (v := _) rfl rfl) (wl (r_ex (v := _) rfl rfl) (wl (r_ex (v := _) rfl rfl) ?_)))
         refine wl_al (cs := #[.slice none 0 0]) ze28_UAll rfl (fun b25 w78 hb25 hs hr => ?_)
         have or_b4_b25 : b4 < b25 := Nat.lt_of_lt_of_le hb4.lt hr
         have or_b5_b25 : b5 < b25 := Nat.lt_of_lt_of_le hb5.lt hr
         have or_b6_b25 : b6 < b25 := Nat.lt_of_lt_of_le hb6.lt hr
         have or_b7_b25 : b7 < b25 := Nat.lt_of_lt_of_le hb7.lt hr
         have or_b12_b25 : b12 < b25 := Nat.lt_of_lt_of_le hb12.lt hr
         have or_b14_b25 : b14 < b25 := Nat.lt_of_lt_of_le hb14.lt hr
         have or_b20_b25 : b20 < b25 := Nat.lt_of_lt_of_le hb20.lt hr
         have or_b22_b25 : b22 < b25 := Nat.lt_of_lt_of_le hb22.lt hr
         have or_b126_b25 : b126 < b25 := Nat.lt_of_lt_of_le hb126.lt hr
         have or_hFA_b25 := (Nat.le_trans hFA.size hr)
         have lo25 := Nat.le_trans (Bel.size hB) hr
         replace hB := hB.tr0 hs
         replace hb4 := hb4.tr0 hs
         replace hb5 := hb5.tr0 hs
         replace hb6 := hb6.tr0 hs
         replace hb7 := hb7.tr0 hs
         replace hb12 := hb12.tr0 hs
         replace hb14 := hb14.tr0 hs
         replace hb20 := hb20.tr0 hs
         replace hb22 := hb22.tr0 hs
         replace hb126 := hb126.tr0 hs
         replace hFA := hFA.of hs (by simp)
         clear hs
         clear hr
         refine wl_stW hb25 rfl rfl sz28 rfl (by repeat (first | rfl | refine one_cons (by first | rfl | assumption) ?_)) (fun w79 hq hs => ?_)
         replace hB := hB.tr1 hs lo25
         replace hb4 := hb4.tr1 hs (by omega)
         replace hb5 := hb5.tr1 hs (by omega)
         replace hb6 := hb6.tr1 hs (by omega)
         replace hb7 := hb7.tr1 hs (by omega)
         replace hb12 := hb12.tr1 hs (by omega)
         replace hb14 := hb14.tr1 hs (by omega)
         replace hb20 := hb20.tr1 hs (by omega)
         replace hb22 := hb22.tr1 hs (by omega)
         replace hb126 := hb126.tr1 hs (by omega)
         replace hFA := hFA.of hs (fun g hg => by rw [List.mem_singleton.1 hg]; omega)
         clear hs
         replace hb25 := hq
         refine wl (r_as (v := .bool _) rfl) ?_
         refine wl_stW hb14 rfl rfl sz30_UAll rfl (by repeat (first | rfl | refine one_cons (by first | rfl | assumption) ?_)) (fun w80 hq hs => ?_)
         replace hB := hB.tr1 hs lo14
         replace hb4 := hb4.tr1 hs (by omega)
         replace hb5 := hb5.tr1 hs (by omega)
         replace hb6 := hb6.tr1 hs (by omega)
         replace hb7 := hb7.tr1 hs (by omega)
         replace hb12 := hb12.tr1 hs (by omega)
         replace hb20 := hb20.tr1 hs (by omega)
         replace hb22 := hb22.tr1 hs (by omega)
         replace hb126 := hb126.tr1 hs (by omega)
         replace hFA := hFA.of hs (fun g hg => by rw [List.mem_singleton.1 hg]; omega)
         replace hb25 := hb25.tr1 hs (by omega)
         clear hs
         replace hb14 := hq
         refine x_nil (e_S (c_seq (c_seq (c_region (wl (r_fa Tryd.underlying30 sz3_GSearch (by decide) rfl rfl rfl) ?_)))))
         refine wl (r_ld1 (v := .int _ _) Tryd.underlying3 rfl rfl (hb14.cell rfl)) (wl (r_neq rfl rfl) (wl (r_mv (v := .bool _) rfl) ?_))
         refine wl_casesd 134 rfl (fun g134 => ?_) (fun g134 => ?_)
         ·
          refine wlgn 134 rfl rfl rfl (wlgn 134 rfl rfl rfl (wl (r_pt (v := .bool _) rfl rfl) (x_nil (e_S (c_yes rfl ?_)))))
          refine c_seq (c_region (wl (r_as (v := .bool _) rfl) (x_nil (e_S (c_ret ?_)))))
          refine e_Sr (e_Br (e_Sr (e_LSr (e_Br (e_Sr ?_)))))
          refine fin1 (.inl rfl) rfl rfl ?_
          exact ⟨rfl, hB⟩
         ·
          refine wl_gd 134 rfl rfl (wl (r_mv (v := .bool _) rfl) (wl_gd 134 rfl rfl (wl (r_not rfl) (wl (r_pf (v := .bool _) rfl rfl) (x_nil ?_)))))
          refine e_S ?_
          refine c_if rfl (fun c137 => ?_) (fun c137 => ?_)
          ·
           refine c_seq (c_region (wl (r_as (v := .bool _) rfl) (x_nil (e_S (c_ret ?_)))))
           refine e_Sr (e_Br (e_Sr (e_LSr (e_Br (e_Sr ?_)))))
           refine fin1 (.inl rfl) rfl rfl ?_
           exact ⟨rfl, hB⟩
          ·
           have hokA : okA = true := by simpa using c137
           have hgA0 := alls_val hUA hokA
           refine c_skip (e_S (c_region (wl (r_ldS Tryd.underlying28 rfl rfl hb25.range0 sz28) ?_)))
           refine wl_stW hb7 rfl rfl sz28 rfl (by repeat (first | rfl | refine one_cons (by first | rfl | assumption) ?_)) (fun w81 hq hs => ?_)
           replace hB := hB.tr1 hs lo7
           replace hb4 := hb4.tr1 hs (by omega)
           replace hb5 := hb5.tr1 hs (by omega)
           replace hb6 := hb6.tr1 hs (by omega)
           replace hb12 := hb12.tr1 hs (by omega)
           replace hb14 := hb14.tr1 hs (by omega)
           replace hb20 := hb20.tr1 hs (by omega)
           replace hb22 := hb22.tr1 hs (by omega)
           replace hb126 := hb126.tr1 hs (by omega)
           replace hFA := hFA.of hs (fun g hg => by rw [List.mem_singleton.1 hg]; omega)
           replace hb25 := hb25.tr1 hs (by omega)
           clear hs
           replace hb7 := hq
           refine x_nil (e_B (e_S (c_region (wl (r_add rfl rfl rfl (by omega)) (wl (r_mv (v := .int _ _) rfl) ?_)))))
           refine x_nil ?_
           refine e_LS (2 - (k + 1)) (by omega) (by repeat (first | exact ag_refl | exact ag_ovr' | refine ag_upd rfl ?_ | refine ag_sub rfl ?_ | refine ag_kn (by assumption) ?_)) ?_
           exact ⟨k + 1, XA, AA, XA.length, _, by omega, rfl, rfl, hB, hb4, hb5, hb6, hb7, hgA0, Same.refl _ _, fun w2 h => hNA _ (hFA.of h (fun g hg => by rw [List.mem_singleton.1 hg]; left; omega))⟩
     ·
      refine c_exit (e_Sx (e_LSx (e_Bx (e_S (c_seq ?_)))))
      refine c_region (wl (r_as (v := .bool _) rfl) (x_nil (e_S (c_ret (fin1 (.inl rfl) rfl rfl ?_)))))
      exact ⟨rfl, hB⟩
end Go.Proofs.YteoncmfiiknfbaaDoor
