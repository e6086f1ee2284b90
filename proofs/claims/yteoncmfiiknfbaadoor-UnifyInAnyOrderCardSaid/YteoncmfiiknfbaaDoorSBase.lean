/- What these functions of the program compute, at every world: glosswright/glosswrightlaw3.shared. -/
import Derived.Test.YteoncmfiiknfbaaDoorSFind
import Derived.Test.YteoncmfiiknfbaaDoorOrd
import Derived.Test.YteoncmfiiknfbaaDoorGNodes
import Derived.Test.YteoncmfiiknfbaaDoorGTgt
namespace Go.Proofs.YteoncmfiiknfbaaDoor
open Go.RowKit

def sharedG : List Nd := [⟨1, [(0, 1), (1, 1)]⟩, ⟨2, []⟩]
theorem shared_dl : DL sharedG [0] [] [0, 1] :=
  .new (by decide) (.new (is := [1]) (i := 1) (o1 := [0, 1]) (by decide) .nil (.old (by decide) .nil)) .nil
theorem shared_ok : (graphF pairT pairF sharedG).1 = 0 := by
  have h0 : Rch sharedG 0 := .zero
  have hu : (-1 : Int) = unrI sharedG := unr_is (.inl ⟨rfl, fun i hi => by
    have hi3 : i < 2 := hi
    match i, hi3 with
    | 0, _ => exact h0
    | 1, _ => exact Rch.step (x := (0, 1)) h0 (by decide) (by decide)⟩)
  rw [gf_in (by rw [pair_fault]), wi_zero (by decide +kernel) (by decide +kernel) (by omega)]

theorem two_mk {l : List Ty} {fs : List Ft} {ga gb : List Nd} (h1 : (graphF l fs ga).1 = 0) (h2 : (graphF l fs gb).1 = 0) : (twoG l fs ga gb).1 = 0 := by
  have hg := gv_of h1
  unfold twoG
  rw [if_neg (fun k => k h1)]
  rw [gf_in hg.h] at h2
  exact h2
theorem maps_as : Hom pairT apartG sharedG (fun i => if i = 0 then 0 else 1) := by
  refine ⟨rfl, fun i hi => ?_, fun i hi => ?_, fun i hi => ?_⟩ <;> (have hi3 : i < 3 := hi) <;> (match i, hi3 with | 0, _ => ?_ | 1, _ => ?_ | 2, _ => ?_) <;> decide +kernel
theorem shared_any (w : World) : Calls Tryd.prog 11 #[] w fun e w' => (∃ A, e = .returned (.agg #[.slice A 2 2]) ∧ NodesIn w' A sharedG) ∧ Bel w w' := by
 refine enter Tryd.func11 Tryd.ntmps11 rfl (Nat.le_of_ble_eq_true rfl) ?_
 have hB : Bel w w := Below.refl _ _
 refine c_seq ?_
 refine c_region ?_
 refine wl_al (cs := #[.slice none 0 0]) ze28 rfl (fun b0 w1 hb0 hs hr => ?_)
 have lo0 := Nat.le_trans (Bel.size hB) hr
 replace hB := hB.tr0 hs
 clear hs
 clear hr
 refine x_nil ?_
 refine e_S ?_
 refine c_seq ?_
 refine c_region ?_
 refine wl (r_bd2 (v0 := .int _ _) (v1 := .int _ _) (fun v0 v1 => #[v0, v1]) rfl rfl (by kernel_rfl)) ?_
 refine wl (r_bd2 (v0 := .int _ _) (v1 := .int _ _) (fun v0 v1 => #[v0, v1]) rfl rfl (by kernel_rfl)) ?_
 refine wl_bs (cs := #[_, _, _, _]) [(0, .agg _), (1, .agg _)] rfl Tryd.underlying53 sz74_GSearch ze74 (by decide) (by decide) (by kernel_rfl) rfl (fun b3 w2 hb3 hs hr => ?_)
 have or_b0_b3 : b0 < b3 := Nat.lt_of_lt_of_le hb0.lt hr
 have lo3 := Nat.le_trans (Bel.size hB) hr
 replace hB := hB.tr0 hs
 replace hb0 := hb0.tr0 hs
 clear hs
 clear hr
 refine wl (r_bd2 (v0 := .int _ _) (v1 := .slice _ _ _) (fun v0 v1 => #[v0, v1]) rfl rfl (by kernel_rfl)) ?_
 refine wl (r_bd1 (v0 := .int _ _) (fun v0 => #[v0, .slice none 0 0]) rfl (by kernel_rfl)) ?_
 refine wl_bs (cs := #[_, _, _, _]) [(0, .agg _), (1, .agg _)] rfl Tryd.underlying26 sz55 ze55 (by decide) (by decide) (by kernel_rfl) rfl (fun b6 w3 hb6 hs hr => ?_)
 have or_b0_b6 : b0 < b6 := Nat.lt_of_lt_of_le hb0.lt hr
 have or_b3_b6 : b3 < b6 := Nat.lt_of_lt_of_le hb3.lt hr
 have lo6 := Nat.le_trans (Bel.size hB) hr
 replace hB := hB.tr0 hs
 replace hb0 := hb0.tr0 hs
 replace hb3 := hb3.tr0 hs
 clear hs
 clear hr
 refine wl (r_bd1 (v0 := .slice _ _ _) (fun v0 => #[v0]) rfl (by kernel_rfl)) ?_
 refine wl_stW hb0 rfl rfl sz28 rfl (by repeat (first | rfl | refine one_cons (by first | rfl | assumption) ?_)) (fun w4 hq hs => ?_)
 replace hB := hB.tr1 hs lo0
 replace hb3 := hb3.tr1 hs (by omega)
 replace hb6 := hb6.tr1 hs (by omega)
 clear hs
 replace hb0 := hq
 refine x_nil ?_
 refine e_S ?_
 refine c_ret ?_
 refine fin1 (.inl rfl) rfl (rr_cell Tryd.underlying28 rfl rfl hb0.range0 sz28) ?_
 exact ⟨⟨_, rfl, nodes_of_blk (l := sharedG) hb6 (.cons (links_of_blk [(0, 1), (1, 1)] hb3 rfl (by decide)) (.cons (links_nil _ _) .nil)) (by decide)⟩, hB⟩
end Go.Proofs.YteoncmfiiknfbaaDoor
