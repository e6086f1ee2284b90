/- What these functions of the program compute, at every world: glosswright/glosswrightlaw3.shared, glosswright/glosswrightlaw3.SubsumeMatchesSpec. -/
import Derived.Test.YtlaihbaneoeffaaDoorSMapped
import Derived.Test.YtlaihbaneoeffaaDoorOrd
import Derived.Test.YtlaihbaneoeffaaDoorEng3
namespace Go.Proofs.YtlaihbaneoeffaaDoor
open Go.RowKit

def sharedG : List Nd := [⟨1, [(0, 1), (1, 1)]⟩, ⟨2, []⟩]
theorem shared_dl : DL sharedG [0] [] [0, 1] :=
  .new (by decide) (.new (is := [1]) (i := 1) (o1 := [0, 1]) (by decide) .nil (.old (by decide) .nil)) .nil
theorem shared_ok : (graphF pairT pairF sharedG).1 = 0 := by
  have h0 : Rch sharedG 0 := .zero
  have hu : (-1 : Int) = unrI sharedG := unr_is (.inl ⟨rfl, fun i hi => by
    have hi3 : i < 2 := hi
    match i, hi3 with
    | 0, _ => exact h0
    | 1, _ => exact Rch.step (x := (0, 1)) h0 (by decide) (by decide)⟩)
  rw [gf_in (by rw [pair_fault]), wi_zero (by decide +kernel) (by decide +kernel) (by omega)]

theorem two_mk {l : List Ty} {fs : List Ft} {ga gb : List Nd} (h1 : (graphF l fs ga).1 = 0) (h2 : (graphF l fs gb).1 = 0) : (twoG l fs ga gb).1 = 0 := by
  have hg := gv_of h1
  unfold twoG
  rw [if_neg (fun k => k h1)]
  rw [gf_in hg.h] at h2
  exact h2
theorem subB_iff {l : List Ty} {fs : List Ft} {ga gb : List Nd} (h1 : (graphF l fs ga).1 = 0) (h2 : (graphF l fs gb).1 = 0) : subB l fs ga gb = true ↔ Maps l ga gb := by
  rw [subB_yes (two_mk h1 h2), decide_eq_true_iff]
theorem maps_as : Hom pairT apartG sharedG (fun i => if i = 0 then 0 else 1) := by
  refine ⟨rfl, fun i hi => ?_, fun i hi => ?_, fun i hi => ?_⟩ <;> (have hi3 : i < 3 := hi) <;> (match i, hi3 with | 0, _ => ?_ | 1, _ => ?_ | 2, _ => ?_) <;> decide +kernel
theorem apart_rch : ∀ i, i < apartG.length → Rch apartG i := (gv_of apart_ok).rch
theorem mapG_as : mapG pairT pairF apartG sharedG = [0, 1, 1] := by
  rw [mapG_yes (two_mk apart_ok shared_ok), mapF_yes apart_rch maps_as]; decide
theorem subB_as : subB pairT pairF apartG sharedG = true := (subB_iff apart_ok shared_ok).2 ⟨_, maps_as⟩
theorem subB_ss : subB pairT pairF sharedG sharedG = true := (subB_iff shared_ok shared_ok).2 ⟨_, Hom.refl (gv_of shared_ok).gx⟩
def zeroG : List Nd := [⟨0, []⟩]
theorem zero_ok : (graphF pairT pairF zeroG).1 = 0 := by
  have h0 : Rch zeroG 0 := .zero
  have hu : (-1 : Int) = unrI zeroG := unr_is (.inl ⟨rfl, fun i hi => by
    have hi3 : i < 1 := hi
    match i, hi3 with
    | 0, _ => exact h0⟩)
  rw [gf_in (by rw [pair_fault]), wi_zero (by decide +kernel) (by decide +kernel) (by omega)]
theorem subB_zs : subB pairT pairF zeroG sharedG = true := (subB_iff zero_ok shared_ok).2 ⟨fun _ => 0, by
  refine ⟨rfl, fun i hi => ?_, fun i hi => ?_, fun i hi => ?_⟩ <;> (have hi3 : i < 1 := hi) <;> (match i, hi3 with | 0, _ => ?_) <;> decide +kernel⟩
theorem mapas_any {w : World} {A B G1 G2 : Option Addr} (hTab : TabIn w) (hT : TypesIn w A pairT) (hF : FeatsIn w B pairF) (hG1 : NodesIn w G1 apartG) (hG2 : NodesIn w G2 sharedG) : Calls Tryd.prog 14 #[.agg #[.slice A 4 4, .slice B 2 2], .agg #[.slice G1 3 3], .agg #[.slice G2 2 2]] w fun e w' => (∃ MA mc, e = .returned (.tuple #[.slice MA 3 mc, .bool true, .agg #[.int .i64 0, .int .i64 0]]) ∧ IntsIn w' MA [0, 1, 1]) ∧ Bel w w' := by
  refine (map_any A B G1 G2 4 2 3 2 pairT pairF apartG sharedG w hTab hT hF hG1 hG2).mono fun e w' h => ?_
  obtain ⟨⟨MA, mc, he, hN⟩, hs⟩ := h
  rw [mapG_as] at hN
  rw [mapG_as, subB_as, two_zz (two_mk apart_ok shared_ok)] at he
  exact ⟨⟨MA, mc, he, hN _ (FrSame.refl _ _)⟩, hs⟩
theorem subp_any {w : World} {A B G1 G2 : Option Addr} {n m : Nat} {ga gb : List Nd} (hn : ga.length = n) (hm : gb.length = m) (h1 : (graphF pairT pairF ga).1 = 0) (h2 : (graphF pairT pairF gb).1 = 0) (h : subB pairT pairF ga gb = true) (hTab : TabIn w) (hT : TypesIn w A pairT) (hF : FeatsIn w B pairF) (hG1 : NodesIn w G1 ga) (hG2 : NodesIn w G2 gb) : Calls Tryd.prog 18 #[.agg #[.slice A 4 4, .slice B 2 2], .agg #[.slice G1 n n], .agg #[.slice G2 m m]] w fun e w' => e = .returned (.tuple #[.bool true, .agg #[.int .i64 0, .int .i64 0]]) ∧ Bel w w' := by
  subst hn hm
  have h3 := subs_any A B G1 G2 4 2 ga.length gb.length pairT pairF ga gb w hTab hT hF hG1 hG2
  rw [h, two_zz (two_mk h1 h2)] at h3
  exact h3
theorem isame_any (A B : Option Addr) (n m c d : Nat) (xs ys : List Int) (w : World) (hX : IntsIn w A xs) (hY : IntsIn w B ys) (hn : xs.length = n) (hm : ys.length = m) (h : xs = ys) : Calls Tryd.prog 17 #[.slice A n c, .slice B m d] w fun e w' => e = .returned (.bool true) ∧ Bel w w' := by
  subst hn hm
  have h3 := ieq_any A B c d xs ys w hX hY
  rw [decide_eq_true h] at h3
  exact h3
theorem nodesb_any (A B : Option Addr) (n m c d : Nat) (ga gb : List Nd) (b : Bool) (w : World) (hA : NodesIn w A ga) (hBn : NodesIn w B gb) (ha : ga.length = n) (hb : gb.length = m) (he : decide (ga = gb) = b) : Calls Tryd.prog 13 #[.agg #[.slice A n c], .agg #[.slice B m d]] w fun e w' => e = .returned (.bool b) ∧ Bel w w' := by
  subst ha hb
  have h := nodes_any A B c d ga gb w hA hBn
  rw [he] at h
  exact h
theorem can_dec {l : List Ty} {fs : List Ft} {ga gb : List Nd} (h1 : (graphF l fs ga).1 = 0) (h2 : (graphF l fs gb).1 = 0) : canF l fs ga = canF l fs gb ↔ subB l fs ga gb = true ∧ subB l fs gb ga = true := by
  have ha := gv_of h1
  have hb := gv_of h2
  obtain ⟨oa, hoa⟩ := ha.gx.toGY.dl ha.gok.pos
  obtain ⟨ob, hob⟩ := hb.gx.toGY.dl hb.gok.pos
  rw [subB_iff h1 h2, subB_iff h2 h1, canF_ok h1 hoa, canF_ok h2 hob]
  exact (maps_iff_can ha.gx hb.gx hoa hob).symm

theorem fd35 : (Tryd.prog.fieldsOf 35).toList.map (fun f => (f.name == "_", f.type, f.offset)) = [(false, 3, 0), (false, 3, 1)] := by kernel_rfl
theorem fn10 : callable Tryd.prog 10 = true := by kernel_rfl
theorem fn14 : callable Tryd.prog 14 = true := by kernel_rfl
theorem fn15 : callable Tryd.prog 15 = true := by kernel_rfl
theorem fn16 : callable Tryd.prog 16 = true := by kernel_rfl
theorem fn17 : callable Tryd.prog 17 = true := by kernel_rfl
theorem fn18 : callable Tryd.prog 18 = true := by kernel_rfl
theorem fn19 : callable Tryd.prog 19 = true := by kernel_rfl
theorem fn20 : callable Tryd.prog 20 = true := by kernel_rfl
theorem fn21 : callable Tryd.prog 21 = true := by kernel_rfl
theorem ft35 : Tryd.prog.underlying 35 = some (.struct (Tryd.prog.fieldsOf 35)) := by kernel_rfl
theorem shared_any (w : World) : Calls Tryd.prog 16 #[] w fun e w' => (∃ A, e = .returned (.agg #[.slice A 2 2]) ∧ NodesIn w' A sharedG) ∧ Bel w w' := by
  refine enter Tryd.func16 Tryd.ntmps16 rfl (Nat.le_of_ble_eq_true rfl) ?_
  have hB : Bel w w := Below.refl _ _
  refine c_seq ?_
  refine c_region ?_
  refine wl_al (cs := #[.slice none 0 0]) ze28 rfl (fun b0 w1 hb0 hs hr => ?_)
  have lo0 := Nat.le_trans (Bel.size hB) hr
  replace hB := hB.tr0 hs
  clear hs
  clear hr
  refine x_nil ?_
  refine e_S ?_
  refine c_seq ?_
  refine c_region ?_
  refine wl (r_bd2 (v0 := .int _ _) (v1 := .int _ _) (fun v0 v1 => #[v0, v1]) rfl rfl (by kernel_rfl)) ?_
  refine wl (r_bd2 (v0 := .int _ _) (v1 := .int _ _) (fun v0 v1 => #[v0, v1]) rfl rfl (by kernel_rfl)) ?_
  refine wl_bs (cs := #[_, _, _, _]) [(0, .agg _), (1, .agg _)] rfl Tryd.underlying31 sz30 ze30 (by decide) (by decide) (by kernel_rfl) rfl (fun b3 w2 hb3 hs hr => ?_)
  have or_b0_b3 : b0 < b3 := Nat.lt_of_lt_of_le hb0.lt hr
  have lo3 := Nat.le_trans (Bel.size hB) hr
  replace hB := hB.tr0 hs
  replace hb0 := hb0.tr0 hs
  clear hs
  clear hr
  refine wl (r_bd2 (v0 := .int _ _) (v1 := .slice _ _ _) (fun v0 v1 => #[v0, v1]) rfl rfl (by kernel_rfl)) ?_
  refine wl (r_bd1 (v0 := .int _ _) (fun v0 => #[v0, .slice none 0 0]) rfl (by kernel_rfl)) ?_
  refine wl_bs (cs := #[_, _, _, _]) [(0, .agg _), (1, .agg _)] rfl Tryd.underlying26 sz33 ze33 (by decide) (by decide) (by kernel_rfl) rfl (fun b6 w3 hb6 hs hr => ?_)
  have or_b0_b6 : b0 < b6 := Nat.lt_of_lt_of_le hb0.lt hr
  have or_b3_b6 : b3 < b6 := Nat.lt_of_lt_of_le hb3.lt hr
  have lo6 := Nat.le_trans (Bel.size hB) hr
  replace hB := hB.tr0 hs
  replace hb0 := hb0.tr0 hs
  replace hb3 := hb3.tr0 hs
  clear hs
  clear hr
  refine wl (r_bd1 (v0 := .slice _ _ _) (fun v0 => #[v0]) rfl (by kernel_rfl)) ?_
  refine wl_stW hb0 rfl rfl sz28 rfl (by repeat (first | rfl | refine one_cons (by first | rfl | assumption) ?_)) (fun w4 hq hs => ?_)
  replace hB := hB.tr1 hs lo0
  replace hb3 := hb3.tr1 hs (by omega)
  replace hb6 := hb6.tr1 hs (by omega)
  clear hs
  replace hb0 := hq
  refine x_nil ?_
  refine e_S ?_
  refine c_ret ?_
  refine fin1 (.inl rfl) rfl (rr_cell Tryd.underlying28 rfl rfl hb0.range0 sz28) ?_
  exact ⟨⟨_, rfl, nodes_of_blk (l := sharedG) hb6 (.cons (links_of_blk [(0, 1), (1, 1)] hb3 rfl (by decide)) (.cons (links_nil _ _) .nil)) (by decide)⟩, hB⟩

set_option maxHeartbeats 4000000 in
theorem law10_any (A B G1 G2 : Option Addr) (c d c1 c2 : Nat) (l : List Ty) (fs : List Ft) (ga gb : List Nd) (w : World) (hTab : TabIn w) (hcl : l.length ≤ c) (hdl : fs.length ≤ d) (hT : TypesIn w A l) (hF : FeatsIn w B fs) (hG1 : NodesIn w G1 ga) (hG2 : NodesIn w G2 gb) : Calls Tryd.prog 4 #[.agg #[.slice A l.length c, .slice B fs.length d], .agg #[.slice G1 ga.length c1], .agg #[.slice G2 gb.length c2]] w fun e w' => e = .returned (.bool true) ∧ Bel w w' := by
  refine enter Tryd.func4 Tryd.ntmps4 rfl (Nat.le_of_ble_eq_true rfl) ?_
  have hB : Bel w w := Below.refl _ _
  refine c_seq ?_
  refine c_region ?_
  refine wl_bx (v := .agg #[_, _]) (cs := #[_, _]) rfl rfl (fun b3 w1 hb3 hs hr => ?_)
  have lo3 := Nat.le_trans (Bel.size hB) hr
  replace hB := hB.tr0 hs
  clear hs
  clear hr
  refine wl_bx (v := .agg #[_]) (cs := #[_]) rfl rfl (fun b4 w2 hb4 hs hr => ?_)
  have or_b3_b4 : b3 < b4 := Nat.lt_of_lt_of_le hb3.lt hr
  have lo4 := Nat.le_trans (Bel.size hB) hr
  replace hB := hB.tr0 hs
  replace hb3 := hb3.tr0 hs
  clear hs
  clear hr
  refine wl_bx (v := .agg #[_]) (cs := #[_]) rfl rfl (fun b5 w3 hb5 hs hr => ?_)
  have or_b3_b5 : b3 < b5 := Nat.lt_of_lt_of_le hb3.lt hr
  have or_b4_b5 : b4 < b5 := Nat.lt_of_lt_of_le hb4.lt hr
  have lo5 := Nat.le_trans (Bel.size hB) hr
  replace hB := hB.tr0 hs
  replace hb3 := hb3.tr0 hs
  replace hb4 := hb4.tr0 hs
  clear hs
  clear hr
  refine wl (r_as (v := .bool _) rfl) ?_
  refine x_nil ?_
  refine e_S ?_
  refine c_seq ?_
  refine c_seq ?_
  refine c_region ?_
  refine wl_cl fn10 (pair_any _) rfl (fun e' w4 hr => ?_)
  obtain ⟨⟨Ap, Bp, rfl, hTp, hFp⟩, hs⟩ := hr
  replace hs := Same.of_bel hs
  replace hB := hB.tr0 hs
  replace hb3 := hb3.tr0 hs
  replace hb4 := hb4.tr0 hs
  replace hb5 := hb5.tr0 hs
  clear hs
  have hB0 : Bel w4 w4 := Below.refl _ _
  refine ⟨_, rfl, ?_⟩
  refine wl_cl fn15 (apart_any _) rfl (fun e' w5 hr => ?_)
  obtain ⟨⟨Ga, rfl, hGa⟩, hs⟩ := hr
  replace hs := Same.of_bel hs
  replace hB := hB.tr0 hs
  replace hb3 := hb3.tr0 hs
  replace hb4 := hb4.tr0 hs
  replace hb5 := hb5.tr0 hs
  replace hB0 := hB0.tr0 hs
  clear hs
  have hB1 : Bel w5 w5 := Below.refl _ _
  refine ⟨_, rfl, ?_⟩
  refine wl_cl fn16 (shared_any _) rfl (fun e' w6 hr => ?_)
  obtain ⟨⟨Gb, rfl, hGb⟩, hs⟩ := hr
  replace hs := Same.of_bel hs
  replace hB := hB.tr0 hs
  replace hb3 := hb3.tr0 hs
  replace hb4 := hb4.tr0 hs
  replace hb5 := hb5.tr0 hs
  replace hB0 := hB0.tr0 hs
  replace hB1 := hB1.tr0 hs
  clear hs
  have hB2 : Bel w6 w6 := Below.refl _ _
  refine ⟨_, rfl, ?_⟩
  refine wl_cl fn14 (mapas_any (hTab.mono hB) (hTp.mono hB0) (hFp.mono hB0) (hGa.mono hB1) (hGb.mono hB2)) rfl (fun e' w7 hr => ?_)
  obtain ⟨⟨MW, mw, rfl, hMW⟩, hs⟩ := hr
  replace hs := Same.of_bel hs
  replace hB := hB.tr0 hs
  replace hb3 := hb3.tr0 hs
  replace hb4 := hb4.tr0 hs
  replace hb5 := hb5.tr0 hs
  replace hB0 := hB0.tr0 hs
  replace hB1 := hB1.tr0 hs
  replace hB2 := hB2.tr0 hs
  clear hs
  have hBW : Bel w7 w7 := Below.refl _ _
  refine ⟨_, rfl, ?_⟩
  refine wl (r_mv (v := .tuple _) rfl) ?_
  refine wl (r_ex (v := _) rfl rfl) ?_
  refine wl (r_ex (v := _) rfl rfl) ?_
  refine wl (r_ex (v := _) rfl rfl) ?_
  refine wl_al (cs := #[.int .i64 0, .int .i64 0]) ze35 rfl (fun b9 w8 hb9 hs hr => ?_)
  have or_b3_b9 : b3 < b9 := Nat.lt_of_lt_of_le hb3.lt hr
  have or_b4_b9 : b4 < b9 := Nat.lt_of_lt_of_le hb4.lt hr
  have or_b5_b9 : b5 < b9 := Nat.lt_of_lt_of_le hb5.lt hr
  have lo9 := Nat.le_trans (Bel.size hB) hr
  have lo_hBW_b9 := Nat.le_trans (Bel.size hBW) hr
  replace hB := hB.tr0 hs
  replace hb3 := hb3.tr0 hs
  replace hb4 := hb4.tr0 hs
  replace hb5 := hb5.tr0 hs
  replace hBW := hBW.tr0 hs
  clear hs
  clear hr
  refine wl (r_as (v := .slice _ _ _) rfl) ?_
  refine wl (r_as (v := .bool _) rfl) ?_
  refine wl_stW hb9 rfl rfl sz35 rfl (by repeat (first | rfl | refine one_cons (by first | rfl | assumption) ?_)) (fun w9 hq hs => ?_)
  replace hB := hB.tr1 hs lo9
  replace hb3 := hb3.tr1 hs (by omega)
  replace hb4 := hb4.tr1 hs (by omega)
  replace hb5 := hb5.tr1 hs (by omega)
  replace hBW := hBW.tr1 hs lo_hBW_b9
  clear hs
  replace hb9 := hq
  refine x_nil ?_
  refine e_S ?_
  refine c_seq ?_
  refine c_region ?_
  refine wl (r_mv (v := .bool _) rfl) ?_
  refine wl (r_not rfl) ?_
  refine wl (r_mv (v := .bool false) rfl) ?_
  refine wl_gd 30 rfl rfl ?_
  refine wl (r_mv (v := .slice _ _ _) rfl) ?_
  refine wl_gd 30 rfl rfl ?_
  refine wl_bs (cs := #[_, _, _]) [(0, .int _ _), (1, .int _ _), (2, .int _ _)] rfl Tryd.underlying44 sz3 ze3 (by decide) (by decide) (by kernel_rfl) rfl (fun b32 w10 hb32 hs hr => ?_)
  have or_b3_b32 : b3 < b32 := Nat.lt_of_lt_of_le hb3.lt hr
  have or_b4_b32 : b4 < b32 := Nat.lt_of_lt_of_le hb4.lt hr
  have or_b5_b32 : b5 < b32 := Nat.lt_of_lt_of_le hb5.lt hr
  have or_b9_b32 : b9 < b32 := Nat.lt_of_lt_of_le hb9.lt hr
  have lo32 := Nat.le_trans (Bel.size hB) hr
  have lo_hBW_b32 := Nat.le_trans (Bel.size hBW) hr
  replace hB := hB.tr0 hs
  replace hb3 := hb3.tr0 hs
  replace hb4 := hb4.tr0 hs
  replace hb5 := hb5.tr0 hs
  replace hBW := hBW.tr0 hs
  replace hb9 := hb9.tr0 hs
  clear hs
  clear hr
  refine wl_gd 30 rfl rfl ?_
  refine wl_cl fn17 (isame_any MW (some ⟨b32, 0, none⟩) 3 3 mw 3 [0, 1, 1] [0, 1, 1] _ (hMW.mono hBW) (ints_of_blk [0, 1, 1] hb32 (by decide)) rfl rfl rfl) rfl (fun e' w11 hr => ?_)
  obtain ⟨rfl, hs⟩ := hr
  replace hs := Same.of_bel hs
  replace hB := hB.tr0 hs
  replace hb3 := hb3.tr0 hs
  replace hb4 := hb4.tr0 hs
  replace hb5 := hb5.tr0 hs
  replace hBW := hBW.tr0 hs
  replace hb9 := hb9.tr0 hs
  replace hb32 := hb32.tr0 hs
  clear hs
  refine ⟨_, rfl, ?_⟩
  refine wl_gd 30 rfl rfl ?_
  refine wl (r_not rfl) ?_
  refine wl (r_pf (v := .bool _) rfl rfl) ?_
  refine x_nil ?_
  refine e_S ?_
  refine c_if rfl (fun c35 => ?_) (fun c35 => ?_)
  · exact absurd c35 (by decide)
  · skip
    refine c_skip ?_
    refine e_S ?_
    refine c_seq ?_
    refine c_seq ?_
    refine c_region ?_
    refine wl_cl fn10 (pair_any _) rfl (fun e' w12 hr => ?_)
    obtain ⟨⟨Ap, Bp, rfl, hTp, hFp⟩, hs⟩ := hr
    replace hs := Same.of_bel hs
    replace hB := hB.tr0 hs
    replace hb3 := hb3.tr0 hs
    replace hb4 := hb4.tr0 hs
    replace hb5 := hb5.tr0 hs
    replace hBW := hBW.tr0 hs
    replace hb9 := hb9.tr0 hs
    replace hb32 := hb32.tr0 hs
    clear hs
    have hB0 : Bel w12 w12 := Below.refl _ _
    refine ⟨_, rfl, ?_⟩
    refine wl_cl fn19 (single_any 0 _) rfl (fun e' w13 hr => ?_)
    obtain ⟨⟨Gz, rfl, hGz⟩, hs⟩ := hr
    replace hs := Same.of_bel hs
    replace hB := hB.tr0 hs
    replace hb3 := hb3.tr0 hs
    replace hb4 := hb4.tr0 hs
    replace hb5 := hb5.tr0 hs
    replace hBW := hBW.tr0 hs
    replace hb9 := hb9.tr0 hs
    replace hb32 := hb32.tr0 hs
    replace hB0 := hB0.tr0 hs
    clear hs
    have hB1 : Bel w13 w13 := Below.refl _ _
    refine ⟨_, rfl, ?_⟩
    refine wl_cl fn16 (shared_any _) rfl (fun e' w14 hr => ?_)
    obtain ⟨⟨Gb, rfl, hGb⟩, hs⟩ := hr
    replace hs := Same.of_bel hs
    replace hB := hB.tr0 hs
    replace hb3 := hb3.tr0 hs
    replace hb4 := hb4.tr0 hs
    replace hb5 := hb5.tr0 hs
    replace hBW := hBW.tr0 hs
    replace hb9 := hb9.tr0 hs
    replace hb32 := hb32.tr0 hs
    replace hB0 := hB0.tr0 hs
    replace hB1 := hB1.tr0 hs
    clear hs
    have hB2 : Bel w14 w14 := Below.refl _ _
    refine ⟨_, rfl, ?_⟩
    refine wl_cl fn18 (subp_any (ga := zeroG) (gb := sharedG) rfl rfl zero_ok shared_ok subB_zs (hTab.mono hB) (hTp.mono hB0) (hFp.mono hB0) (hGz.mono hB1) (hGb.mono hB2)) rfl (fun e' w15 hr => ?_)
    obtain ⟨rfl, hs⟩ := hr
    replace hs := Same.of_bel hs
    replace hB := hB.tr0 hs
    replace hb3 := hb3.tr0 hs
    replace hb4 := hb4.tr0 hs
    replace hb5 := hb5.tr0 hs
    replace hBW := hBW.tr0 hs
    replace hb9 := hb9.tr0 hs
    replace hb32 := hb32.tr0 hs
    replace hB0 := hB0.tr0 hs
    replace hB1 := hB1.tr0 hs
    replace hB2 := hB2.tr0 hs
    clear hs
    refine ⟨_, rfl, ?_⟩
    refine wl (r_mv (v := .tuple _) rfl) ?_
    refine wl (r_ex (v := _) rfl rfl) ?_
    refine wl (r_ex (v := _) rfl rfl) ?_
    refine wl_al (cs := #[.int .i64 0, .int .i64 0]) ze35 rfl (fun b11 w16 hb11 hs hr => ?_)
    have or_b3_b11 : b3 < b11 := Nat.lt_of_lt_of_le hb3.lt hr
    have or_b4_b11 : b4 < b11 := Nat.lt_of_lt_of_le hb4.lt hr
    have or_b5_b11 : b5 < b11 := Nat.lt_of_lt_of_le hb5.lt hr
    have or_b9_b11 : b9 < b11 := Nat.lt_of_lt_of_le hb9.lt hr
    have or_b32_b11 : b32 < b11 := Nat.lt_of_lt_of_le hb32.lt hr
    have lo11 := Nat.le_trans (Bel.size hB) hr
    have lo_hBW_b11 := Nat.le_trans (Bel.size hBW) hr
    replace hB := hB.tr0 hs
    replace hb3 := hb3.tr0 hs
    replace hb4 := hb4.tr0 hs
    replace hb5 := hb5.tr0 hs
    replace hBW := hBW.tr0 hs
    replace hb9 := hb9.tr0 hs
    replace hb32 := hb32.tr0 hs
    clear hs
    clear hr
    refine wl (r_as (v := .bool _) rfl) ?_
    refine wl_stW hb11 rfl rfl sz35 rfl (by repeat (first | rfl | refine one_cons (by first | rfl | assumption) ?_)) (fun w17 hq hs => ?_)
    replace hB := hB.tr1 hs lo11
    replace hb3 := hb3.tr1 hs (by omega)
    replace hb4 := hb4.tr1 hs (by omega)
    replace hb5 := hb5.tr1 hs (by omega)
    replace hBW := hBW.tr1 hs lo_hBW_b11
    replace hb9 := hb9.tr1 hs (by omega)
    replace hb32 := hb32.tr1 hs (by omega)
    clear hs
    replace hb11 := hq
    refine x_nil ?_
    refine e_S ?_
    refine c_seq ?_
    refine c_region ?_
    refine wl (r_mv (v := .bool _) rfl) ?_
    refine wl (r_not rfl) ?_
    refine x_nil ?_
    refine e_S ?_
    refine c_if rfl (fun c44 => ?_) (fun c44 => ?_)
    · exact absurd c44 (by decide)
    · skip
      refine c_skip ?_
      refine e_S ?_
      refine c_seq ?_
      refine c_region ?_
      refine wl (r_ldS Tryd.underlying25 rfl rfl hb3.range0 sz25) ?_
      refine wl (r_ldS Tryd.underlying28 rfl rfl hb4.range0 sz28) ?_
      refine wl (r_ldS Tryd.underlying28 rfl rfl hb5.range0 sz28) ?_
      refine wl_cl fn18 (subs_any A B G1 G2 c d c1 c2 l fs ga gb _ (hTab.mono hB) (hT.mono hB) (hF.mono hB) (hG1.mono hB) (hG2.mono hB)) rfl (fun e' w18 hr => ?_)
      obtain ⟨rfl, hs⟩ := hr
      replace hs := Same.of_bel hs
      replace hB := hB.tr0 hs
      replace hb3 := hb3.tr0 hs
      replace hb4 := hb4.tr0 hs
      replace hb5 := hb5.tr0 hs
      replace hBW := hBW.tr0 hs
      replace hb9 := hb9.tr0 hs
      replace hb32 := hb32.tr0 hs
      replace hb11 := hb11.tr0 hs
      clear hs
      refine ⟨_, rfl, ?_⟩
      refine wl (r_mv (v := .tuple _) rfl) ?_
      refine wl (r_ex (v := _) rfl rfl) ?_
      refine wl (r_ex (v := _) rfl rfl) ?_
      refine wl_al (cs := #[.int .i64 0, .int .i64 0]) ze35 rfl (fun b13 w19 hb13 hs hr => ?_)
      have or_b3_b13 : b3 < b13 := Nat.lt_of_lt_of_le hb3.lt hr
      have or_b4_b13 : b4 < b13 := Nat.lt_of_lt_of_le hb4.lt hr
      have or_b5_b13 : b5 < b13 := Nat.lt_of_lt_of_le hb5.lt hr
      have or_b9_b13 : b9 < b13 := Nat.lt_of_lt_of_le hb9.lt hr
      have or_b32_b13 : b32 < b13 := Nat.lt_of_lt_of_le hb32.lt hr
      have or_b11_b13 : b11 < b13 := Nat.lt_of_lt_of_le hb11.lt hr
      have lo13 := Nat.le_trans (Bel.size hB) hr
      have lo_hBW_b13 := Nat.le_trans (Bel.size hBW) hr
      replace hB := hB.tr0 hs
      replace hb3 := hb3.tr0 hs
      replace hb4 := hb4.tr0 hs
      replace hb5 := hb5.tr0 hs
      replace hBW := hBW.tr0 hs
      replace hb9 := hb9.tr0 hs
      replace hb32 := hb32.tr0 hs
      replace hb11 := hb11.tr0 hs
      clear hs
      clear hr
      refine wl (r_as (v := .bool _) rfl) ?_
      refine wl_stW hb13 rfl rfl sz35 rfl (by repeat (first | rfl | refine one_cons (by first | rfl | assumption) ?_)) (fun w20 hq hs => ?_)
      replace hB := hB.tr1 hs lo13
      replace hb3 := hb3.tr1 hs (by omega)
      replace hb4 := hb4.tr1 hs (by omega)
      replace hb5 := hb5.tr1 hs (by omega)
      replace hBW := hBW.tr1 hs lo_hBW_b13
      replace hb9 := hb9.tr1 hs (by omega)
      replace hb32 := hb32.tr1 hs (by omega)
      replace hb11 := hb11.tr1 hs (by omega)
      clear hs
      replace hb13 := hq
      refine x_nil ?_
      refine e_S ?_
      refine c_seq ?_
      refine c_region ?_
      refine wl (r_ldS Tryd.underlying25 rfl rfl hb3.range0 sz25) ?_
      refine wl (r_ldS Tryd.underlying28 rfl rfl hb4.range0 sz28) ?_
      refine wl (r_ldS Tryd.underlying28 rfl rfl hb5.range0 sz28) ?_
      refine wl_cl fn14 (map_any A B G1 G2 c d c1 c2 l fs ga gb _ (hTab.mono hB) (hT.mono hB) (hF.mono hB) (hG1.mono hB) (hG2.mono hB)) rfl (fun e' w21 hr => ?_)
      obtain ⟨⟨MA, ma, rfl, hMA⟩, hs⟩ := hr
      replace hs := Same.of_bel hs
      replace hB := hB.tr0 hs
      replace hb3 := hb3.tr0 hs
      replace hb4 := hb4.tr0 hs
      replace hb5 := hb5.tr0 hs
      replace hBW := hBW.tr0 hs
      replace hb9 := hb9.tr0 hs
      replace hb32 := hb32.tr0 hs
      replace hb11 := hb11.tr0 hs
      replace hb13 := hb13.tr0 hs
      clear hs
      replace hMA := hMA w21 (FrSame.refl _ _)
      have hBM : Bel w21 w21 := Below.refl _ _
      refine ⟨_, rfl, ?_⟩
      refine wl (r_mv (v := .tuple _) rfl) ?_
      refine wl (r_ex (v := _) rfl rfl) ?_
      refine wl (r_ex (v := _) rfl rfl) ?_
      refine wl (r_ex (v := _) rfl rfl) ?_
      refine wl_al (cs := #[.int .i64 0, .int .i64 0]) ze35 rfl (fun b16 w22 hb16 hs hr => ?_)
      have or_b3_b16 : b3 < b16 := Nat.lt_of_lt_of_le hb3.lt hr
      have or_b4_b16 : b4 < b16 := Nat.lt_of_lt_of_le hb4.lt hr
      have or_b5_b16 : b5 < b16 := Nat.lt_of_lt_of_le hb5.lt hr
      have or_b9_b16 : b9 < b16 := Nat.lt_of_lt_of_le hb9.lt hr
      have or_b32_b16 : b32 < b16 := Nat.lt_of_lt_of_le hb32.lt hr
      have or_b11_b16 : b11 < b16 := Nat.lt_of_lt_of_le hb11.lt hr
      have or_b13_b16 : b13 < b16 := Nat.lt_of_lt_of_le hb13.lt hr
      have lo16 := Nat.le_trans (Bel.size hB) hr
      have lo_hBW_b16 := Nat.le_trans (Bel.size hBW) hr
      have lo_hBM_b16 := Nat.le_trans (Bel.size hBM) hr
      replace hB := hB.tr0 hs
      replace hb3 := hb3.tr0 hs
      replace hb4 := hb4.tr0 hs
      replace hb5 := hb5.tr0 hs
      replace hBW := hBW.tr0 hs
      replace hb9 := hb9.tr0 hs
      replace hb32 := hb32.tr0 hs
      replace hb11 := hb11.tr0 hs
      replace hb13 := hb13.tr0 hs
      replace hBM := hBM.tr0 hs
      clear hs
      clear hr
      refine wl (r_as (v := .slice _ _ _) rfl) ?_
      refine wl (r_as (v := .bool _) rfl) ?_
      refine wl_stW hb16 rfl rfl sz35 rfl (by repeat (first | rfl | refine one_cons (by first | rfl | assumption) ?_)) (fun w23 hq hs => ?_)
      replace hB := hB.tr1 hs lo16
      replace hb3 := hb3.tr1 hs (by omega)
      replace hb4 := hb4.tr1 hs (by omega)
      replace hb5 := hb5.tr1 hs (by omega)
      replace hBW := hBW.tr1 hs lo_hBW_b16
      replace hb9 := hb9.tr1 hs (by omega)
      replace hb32 := hb32.tr1 hs (by omega)
      replace hb11 := hb11.tr1 hs (by omega)
      replace hb13 := hb13.tr1 hs (by omega)
      replace hBM := hBM.tr1 hs lo_hBM_b16
      clear hs
      replace hb16 := hq
      refine x_nil ?_
      refine e_S ?_
      refine c_seq ?_
      refine c_seq ?_
      refine c_region ?_
      refine wl (r_ldS Tryd.underlying25 rfl rfl hb3.range0 sz25) ?_
      refine wl (r_ldS Tryd.underlying28 rfl rfl hb4.range0 sz28) ?_
      refine wl (r_ldS Tryd.underlying28 rfl rfl hb5.range0 sz28) ?_
      refine wl_cl fn20 (twof_any A B G1 G2 c d c1 c2 l fs ga gb _ hcl hdl (hT.mono hB) (hF.mono hB) (hG1.mono hB) (hG2.mono hB)) rfl (fun e' w24 hr => ?_)
      obtain ⟨rfl, hs⟩ := hr
      replace hs := Same.of_bel hs
      replace hB := hB.tr0 hs
      replace hb3 := hb3.tr0 hs
      replace hb4 := hb4.tr0 hs
      replace hb5 := hb5.tr0 hs
      replace hBW := hBW.tr0 hs
      replace hb9 := hb9.tr0 hs
      replace hb32 := hb32.tr0 hs
      replace hb11 := hb11.tr0 hs
      replace hb13 := hb13.tr0 hs
      replace hBM := hBM.tr0 hs
      replace hb16 := hb16.tr0 hs
      clear hs
      refine ⟨_, rfl, ?_⟩
      refine wl_al (cs := #[.int .i64 0, .int .i64 0]) ze35 rfl (fun b17 w25 hb17 hs hr => ?_)
      have or_b3_b17 : b3 < b17 := Nat.lt_of_lt_of_le hb3.lt hr
      have or_b4_b17 : b4 < b17 := Nat.lt_of_lt_of_le hb4.lt hr
      have or_b5_b17 : b5 < b17 := Nat.lt_of_lt_of_le hb5.lt hr
      have or_b9_b17 : b9 < b17 := Nat.lt_of_lt_of_le hb9.lt hr
      have or_b32_b17 : b32 < b17 := Nat.lt_of_lt_of_le hb32.lt hr
      have or_b11_b17 : b11 < b17 := Nat.lt_of_lt_of_le hb11.lt hr
      have or_b13_b17 : b13 < b17 := Nat.lt_of_lt_of_le hb13.lt hr
      have or_b16_b17 : b16 < b17 := Nat.lt_of_lt_of_le hb16.lt hr
      have lo17 := Nat.le_trans (Bel.size hB) hr
      have lo_hBW_b17 := Nat.le_trans (Bel.size hBW) hr
      have lo_hBM_b17 := Nat.le_trans (Bel.size hBM) hr
      replace hB := hB.tr0 hs
      replace hb3 := hb3.tr0 hs
      replace hb4 := hb4.tr0 hs
      replace hb5 := hb5.tr0 hs
      replace hBW := hBW.tr0 hs
      replace hb9 := hb9.tr0 hs
      replace hb32 := hb32.tr0 hs
      replace hb11 := hb11.tr0 hs
      replace hb13 := hb13.tr0 hs
      replace hBM := hBM.tr0 hs
      replace hb16 := hb16.tr0 hs
      clear hs
      clear hr
      refine wl_stW hb17 rfl rfl sz35 rfl (by repeat (first | rfl | refine one_cons (by first | rfl | assumption) ?_)) (fun w26 hq hs => ?_)
      replace hB := hB.tr1 hs lo17
      replace hb3 := hb3.tr1 hs (by omega)
      replace hb4 := hb4.tr1 hs (by omega)
      replace hb5 := hb5.tr1 hs (by omega)
      replace hBW := hBW.tr1 hs lo_hBW_b17
      replace hb9 := hb9.tr1 hs (by omega)
      replace hb32 := hb32.tr1 hs (by omega)
      replace hb11 := hb11.tr1 hs (by omega)
      replace hb13 := hb13.tr1 hs (by omega)
      replace hBM := hBM.tr1 hs lo_hBM_b17
      replace hb16 := hb16.tr1 hs (by omega)
      clear hs
      replace hb17 := hq
      refine x_nil ?_
      refine e_S ?_
      refine c_seq ?_
      refine c_region ?_
      refine wl (r_fa Tryd.underlying35 sz3 (by decide) rfl rfl rfl) ?_
      refine wl (r_ld1 (v := .int _ _) Tryd.underlying3 rfl rfl (hb17.cell rfl)) ?_
      refine wl (r_neq rfl rfl) ?_
      refine x_nil ?_
      refine e_S ?_
      refine c_ifd rfl (fun c66 => ?_) (fun c66 => ?_)
      · skip
        refine c_seq ?_
        refine c_region ?_
        refine wl (r_ldS Tryd.underlying35 rfl rfl hb13.range0 sz35) ?_
        refine wl (r_ldS Tryd.underlying35 rfl rfl hb17.range0 sz35) ?_
        refine wl (r_eqF Tryd.eqGuardType35 ft35 Tryd.stoodInHeld35 fd35 Tryd.underlying3 rfl rfl) ?_
        refine wl (r_mv (v := .bool true) (congrArg Value.bool (decide_eq_true ⟨rfl, rfl⟩))) ?_
        refine wl_gd 70 rfl rfl ?_
        refine wl (r_ldS Tryd.underlying35 rfl rfl hb16.range0 sz35) ?_
        refine wl_gd 70 rfl rfl ?_
        refine wl (r_ldS Tryd.underlying35 rfl rfl hb17.range0 sz35) ?_
        refine wl_gd 70 rfl rfl ?_
        refine wl (r_eqF Tryd.eqGuardType35 ft35 Tryd.stoodInHeld35 fd35 Tryd.underlying3 rfl rfl) ?_
        refine wl (r_pt (v := .bool _) rfl rfl) ?_
        refine wl (r_mv (v := .bool true) (congrArg Value.bool (decide_eq_true ⟨rfl, rfl⟩))) ?_
        refine wl_gd 75 rfl rfl ?_
        refine wl (r_mv (v := .bool _) rfl) ?_
        refine wl_gd 75 rfl rfl ?_
        refine wl (r_not rfl) ?_
        refine wl (r_pt (v := .bool _) rfl rfl) ?_
        refine wl (r_mv (v := .bool true) (congrArg Value.bool (by rw [subB_no c66]; rfl))) ?_
        refine wl_gd 79 rfl rfl ?_
        refine wl (r_mv (v := .bool _) rfl) ?_
        refine wl_gd 79 rfl rfl ?_
        refine wl (r_not rfl) ?_
        refine wl (r_pt (v := .bool _) rfl rfl) ?_
        refine wl (r_mv (v := .bool true) (congrArg Value.bool (by rw [subB_no c66]; rfl))) ?_
        refine wl_gd 83 rfl rfl ?_
        refine wl (r_mv (v := .slice _ _ _) rfl) ?_
        refine wl_gd 83 rfl rfl ?_
        refine wl (r_len Tryd.underlying44 rfl) ?_
        refine wl_gd 83 rfl rfl ?_
        refine wl (r_eql rfl rfl) ?_
        refine wl (r_pt (v := .bool _) rfl rfl) ?_
        refine wl (r_as (v := .bool true) (congrArg Value.bool (decide_eq_true (by rw [mapG_no c66]; rfl)))) ?_
        refine x_nil ?_
        refine e_S ?_
        refine c_ret ?_
        refine e_Sr ?_
        refine fin1 (.inl rfl) rfl rfl ?_
        exact ⟨rfl, hB⟩
      · have h0 := Decidable.not_not.1 c66
        obtain ⟨⟨hva, hvb⟩, hga0, hgb0⟩ := two_gv h0
        have hsB := subB_yes h0
        have hmG := mapG_yes h0
        have hbb : (subB l fs ga gb == decide (Maps l ga gb)) = true := by rw [hsB]; exact beq_self_eq_true _
        refine c_skip ?_
        refine e_S ?_
        refine c_seq ?_
        refine c_region ?_
        refine wl (r_ldS Tryd.underlying25 rfl rfl hb3.range0 sz25) ?_
        refine wl (r_ldS Tryd.underlying28 rfl rfl hb4.range0 sz28) ?_
        refine wl (r_ldS Tryd.underlying28 rfl rfl hb5.range0 sz28) ?_
        refine wl_cl fn21 (mapped_any A B G1 G2 c d c1 c2 l fs ga gb _ (hT.mono hB) (hG1.mono hB) (hG2.mono hB) hva hvb) rfl (fun e' w27 hr => ?_)
        obtain ⟨⟨MB, mb, rfl, hMB⟩, hs⟩ := hr
        replace hs := Same.of_bel hs
        replace hB := hB.tr0 hs
        replace hb3 := hb3.tr0 hs
        replace hb4 := hb4.tr0 hs
        replace hb5 := hb5.tr0 hs
        replace hBW := hBW.tr0 hs
        replace hb9 := hb9.tr0 hs
        replace hb32 := hb32.tr0 hs
        replace hb11 := hb11.tr0 hs
        replace hb13 := hb13.tr0 hs
        replace hBM := hBM.tr0 hs
        replace hb16 := hb16.tr0 hs
        replace hb17 := hb17.tr0 hs
        clear hs
        have hBN : Bel w27 w27 := Below.refl _ _
        refine ⟨_, rfl, ?_⟩
        refine wl (r_mv (v := .tuple _) rfl) ?_
        refine wl (r_ex (v := _) rfl rfl) ?_
        refine wl (r_ex (v := _) rfl rfl) ?_
        refine wl (r_as (v := .slice _ _ _) rfl) ?_
        refine wl (r_as (v := .bool _) rfl) ?_
        refine x_nil ?_
        refine e_S ?_
        refine c_seq ?_
        refine c_region ?_
        refine wl (r_fa Tryd.underlying35 sz3 (by decide) rfl rfl rfl) ?_
        refine wl (r_ld1 (v := .int _ _) Tryd.underlying3 rfl rfl (hb13.cell rfl)) ?_
        refine wl (r_eql rfl rfl) ?_
        refine wl (r_mv (v := .bool true) (congrArg Value.bool (decide_eq_true h0))) ?_
        refine wl_gd 98 rfl rfl ?_
        refine wl (r_fa Tryd.underlying35 sz3 (by decide) rfl rfl rfl) ?_
        refine wl_gd 98 rfl rfl ?_
        refine wl (r_ld1 (v := .int _ _) Tryd.underlying3 rfl rfl (hb16.cell rfl)) ?_
        refine wl_gd 98 rfl rfl ?_
        refine wl (r_eql rfl rfl) ?_
        refine wl (r_pt (v := .bool _) rfl rfl) ?_
        refine wl (r_mv (v := .bool true) (congrArg Value.bool (decide_eq_true h0))) ?_
        refine wl_gd 103 rfl rfl ?_
        refine wl (r_mv (v := .bool _) rfl) ?_
        refine wl_gd 103 rfl rfl ?_
        refine wl (r_mv (v := .bool _) rfl) ?_
        refine wl_gd 103 rfl rfl ?_
        refine wl (r_eqlBr Tryd.underlying4 rfl rfl hbb) ?_
        refine wl (r_pt (v := .bool _) rfl rfl) ?_
        refine wl (r_mv (v := .bool _) rfl) ?_
        refine wl_gd 108 rfl rfl ?_
        refine wl (r_mv (v := .bool _) rfl) ?_
        refine wl_gd 108 rfl rfl ?_
        refine wl (r_mv (v := .bool _) rfl) ?_
        refine wl_gd 108 rfl rfl ?_
        refine wl (r_eqlBr Tryd.underlying4 rfl rfl hbb) ?_
        refine wl (r_pt (v := .bool _) rfl rfl) ?_
        refine wl (r_mv (v := .bool _) rfl) ?_
        refine wl_gd 113 rfl rfl ?_
        refine wl (r_mv (v := .slice _ _ _) rfl) ?_
        refine wl_gd 113 rfl rfl ?_
        refine wl (r_mv (v := .slice _ _ _) rfl) ?_
        refine wl_gd 113 rfl rfl ?_
        refine wl_cl fn17 (isame_any MA MB _ _ _ _ _ _ _ (hMA.mono hBM) (hMB.mono hBN) rfl rfl hmG) rfl (fun e' w28 hr => ?_)
        obtain ⟨rfl, hs⟩ := hr
        replace hs := Same.of_bel hs
        replace hB := hB.tr0 hs
        replace hb3 := hb3.tr0 hs
        replace hb4 := hb4.tr0 hs
        replace hb5 := hb5.tr0 hs
        replace hBW := hBW.tr0 hs
        replace hb9 := hb9.tr0 hs
        replace hb32 := hb32.tr0 hs
        replace hb11 := hb11.tr0 hs
        replace hb13 := hb13.tr0 hs
        replace hBM := hBM.tr0 hs
        replace hb16 := hb16.tr0 hs
        replace hb17 := hb17.tr0 hs
        replace hBN := hBN.tr0 hs
        clear hs
        refine ⟨_, rfl, ?_⟩
        refine wl (r_pt (v := .bool _) rfl rfl) ?_
        refine wl (r_as (v := .bool _) rfl) ?_
        refine x_nil ?_
        refine e_S ?_
        refine c_ret ?_
        refine fin1 (.inl rfl) rfl rfl ?_
        exact ⟨rfl, hB⟩
end Go.Proofs.YtlaihbaneoeffaaDoor
