/- What these functions of the program compute, at every world: glosswright/glosswrightlaw3.SubsumeIsOrder. -/
import Derived.Test.YtlaihbaneoeffaaDoorSBase
namespace Go.Proofs.YtlaihbaneoeffaaDoor
open Go.RowKit

theorem fn10_SOrd : callable Tryd.prog 10 = true := by kernel_rfl
theorem fn13 : callable Tryd.prog 13 = true := by kernel_rfl
theorem fn16_SOrd : callable Tryd.prog 16 = true := by kernel_rfl
theorem fn18_SOrd : callable Tryd.prog 18 = true := by kernel_rfl
theorem fn20_SOrd : callable Tryd.prog 20 = true := by kernel_rfl
theorem fn23 : callable Tryd.prog 23 = true := by kernel_rfl
set_option maxHeartbeats 4000000 in
theorem law11_any (A B G1 G2 G3 : Option Addr) (c d c1 c2 c3 : Nat) (l : List Ty) (fs : List Ft) (ga gb gc : List Nd) (w : World) (hTab : TabIn w) (hcl : l.length ≤ c) (hdl : fs.length ≤ d) (hT : TypesIn w A l) (hF : FeatsIn w B fs) (hG1 : NodesIn w G1 ga) (hG2 : NodesIn w G2 gb) (hG3 : NodesIn w G3 gc) : Calls Tryd.prog 5 #[.agg #[.slice A l.length c, .slice B fs.length d], .agg #[.slice G1 ga.length c1], .agg #[.slice G2 gb.length c2], .agg #[.slice G3 gc.length c3]] w fun e w' => e = .returned (.bool true) ∧ Bel w w' := by
 refine enter Tryd.func5 Tryd.ntmps5 rfl (Nat.le_of_ble_eq_true rfl) ?_
 have hB : Bel w w := Below.refl _ _
 refine c_seq ?_
 refine c_region ?_
 refine wl_bx (v := .agg #[_, _]) (cs := #[_, _]) rfl rfl (fun b4 w1 hb4 hs hr => ?_)
 have lo4 := Nat.le_trans (Bel.size hB) hr
 replace hB := hB.tr0 hs
 clear hs
 clear hr
 refine wl_bx (v := .agg #[_]) (cs := #[_]) rfl rfl (fun b5 w2 hb5 hs hr => ?_)
 have or_b4_b5 : b4 < b5 := Nat.lt_of_lt_of_le hb4.lt hr
 have lo5 := Nat.le_trans (Bel.size hB) hr
 replace hB := hB.tr0 hs
 replace hb4 := hb4.tr0 hs
 clear hs
 clear hr
 refine wl_bx (v := .agg #[_]) (cs := #[_]) rfl rfl (fun b6 w3 hb6 hs hr => ?_)
 have or_b4_b6 : b4 < b6 := Nat.lt_of_lt_of_le hb4.lt hr
 have or_b5_b6 : b5 < b6 := Nat.lt_of_lt_of_le hb5.lt hr
 have lo6 := Nat.le_trans (Bel.size hB) hr
 replace hB := hB.tr0 hs
 replace hb4 := hb4.tr0 hs
 replace hb5 := hb5.tr0 hs
 clear hs
 clear hr
 refine wl_bx (v := .agg #[_]) (cs := #[_]) rfl rfl (fun b7 w4 hb7 hs hr => ?_)
 have or_b4_b7 : b4 < b7 := Nat.lt_of_lt_of_le hb4.lt hr
 have or_b5_b7 : b5 < b7 := Nat.lt_of_lt_of_le hb5.lt hr
 have or_b6_b7 : b6 < b7 := Nat.lt_of_lt_of_le hb6.lt hr
 have lo7 := Nat.le_trans (Bel.size hB) hr
 replace hB := hB.tr0 hs
 replace hb4 := hb4.tr0 hs
 replace hb5 := hb5.tr0 hs
 replace hb6 := hb6.tr0 hs
 clear hs
 clear hr
 refine wl (r_as (v := .bool _) rfl) ?_
 refine x_nil ?_
 refine e_S ?_
 refine c_seq ?_
 refine c_seq ?_
 refine c_region ?_
 refine wl_cl fn10_SOrd (pair_any _) rfl (fun e' w5 hr => ?_)
 obtain ⟨⟨Ap, Bp, rfl, hTp, hFp⟩, hs⟩ := hr
 replace hs := Same.of_bel hs
 replace hB := hB.tr0 hs
 replace hb4 := hb4.tr0 hs
 replace hb5 := hb5.tr0 hs
 replace hb6 := hb6.tr0 hs
 replace hb7 := hb7.tr0 hs
 clear hs
 have hB0 : Bel w5 w5 := Below.refl _ _
 refine ⟨_, rfl, ?_⟩
 refine wl_cl fn16_SOrd (shared_any _) rfl (fun e' w6 hr => ?_)
 obtain ⟨⟨Ga, rfl, hGa⟩, hs⟩ := hr
 replace hs := Same.of_bel hs
 replace hB := hB.tr0 hs
 replace hb4 := hb4.tr0 hs
 replace hb5 := hb5.tr0 hs
 replace hb6 := hb6.tr0 hs
 replace hb7 := hb7.tr0 hs
 replace hB0 := hB0.tr0 hs
 clear hs
 have hB1 : Bel w6 w6 := Below.refl _ _
 refine ⟨_, rfl, ?_⟩
 refine wl_cl fn16_SOrd (shared_any _) rfl (fun e' w7 hr => ?_)
 obtain ⟨⟨Gb, rfl, hGb⟩, hs⟩ := hr
 replace hs := Same.of_bel hs
 replace hB := hB.tr0 hs
 replace hb4 := hb4.tr0 hs
 replace hb5 := hb5.tr0 hs
 replace hb6 := hb6.tr0 hs
 replace hb7 := hb7.tr0 hs
 replace hB0 := hB0.tr0 hs
 replace hB1 := hB1.tr0 hs
 clear hs
 have hB2 : Bel w7 w7 := Below.refl _ _
 refine ⟨_, rfl, ?_⟩
 refine wl_cl fn18_SOrd (subp_any (ga := sharedG) (gb := sharedG) rfl rfl shared_ok shared_ok subB_ss (hTab.mono hB) (hTp.mono hB0) (hFp.mono hB0) (hGa.mono hB1) (hGb.mono hB2)) rfl (fun e' w8 hr => ?_)
 obtain ⟨rfl, hs⟩ := hr
 replace hs := Same.of_bel hs
 replace hB := hB.tr0 hs
 replace hb4 := hb4.tr0 hs
 replace hb5 := hb5.tr0 hs
 replace hb6 := hb6.tr0 hs
 replace hb7 := hb7.tr0 hs
 replace hB0 := hB0.tr0 hs
 replace hB1 := hB1.tr0 hs
 replace hB2 := hB2.tr0 hs
 clear hs
 refine ⟨_, rfl, ?_⟩
 refine wl (r_mv (v := .tuple _) rfl) ?_
 refine wl (r_ex (v := _) rfl rfl) ?_
 refine wl (r_ex (v := _) rfl rfl) ?_
 refine wl_al (cs := #[.int .i64 0, .int .i64 0]) ze35_GLoose rfl (fun b10 w9 hb10 hs hr => ?_)
 have or_b4_b10 : b4 < b10 := Nat.lt_of_lt_of_le hb4.lt hr
 have or_b5_b10 : b5 < b10 := Nat.lt_of_lt_of_le hb5.lt hr
 have or_b6_b10 : b6 < b10 := Nat.lt_of_lt_of_le hb6.lt hr
 have or_b7_b10 : b7 < b10 := Nat.lt_of_lt_of_le hb7.lt hr
 have lo10 := Nat.le_trans (Bel.size hB) hr
 replace hB := hB.tr0 hs
 replace hb4 := hb4.tr0 hs
 replace hb5 := hb5.tr0 hs
 replace hb6 := hb6.tr0 hs
 replace hb7 := hb7.tr0 hs
 clear hs
 clear hr
 refine wl (r_as (v := .bool _) rfl) ?_
 refine wl_stW hb10 rfl rfl sz35_GLoose rfl (by repeat (first | rfl | refine one_cons (by first | rfl | assumption) ?_)) (fun w10 hq hs => ?_)
 replace hB := hB.tr1 hs lo10
 replace hb4 := hb4.tr1 hs (by omega)
 replace hb5 := hb5.tr1 hs (by omega)
 replace hb6 := hb6.tr1 hs (by omega)
 replace hb7 := hb7.tr1 hs (by omega)
 clear hs
 replace hb10 := hq
 refine x_nil ?_
 refine e_S ?_
 refine c_seq ?_
 refine c_region ?_
 refine wl (r_mv (v := .bool _) rfl) ?_
 refine wl (r_not rfl) ?_
 refine x_nil ?_
 refine e_S ?_
 refine c_if rfl (fun c29 => ?_) (fun c29 => ?_)
 ·
  exact absurd c29 (by decide)
 ·
  refine c_skip ?_
  refine e_S ?_
  refine c_seq ?_
  refine c_seq ?_
  refine c_region ?_
  refine wl (r_ldS Tryd.underlying25 rfl rfl hb4.range0 sz25_SFind) ?_
  refine wl (r_ldS Tryd.underlying28 rfl rfl hb5.range0 sz28_GTgt) ?_
  refine wl (r_ldS Tryd.underlying28 rfl rfl hb6.range0 sz28_GTgt) ?_
  refine wl_cl fn20_SOrd (twof_any A B G1 G2 c d c1 c2 l fs ga gb _ hcl hdl (hT.mono hB) (hF.mono hB) (hG1.mono hB) (hG2.mono hB)) rfl (fun e' w11 hr => ?_)
  obtain ⟨rfl, hs⟩ := hr
  replace hs := Same.of_bel hs
  replace hB := hB.tr0 hs
  replace hb4 := hb4.tr0 hs
  replace hb5 := hb5.tr0 hs
  replace hb6 := hb6.tr0 hs
  replace hb7 := hb7.tr0 hs
  replace hb10 := hb10.tr0 hs
  clear hs
  refine ⟨_, rfl, ?_⟩
  refine wl (r_fd1 (v := .int _ _) Tryd.underlying35 rfl Tryd.underlying3 rfl rfl rfl) ?_
  refine wl (r_neq rfl rfl) ?_
  refine wl (r_mv (v := .bool _) rfl) ?_
  refine wl_casesd 36 rfl (fun g36 => ?_) (fun g36 => ?_)
  ·
   refine wlgn 36 rfl rfl rfl ?_
   refine wlgn 36 rfl rfl rfl ?_
   refine wlgn 36 rfl rfl rfl ?_
   refine wlgn 36 rfl rfl rfl ?_
   refine wlgn 36 rfl rfl rfl ?_
   refine wl (r_pt (v := .bool _) rfl rfl) ?_
   refine x_nil ?_
   refine e_S ?_
   refine c_yes rfl ?_
   refine c_seq ?_
   refine c_region ?_
   refine wl (r_as (v := .bool _) rfl) ?_
   refine x_nil ?_
   refine e_S ?_
   refine c_ret ?_
   refine e_Sr ?_
   refine fin1 (.inl rfl) rfl rfl ?_
   exact ⟨rfl, hB⟩
  ·
   have h0 := Decidable.not_not.1 g36
   obtain ⟨⟨hva, hvb⟩, hga0, hgb0⟩ := two_gv h0
   refine wl_gd 36 rfl rfl ?_
   refine wl (r_ldS Tryd.underlying25 rfl rfl hb4.range0 sz25_SFind) ?_
   refine wl_gd 36 rfl rfl ?_
   refine wl (r_ldS Tryd.underlying28 rfl rfl hb7.range0 sz28_GTgt) ?_
   refine wl_gd 36 rfl rfl ?_
   refine wl_cl fn22_SFind (inh_any A B G3 c d c3 l fs gc _ (hT.mono hB) hva.s.vt hva.s.le (hF.mono hB) (hG3.mono hB) hva.f) rfl (fun e' w12 hr => ?_)
   obtain ⟨rfl, hs⟩ := hr
   replace hs := Same.of_bel hs
   replace hB := hB.tr0 hs
   replace hb4 := hb4.tr0 hs
   replace hb5 := hb5.tr0 hs
   replace hb6 := hb6.tr0 hs
   replace hb7 := hb7.tr0 hs
   replace hb10 := hb10.tr0 hs
   clear hs
   refine ⟨_, rfl, ?_⟩
   refine wl_gd 36 rfl rfl ?_
   refine wl (r_fd1 (v := .int _ _) Tryd.underlying35 rfl Tryd.underlying3 rfl rfl rfl) ?_
   refine wl_gd 36 rfl rfl ?_
   refine wl (r_neq rfl rfl) ?_
   refine wl (r_pf (v := .bool _) rfl rfl) ?_
   refine x_nil ?_
   refine e_S ?_
   refine c_ifd rfl (fun c42 => ?_) (fun c42 => ?_)
   ·
    refine c_seq ?_
    refine c_region ?_
    refine wl (r_as (v := .bool _) rfl) ?_
    refine x_nil ?_
    refine e_S ?_
    refine c_ret ?_
    refine e_Sr ?_
    refine fin1 (.inl rfl) rfl rfl ?_
    exact ⟨rfl, hB⟩
   ·
    have hc0 := Decidable.not_not.1 c42
    have hgc0 : (graphF l fs gc).1 = 0 := by rw [gf_in hva.h]; exact hc0
    have hvc := gv_of hgc0
    refine c_skip ?_
    refine e_S ?_
    refine c_seq ?_
    refine c_region ?_
    refine wl (r_ldS Tryd.underlying25 rfl rfl hb4.range0 sz25_SFind) ?_
    refine wl (r_ldS Tryd.underlying28 rfl rfl hb5.range0 sz28_GTgt) ?_
    refine wl (r_ldS Tryd.underlying28 rfl rfl hb5.range0 sz28_GTgt) ?_
    refine wl_cl fn18_SOrd (subs_any A B G1 G1 c d c1 c1 l fs ga ga _ (hTab.mono hB) (hT.mono hB) (hF.mono hB) (hG1.mono hB) (hG1.mono hB)) rfl (fun e' w13 hr => ?_)
    obtain ⟨rfl, hs⟩ := hr
    replace hs := Same.of_bel hs
    replace hB := hB.tr0 hs
    replace hb4 := hb4.tr0 hs
    replace hb5 := hb5.tr0 hs
    replace hb6 := hb6.tr0 hs
    replace hb7 := hb7.tr0 hs
    replace hb10 := hb10.tr0 hs
    clear hs
    refine ⟨_, rfl, ?_⟩
    refine wl (r_mv (v := .tuple _) rfl) ?_
    refine wl (r_ex (v := _) rfl rfl) ?_
    refine wl (r_ex (v := _) rfl rfl) ?_
    refine wl_al (cs := #[.int .i64 0, .int .i64 0]) ze35_GLoose rfl (fun b12 w14 hb12 hs hr => ?_)
    have or_b4_b12 : b4 < b12 := Nat.lt_of_lt_of_le hb4.lt hr
    have or_b5_b12 : b5 < b12 := Nat.lt_of_lt_of_le hb5.lt hr
    have or_b6_b12 : b6 < b12 := Nat.lt_of_lt_of_le hb6.lt hr
    have or_b7_b12 : b7 < b12 := Nat.lt_of_lt_of_le hb7.lt hr
    have or_b10_b12 : b10 < b12 := Nat.lt_of_lt_of_le hb10.lt hr
    have lo12 := Nat.le_trans (Bel.size hB) hr
    replace hB := hB.tr0 hs
    replace hb4 := hb4.tr0 hs
    replace hb5 := hb5.tr0 hs
    replace hb6 := hb6.tr0 hs
    replace hb7 := hb7.tr0 hs
    replace hb10 := hb10.tr0 hs
    clear hs
    clear hr
    refine wl (r_as (v := .bool _) rfl) ?_
    refine wl_stW hb12 rfl rfl sz35_GLoose rfl (by repeat (first | rfl | refine one_cons (by first | rfl | assumption) ?_)) (fun w15 hq hs => ?_)
    replace hB := hB.tr1 hs lo12
    replace hb4 := hb4.tr1 hs (by omega)
    replace hb5 := hb5.tr1 hs (by omega)
    replace hb6 := hb6.tr1 hs (by omega)
    replace hb7 := hb7.tr1 hs (by omega)
    replace hb10 := hb10.tr1 hs (by omega)
    clear hs
    replace hb12 := hq
    refine x_nil ?_
    refine e_S ?_
    refine c_seq ?_
    refine c_region ?_
    refine wl (r_ldS Tryd.underlying25 rfl rfl hb4.range0 sz25_SFind) ?_
    refine wl (r_ldS Tryd.underlying28 rfl rfl hb5.range0 sz28_GTgt) ?_
    refine wl (r_ldS Tryd.underlying28 rfl rfl hb6.range0 sz28_GTgt) ?_
    refine wl_cl fn18_SOrd (subs_any A B G1 G2 c d c1 c2 l fs ga gb _ (hTab.mono hB) (hT.mono hB) (hF.mono hB) (hG1.mono hB) (hG2.mono hB)) rfl (fun e' w16 hr => ?_)
    obtain ⟨rfl, hs⟩ := hr
    replace hs := Same.of_bel hs
    replace hB := hB.tr0 hs
    replace hb4 := hb4.tr0 hs
    replace hb5 := hb5.tr0 hs
    replace hb6 := hb6.tr0 hs
    replace hb7 := hb7.tr0 hs
    replace hb10 := hb10.tr0 hs
    replace hb12 := hb12.tr0 hs
    clear hs
    refine ⟨_, rfl, ?_⟩
    refine wl (r_mv (v := .tuple _) rfl) ?_
    refine wl (r_ex (v := _) rfl rfl) ?_
    refine wl (r_ex (v := _) rfl rfl) ?_
    refine wl_al (cs := #[.int .i64 0, .int .i64 0]) ze35_GLoose rfl (fun b14 w17 hb14 hs hr => ?_)
    have or_b4_b14 : b4 < b14 := Nat.lt_of_lt_of_le hb4.lt hr
    have or_b5_b14 : b5 < b14 := Nat.lt_of_lt_of_le hb5.lt hr
    have or_b6_b14 : b6 < b14 := Nat.lt_of_lt_of_le hb6.lt hr
    have or_b7_b14 : b7 < b14 := Nat.lt_of_lt_of_le hb7.lt hr
    have or_b10_b14 : b10 < b14 := Nat.lt_of_lt_of_le hb10.lt hr
    have or_b12_b14 : b12 < b14 := Nat.lt_of_lt_of_le hb12.lt hr
    have lo14 := Nat.le_trans (Bel.size hB) hr
    replace hB := hB.tr0 hs
    replace hb4 := hb4.tr0 hs
    replace hb5 := hb5.tr0 hs
    replace hb6 := hb6.tr0 hs
    replace hb7 := hb7.tr0 hs
    replace hb10 := hb10.tr0 hs
    replace hb12 := hb12.tr0 hs
    clear hs
    clear hr
    refine wl (r_as (v := .bool _) rfl) ?_
    refine wl_stW hb14 rfl rfl sz35_GLoose rfl (by repeat (first | rfl | refine one_cons (by first | rfl | assumption) ?_)) (fun w18 hq hs => ?_)
    replace hB := hB.tr1 hs lo14
    replace hb4 := hb4.tr1 hs (by omega)
    replace hb5 := hb5.tr1 hs (by omega)
    replace hb6 := hb6.tr1 hs (by omega)
    replace hb7 := hb7.tr1 hs (by omega)
    replace hb10 := hb10.tr1 hs (by omega)
    replace hb12 := hb12.tr1 hs (by omega)
    clear hs
    replace hb14 := hq
    refine x_nil ?_
    refine e_S ?_
    refine c_seq ?_
    refine c_region ?_
    refine wl (r_ldS Tryd.underlying25 rfl rfl hb4.range0 sz25_SFind) ?_
    refine wl (r_ldS Tryd.underlying28 rfl rfl hb6.range0 sz28_GTgt) ?_
    refine wl (r_ldS Tryd.underlying28 rfl rfl hb5.range0 sz28_GTgt) ?_
    refine wl_cl fn18_SOrd (subs_any A B G2 G1 c d c2 c1 l fs gb ga _ (hTab.mono hB) (hT.mono hB) (hF.mono hB) (hG2.mono hB) (hG1.mono hB)) rfl (fun e' w19 hr => ?_)
    obtain ⟨rfl, hs⟩ := hr
    replace hs := Same.of_bel hs
    replace hB := hB.tr0 hs
    replace hb4 := hb4.tr0 hs
    replace hb5 := hb5.tr0 hs
    replace hb6 := hb6.tr0 hs
    replace hb7 := hb7.tr0 hs
    replace hb10 := hb10.tr0 hs
    replace hb12 := hb12.tr0 hs
    replace hb14 := hb14.tr0 hs
    clear hs
    refine ⟨_, rfl, ?_⟩
    refine wl (r_mv (v := .tuple _) rfl) ?_
    refine wl (r_ex (v := _) rfl rfl) ?_
    refine wl (r_ex (v := _) rfl rfl) ?_
    refine wl_al (cs := #[.int .i64 0, .int .i64 0]) ze35_GLoose rfl (fun b16 w20 hb16 hs hr => ?_)
    have or_b4_b16 : b4 < b16 := Nat.lt_of_lt_of_le hb4.lt hr
    have or_b5_b16 : b5 < b16 := Nat.lt_of_lt_of_le hb5.lt hr
    have or_b6_b16 : b6 < b16 := Nat.lt_of_lt_of_le hb6.lt hr
    have or_b7_b16 : b7 < b16 := Nat.lt_of_lt_of_le hb7.lt hr
    have or_b10_b16 : b10 < b16 := Nat.lt_of_lt_of_le hb10.lt hr
    have or_b12_b16 : b12 < b16 := Nat.lt_of_lt_of_le hb12.lt hr
    have or_b14_b16 : b14 < b16 := Nat.lt_of_lt_of_le hb14.lt hr
    have lo16 := Nat.le_trans (Bel.size hB) hr
    replace hB := hB.tr0 hs
    replace hb4 := hb4.tr0 hs
    replace hb5 := hb5.tr0 hs
    replace hb6 := hb6.tr0 hs
    replace hb7 := hb7.tr0 hs
    replace hb10 := hb10.tr0 hs
    replace hb12 := hb12.tr0 hs
    replace hb14 := hb14.tr0 hs
    clear hs
    clear hr
    refine wl (r_as (v := .bool _) rfl) ?_
    refine wl_stW hb16 rfl rfl sz35_GLoose rfl (by repeat (first | rfl | refine one_cons (by first | rfl | assumption) ?_)) (fun w21 hq hs => ?_)
    replace hB := hB.tr1 hs lo16
    replace hb4 := hb4.tr1 hs (by omega)
    replace hb5 := hb5.tr1 hs (by omega)
    replace hb6 := hb6.tr1 hs (by omega)
    replace hb7 := hb7.tr1 hs (by omega)
    replace hb10 := hb10.tr1 hs (by omega)
    replace hb12 := hb12.tr1 hs (by omega)
    replace hb14 := hb14.tr1 hs (by omega)
    clear hs
    replace hb16 := hq
    refine x_nil ?_
    refine e_S ?_
    refine c_seq ?_
    refine c_region ?_
    refine wl (r_ldS Tryd.underlying25 rfl rfl hb4.range0 sz25_SFind) ?_
    refine wl (r_ldS Tryd.underlying28 rfl rfl hb6.range0 sz28_GTgt) ?_
    refine wl (r_ldS Tryd.underlying28 rfl rfl hb7.range0 sz28_GTgt) ?_
    refine wl_cl fn18_SOrd (subs_any A B G2 G3 c d c2 c3 l fs gb gc _ (hTab.mono hB) (hT.mono hB) (hF.mono hB) (hG2.mono hB) (hG3.mono hB)) rfl (fun e' w22 hr => ?_)
    obtain ⟨rfl, hs⟩ := hr
    replace hs := Same.of_bel hs
    replace hB := hB.tr0 hs
    replace hb4 := hb4.tr0 hs
    replace hb5 := hb5.tr0 hs
    replace hb6 := hb6.tr0 hs
    replace hb7 := hb7.tr0 hs
    replace hb10 := hb10.tr0 hs
    replace hb12 := hb12.tr0 hs
    replace hb14 := hb14.tr0 hs
    replace hb16 := hb16.tr0 hs
    clear hs
    refine ⟨_, rfl, ?_⟩
    refine wl (r_mv (v := .tuple _) rfl) ?_
    refine wl (r_ex (v := _) rfl rfl) ?_
    refine wl (r_ex (v := _) rfl rfl) ?_
    refine wl_al (cs := #[.int .i64 0, .int .i64 0]) ze35_GLoose rfl (fun b18 w23 hb18 hs hr => ?_)
    have or_b4_b18 : b4 < b18 := Nat.lt_of_lt_of_le hb4.lt hr
    have or_b5_b18 : b5 < b18 := Nat.lt_of_lt_of_le hb5.lt hr
    have or_b6_b18 : b6 < b18 := Nat.lt_of_lt_of_le hb6.lt hr
    have or_b7_b18 : b7 < b18 := Nat.lt_of_lt_of_le hb7.lt hr
    have or_b10_b18 : b10 < b18 := Nat.lt_of_lt_of_le hb10.lt hr
    have or_b12_b18 : b12 < b18 := Nat.lt_of_lt_of_le hb12.lt hr
    have or_b14_b18 : b14 < b18 := Nat.lt_of_lt_of_le hb14.lt hr
    have or_b16_b18 : b16 < b18 := Nat.lt_of_lt_of_le hb16.lt hr
    have lo18 := Nat.le_trans (Bel.size hB) hr
    replace hB := hB.tr0 hs
    replace hb4 := hb4.tr0 hs
    replace hb5 := hb5.tr0 hs
    replace hb6 := hb6.tr0 hs
    replace hb7 := hb7.tr0 hs
    replace hb10 := hb10.tr0 hs
    replace hb12 := hb12.tr0 hs
    replace hb14 := hb14.tr0 hs
    replace hb16 := hb16.tr0 hs
    clear hs
    clear hr
    refine wl (r_as (v := .bool _) rfl) ?_
    refine wl_stW hb18 rfl rfl sz35_GLoose rfl (by repeat (first | rfl | refine one_cons (by first | rfl | assumption) ?_)) (fun w24 hq hs => ?_)
    replace hB := hB.tr1 hs lo18
    replace hb4 := hb4.tr1 hs (by omega)
    replace hb5 := hb5.tr1 hs (by omega)
    replace hb6 := hb6.tr1 hs (by omega)
    replace hb7 := hb7.tr1 hs (by omega)
    replace hb10 := hb10.tr1 hs (by omega)
    replace hb12 := hb12.tr1 hs (by omega)
    replace hb14 := hb14.tr1 hs (by omega)
    replace hb16 := hb16.tr1 hs (by omega)
    clear hs
    replace hb18 := hq
    refine x_nil ?_
    refine e_S ?_
    refine c_seq ?_
    refine c_region ?_
    refine wl (r_ldS Tryd.underlying25 rfl rfl hb4.range0 sz25_SFind) ?_
    refine wl (r_ldS Tryd.underlying28 rfl rfl hb5.range0 sz28_GTgt) ?_
    refine wl (r_ldS Tryd.underlying28 rfl rfl hb7.range0 sz28_GTgt) ?_
    refine wl_cl fn18_SOrd (subs_any A B G1 G3 c d c1 c3 l fs ga gc _ (hTab.mono hB) (hT.mono hB) (hF.mono hB) (hG1.mono hB) (hG3.mono hB)) rfl (fun e' w25 hr => ?_)
    obtain ⟨rfl, hs⟩ := hr
    replace hs := Same.of_bel hs
    replace hB := hB.tr0 hs
    replace hb4 := hb4.tr0 hs
    replace hb5 := hb5.tr0 hs
    replace hb6 := hb6.tr0 hs
    replace hb7 := hb7.tr0 hs
    replace hb10 := hb10.tr0 hs
    replace hb12 := hb12.tr0 hs
    replace hb14 := hb14.tr0 hs
    replace hb16 := hb16.tr0 hs
    replace hb18 := hb18.tr0 hs
    clear hs
    refine ⟨_, rfl, ?_⟩
    refine wl (r_mv (v := .tuple _) rfl) ?_
    refine wl (r_ex (v := _) rfl rfl) ?_
    refine wl (r_ex (v := _) rfl rfl) ?_
    refine wl_al (cs := #[.int .i64 0, .int .i64 0]) ze35_GLoose rfl (fun b20 w26 hb20 hs hr => ?_)
    have or_b4_b20 : b4 < b20 := Nat.lt_of_lt_of_le hb4.lt hr
    have or_b5_b20 : b5 < b20 := Nat.lt_of_lt_of_le hb5.lt hr
    have or_b6_b20 : b6 < b20 := Nat.lt_of_lt_of_le hb6.lt hr
    have or_b7_b20 : b7 < b20 := Nat.lt_of_lt_of_le hb7.lt hr
    have or_b10_b20 : b10 < b20 := Nat.lt_of_lt_of_le hb10.lt hr
    have or_b12_b20 : b12 < b20 := Nat.lt_of_lt_of_le hb12.lt hr
    have or_b14_b20 : b14 < b20 := Nat.lt_of_lt_of_le hb14.lt hr
    have or_b16_b20 : b16 < b20 := Nat.lt_of_lt_of_le hb16.lt hr
    have or_b18_b20 : b18 < b20 := Nat.lt_of_lt_of_le hb18.lt hr
    have lo20 := Nat.le_trans (Bel.size hB) hr
    replace hB := hB.tr0 hs
    replace hb4 := hb4.tr0 hs
    replace hb5 := hb5.tr0 hs
    replace hb6 := hb6.tr0 hs
    replace hb7 := hb7.tr0 hs
    replace hb10 := hb10.tr0 hs
    replace hb12 := hb12.tr0 hs
    replace hb14 := hb14.tr0 hs
    replace hb16 := hb16.tr0 hs
    replace hb18 := hb18.tr0 hs
    clear hs
    clear hr
    refine wl (r_as (v := .bool _) rfl) ?_
    refine wl_stW hb20 rfl rfl sz35_GLoose rfl (by repeat (first | rfl | refine one_cons (by first | rfl | assumption) ?_)) (fun w27 hq hs => ?_)
    replace hB := hB.tr1 hs lo20
    replace hb4 := hb4.tr1 hs (by omega)
    replace hb5 := hb5.tr1 hs (by omega)
    replace hb6 := hb6.tr1 hs (by omega)
    replace hb7 := hb7.tr1 hs (by omega)
    replace hb10 := hb10.tr1 hs (by omega)
    replace hb12 := hb12.tr1 hs (by omega)
    replace hb14 := hb14.tr1 hs (by omega)
    replace hb16 := hb16.tr1 hs (by omega)
    replace hb18 := hb18.tr1 hs (by omega)
    clear hs
    replace hb20 := hq
    refine x_nil ?_
    refine e_S ?_
    refine c_seq ?_
    rcases Bool.eq_false_or_eq_true (subB l fs ga gb) with hab | hab
    ·
     refine c_know 13 (.bool true) (congrArg Value.bool hab) (by simp [undef]) ?_
     rcases Bool.eq_false_or_eq_true (subB l fs gb gc) with hbc | hbc
     ·
      refine c_know 17 (.bool true) (congrArg Value.bool hbc) (by simp [undef]) ?_
      rcases Bool.eq_false_or_eq_true (subB l fs gb ga) with hba | hba
      ·
       refine c_know 15 (.bool true) (congrArg Value.bool hba) (by simp [undef]) ?_
       have haa : subB l fs ga ga = true := (subB_iff hga0 hga0).2 ⟨_, Hom.refl hva.gx⟩
       have hac : subB l fs ga gc = true := (subB_iff hga0 hgc0).2 (((subB_iff hga0 hgb0).1 hab).comp hva.s.vt ((subB_iff hgb0 hgc0).1 hbc))
       have hcd : decide (canF l fs ga = canF l fs gb) = true := decide_eq_true ((can_dec hga0 hgb0).2 ⟨hab, hba⟩)
       refine c_monoGO 25 [78, 79, 80, 81, 82, 83, 84, 85, 86, 87, 88, 89, 90, 91, 92, 93, 94, 95, 96, 97, 98, 99, 100, 101, 8] (fun _ => false) (fun ix v wv => match ix with | 0 => v = .bool true | 1 => v = .bool true | 2 => v = .bool true | 3 => v = .bool false | 4 => v = .bool false | 5 => v = .bool true | 6 => v = .bool false | 7 => v = .bool false | 8 => v = .bool false | 9 => v = .bool true | 10 => v = .bool true | 11 => v = .bool true | 12 => v = .bool true | 13 => v = .bool true | 14 => v = .bool true | 15 => v = .bool true | 16 => v = .bool true | 17 => v = .agg #[.slice G1 ga.length c1] | 18 => ∃ AR c, v = .agg #[.slice AR (canF l fs ga).length c] ∧ NodesIn wv AR (canF l fs ga) | 19 => v = .agg #[.slice G2 gb.length c2] | 20 => ∃ AR c, v = .agg #[.slice AR (canF l fs gb).length c] ∧ NodesIn wv AR (canF l fs gb) | 21 => v = .bool true | 22 => v = .bool true | 23 => v = .bool true | 24 => v = .bool true | _ => True) (by kernel_rfl) (by kernel_rfl) ?_ ?_ ?_
       ·
        intro ix v wv wv2 h hs
        match ix, h with
        | 0, h => exact h
        | 1, h => exact h
        | 2, h => exact h
        | 3, h => exact h
        | 4, h => exact h
        | 5, h => exact h
        | 6, h => exact h
        | 7, h => exact h
        | 8, h => exact h
        | 9, h => exact h
        | 10, h => exact h
        | 11, h => exact h
        | 12, h => exact h
        | 13, h => exact h
        | 14, h => exact h
        | 15, h => exact h
        | 16, h => exact h
        | 17, h => exact h
        | 18, h =>
         obtain ⟨AR96, cR96, e96, hNR96⟩ := (show ∃ AR c, v = .agg #[.slice AR (canF l fs ga).length c] ∧ NodesIn wv AR (canF l fs ga) from h)
         exact ⟨AR96, cR96, e96, hNR96.mono hs.bel⟩
        | 19, h => exact h
        | 20, h =>
         obtain ⟨AR98, cR98, e98, hNR98⟩ := (show ∃ AR c, v = .agg #[.slice AR (canF l fs gb).length c] ∧ NodesIn wv AR (canF l fs gb) from h)
         exact ⟨AR98, cR98, e98, hNR98.mono hs.bel⟩
        | 21, h => exact h
        | 22, h => exact h
        | 23, h => exact h
        | 24, h => exact h
        | _ + 25, h => exact trivial
       ·
        intro ix o hix hoq gg wx hs hd hdis
        match ix, hix, hoq with
        | 0, _, hoq =>
         obtain rfl : _ = o := Option.some.inj hoq
         have hs0 := hs
         replace hB := hB.tr0 hs
         replace hb4 := hb4.tr0 hs
         replace hb5 := hb5.tr0 hs
         replace hb6 := hb6.tr0 hs
         replace hb7 := hb7.tr0 hs
         replace hb10 := hb10.tr0 hs
         replace hb12 := hb12.tr0 hs
         replace hb14 := hb14.tr0 hs
         replace hb16 := hb16.tr0 hs
         replace hb18 := hb18.tr0 hs
         replace hb20 := hb20.tr0 hs
         clear hs
         refine ⟨fun _ => ?_, fun hw => Bool.noConfusion (show true = false from hw)⟩
         refine os_rv (r_mv (v := .bool _) rfl) ⟨Same.refl _ _, ?_, frsh_no⟩
         exact (congrArg Value.bool haa)
        | 1, _, hoq =>
         obtain rfl : _ = o := Option.some.inj hoq
         have hs0 := hs
         replace hB := hB.tr0 hs
         replace hb4 := hb4.tr0 hs
         replace hb5 := hb5.tr0 hs
         replace hb6 := hb6.tr0 hs
         replace hb7 := hb7.tr0 hs
         replace hb10 := hb10.tr0 hs
         replace hb12 := hb12.tr0 hs
         replace hb14 := hb14.tr0 hs
         replace hb16 := hb16.tr0 hs
         replace hb18 := hb18.tr0 hs
         replace hb20 := hb20.tr0 hs
         clear hs
         have d0 : gg 78 = .bool true := hd 0 (dep_of (by kernel_rfl))
         have e78 := d0
         refine ⟨fun _ => ?_, fun hw => Bool.noConfusion (show true = false from hw)⟩
         refine os_know 78 (.bool true) e78 (by simp [undef]) ?_
         refine os_rv (r_mv (v := .bool _) rfl) ⟨Same.refl _ _, ?_, frsh_no⟩
         exact rfl
        | 2, _, hoq =>
         obtain rfl : _ = o := Option.some.inj hoq
         have hs0 := hs
         replace hB := hB.tr0 hs
         replace hb4 := hb4.tr0 hs
         replace hb5 := hb5.tr0 hs
         replace hb6 := hb6.tr0 hs
         replace hb7 := hb7.tr0 hs
         replace hb10 := hb10.tr0 hs
         replace hb12 := hb12.tr0 hs
         replace hb14 := hb14.tr0 hs
         replace hb16 := hb16.tr0 hs
         replace hb18 := hb18.tr0 hs
         replace hb20 := hb20.tr0 hs
         clear hs
         have d1 : gg 79 = .bool true := hd 1 (dep_of (by kernel_rfl))
         have e79 := d1
         refine guard_case 79 true rfl e79 (fun _ => ?_) (fun h => absurd h (by decide))
         refine os_know 79 (.bool true) e79 (by simp [undef]) ?_
         refine os_rv (r_mv (v := .bool _) rfl) ⟨Same.refl _ _, ?_, frsh_no⟩
         exact rfl
        | 3, _, hoq =>
         obtain rfl : _ = o := Option.some.inj hoq
         have hs0 := hs
         replace hB := hB.tr0 hs
         replace hb4 := hb4.tr0 hs
         replace hb5 := hb5.tr0 hs
         replace hb6 := hb6.tr0 hs
         replace hb7 := hb7.tr0 hs
         replace hb10 := hb10.tr0 hs
         replace hb12 := hb12.tr0 hs
         replace hb14 := hb14.tr0 hs
         replace hb16 := hb16.tr0 hs
         replace hb18 := hb18.tr0 hs
         replace hb20 := hb20.tr0 hs
         clear hs
         have d1 : gg 79 = .bool true := hd 1 (dep_of (by kernel_rfl))
         have e79 := d1
         have d2 : gg 80 = .bool true := hd 2 (dep_of (by kernel_rfl))
         have e80 := d2
         refine guard_case 79 true rfl e79 (fun _ => ?_) (fun h => absurd h (by decide))
         refine os_know 79 (.bool true) e79 (by simp [undef]) ?_
         refine os_know 80 (.bool true) e80 (by simp [undef]) ?_
         refine os_rv (r_not rfl) ⟨Same.refl _ _, ?_, frsh_no⟩
         exact rfl
        | 4, _, hoq =>
         obtain rfl : _ = o := Option.some.inj hoq
         have hs0 := hs
         replace hB := hB.tr0 hs
         replace hb4 := hb4.tr0 hs
         replace hb5 := hb5.tr0 hs
         replace hb6 := hb6.tr0 hs
         replace hb7 := hb7.tr0 hs
         replace hb10 := hb10.tr0 hs
         replace hb12 := hb12.tr0 hs
         replace hb14 := hb14.tr0 hs
         replace hb16 := hb16.tr0 hs
         replace hb18 := hb18.tr0 hs
         replace hb20 := hb20.tr0 hs
         clear hs
         have d1 : gg 79 = .bool true := hd 1 (dep_of (by kernel_rfl))
         have e79 := d1
         have d3 : gg 81 = .bool false := hd 3 (dep_of (by kernel_rfl))
         have e81 := d3
         refine guard_case 79 true rfl e79 (fun _ => ?_) (fun h => absurd h (by decide))
         refine os_know 79 (.bool true) e79 (by simp [undef]) ?_
         refine os_know 81 (.bool false) e81 (by simp [undef]) ?_
         refine os_rv (r_mv (v := .bool _) rfl) ⟨Same.refl _ _, ?_, frsh_no⟩
         exact rfl
        | 5, _, hoq =>
         obtain rfl : _ = o := Option.some.inj hoq
         have hs0 := hs
         replace hB := hB.tr0 hs
         replace hb4 := hb4.tr0 hs
         replace hb5 := hb5.tr0 hs
         replace hb6 := hb6.tr0 hs
         replace hb7 := hb7.tr0 hs
         replace hb10 := hb10.tr0 hs
         replace hb12 := hb12.tr0 hs
         replace hb14 := hb14.tr0 hs
         replace hb16 := hb16.tr0 hs
         replace hb18 := hb18.tr0 hs
         replace hb20 := hb20.tr0 hs
         clear hs
         have d4 : gg 82 = .bool false := hd 4 (dep_of (by kernel_rfl))
         have e82 := d4
         refine guard_case 82 false rfl e82 (fun _ => ?_) (fun h => absurd h (by decide))
         refine os_know 82 (.bool false) e82 (by simp [undef]) ?_
         refine os_rv (r_mv (v := .bool _) rfl) ⟨Same.refl _ _, ?_, frsh_no⟩
         exact rfl
        | 6, _, hoq =>
         obtain rfl : _ = o := Option.some.inj hoq
         have hs0 := hs
         replace hB := hB.tr0 hs
         replace hb4 := hb4.tr0 hs
         replace hb5 := hb5.tr0 hs
         replace hb6 := hb6.tr0 hs
         replace hb7 := hb7.tr0 hs
         replace hb10 := hb10.tr0 hs
         replace hb12 := hb12.tr0 hs
         replace hb14 := hb14.tr0 hs
         replace hb16 := hb16.tr0 hs
         replace hb18 := hb18.tr0 hs
         replace hb20 := hb20.tr0 hs
         clear hs
         have d4 : gg 82 = .bool false := hd 4 (dep_of (by kernel_rfl))
         have e82 := d4
         have d5 : gg 83 = .bool true := hd 5 (dep_of (by kernel_rfl))
         have e83 := d5
         refine guard_case 82 false rfl e82 (fun _ => ?_) (fun h => absurd h (by decide))
         refine os_know 82 (.bool false) e82 (by simp [undef]) ?_
         refine os_know 83 (.bool true) e83 (by simp [undef]) ?_
         refine os_rv (r_not rfl) ⟨Same.refl _ _, ?_, frsh_no⟩
         exact rfl
        | 7, _, hoq =>
         obtain rfl : _ = o := Option.some.inj hoq
         have hs0 := hs
         replace hB := hB.tr0 hs
         replace hb4 := hb4.tr0 hs
         replace hb5 := hb5.tr0 hs
         replace hb6 := hb6.tr0 hs
         replace hb7 := hb7.tr0 hs
         replace hb10 := hb10.tr0 hs
         replace hb12 := hb12.tr0 hs
         replace hb14 := hb14.tr0 hs
         replace hb16 := hb16.tr0 hs
         replace hb18 := hb18.tr0 hs
         replace hb20 := hb20.tr0 hs
         clear hs
         have d1 : gg 79 = .bool true := hd 1 (dep_of (by kernel_rfl))
         have e79 := d1
         have d4 : gg 82 = .bool false := hd 4 (dep_of (by kernel_rfl))
         have e82 := d4
         have d6 : gg 84 = .bool false := hd 6 (dep_of (by kernel_rfl))
         have e84 := d6
         refine guard_case 79 true rfl e79 (fun _ => ?_) (fun h => absurd h (by decide))
         refine os_know 79 (.bool true) e79 (by simp [undef]) ?_
         refine os_know 82 (.bool false) e82 (by simp [undef]) ?_
         refine os_know 84 (.bool false) e84 (by simp [undef]) ?_
         refine os_rv (r_pf (v := .bool _) rfl rfl) ⟨Same.refl _ _, ?_, frsh_no⟩
         exact rfl
        | 8, _, hoq =>
         obtain rfl : _ = o := Option.some.inj hoq
         have hs0 := hs
         replace hB := hB.tr0 hs
         replace hb4 := hb4.tr0 hs
         replace hb5 := hb5.tr0 hs
         replace hb6 := hb6.tr0 hs
         replace hb7 := hb7.tr0 hs
         replace hb10 := hb10.tr0 hs
         replace hb12 := hb12.tr0 hs
         replace hb14 := hb14.tr0 hs
         replace hb16 := hb16.tr0 hs
         replace hb18 := hb18.tr0 hs
         replace hb20 := hb20.tr0 hs
         clear hs
         have d1 : gg 79 = .bool true := hd 1 (dep_of (by kernel_rfl))
         have e79 := d1
         have d7 : gg 85 = .bool false := hd 7 (dep_of (by kernel_rfl))
         have e85 := d7
         refine guard_case 79 true rfl e79 (fun _ => ?_) (fun h => absurd h (by decide))
         refine os_know 79 (.bool true) e79 (by simp [undef]) ?_
         refine os_know 85 (.bool false) e85 (by simp [undef]) ?_
         refine os_rv (r_mv (v := .bool _) rfl) ⟨Same.refl _ _, ?_, frsh_no⟩
         exact rfl
        | 9, _, hoq =>
         obtain rfl : _ = o := Option.some.inj hoq
         have hs0 := hs
         replace hB := hB.tr0 hs
         replace hb4 := hb4.tr0 hs
         replace hb5 := hb5.tr0 hs
         replace hb6 := hb6.tr0 hs
         replace hb7 := hb7.tr0 hs
         replace hb10 := hb10.tr0 hs
         replace hb12 := hb12.tr0 hs
         replace hb14 := hb14.tr0 hs
         replace hb16 := hb16.tr0 hs
         replace hb18 := hb18.tr0 hs
         replace hb20 := hb20.tr0 hs
         clear hs
         have d8 : gg 86 = .bool false := hd 8 (dep_of (by kernel_rfl))
         have e86 := d8
         refine guard_case 86 false rfl e86 (fun _ => ?_) (fun h => absurd h (by decide))
         refine os_know 86 (.bool false) e86 (by simp [undef]) ?_
         refine os_rv (r_mv (v := .bool _) rfl) ⟨Same.refl _ _, ?_, frsh_no⟩
         exact (congrArg Value.bool hac)
        | 10, _, hoq =>
         obtain rfl : _ = o := Option.some.inj hoq
         have hs0 := hs
         replace hB := hB.tr0 hs
         replace hb4 := hb4.tr0 hs
         replace hb5 := hb5.tr0 hs
         replace hb6 := hb6.tr0 hs
         replace hb7 := hb7.tr0 hs
         replace hb10 := hb10.tr0 hs
         replace hb12 := hb12.tr0 hs
         replace hb14 := hb14.tr0 hs
         replace hb16 := hb16.tr0 hs
         replace hb18 := hb18.tr0 hs
         replace hb20 := hb20.tr0 hs
         clear hs
         have d1 : gg 79 = .bool true := hd 1 (dep_of (by kernel_rfl))
         have e79 := d1
         have d8 : gg 86 = .bool false := hd 8 (dep_of (by kernel_rfl))
         have e86 := d8
         have d9 : gg 87 = .bool true := hd 9 (dep_of (by kernel_rfl))
         have e87 := d9
         refine guard_case 79 true rfl e79 (fun _ => ?_) (fun h => absurd h (by decide))
         refine os_know 79 (.bool true) e79 (by simp [undef]) ?_
         refine os_know 86 (.bool false) e86 (by simp [undef]) ?_
         refine os_know 87 (.bool true) e87 (by simp [undef]) ?_
         refine os_rv (r_pf (v := .bool _) rfl rfl) ⟨Same.refl _ _, ?_, frsh_no⟩
         exact rfl
        | 11, _, hoq =>
         obtain rfl : _ = o := Option.some.inj hoq
         have hs0 := hs
         replace hB := hB.tr0 hs
         replace hb4 := hb4.tr0 hs
         replace hb5 := hb5.tr0 hs
         replace hb6 := hb6.tr0 hs
         replace hb7 := hb7.tr0 hs
         replace hb10 := hb10.tr0 hs
         replace hb12 := hb12.tr0 hs
         replace hb14 := hb14.tr0 hs
         replace hb16 := hb16.tr0 hs
         replace hb18 := hb18.tr0 hs
         replace hb20 := hb20.tr0 hs
         clear hs
         have d1 : gg 79 = .bool true := hd 1 (dep_of (by kernel_rfl))
         have e79 := d1
         have d10 : gg 88 = .bool true := hd 10 (dep_of (by kernel_rfl))
         have e88 := d10
         refine ⟨fun _ => ?_, fun hw => Bool.noConfusion (show true = false from hw)⟩
         refine os_know 79 (.bool true) e79 (by simp [undef]) ?_
         refine os_know 88 (.bool true) e88 (by simp [undef]) ?_
         refine os_rv (r_pt (v := .bool _) rfl rfl) ⟨Same.refl _ _, ?_, frsh_no⟩
         exact rfl
        | 12, _, hoq =>
         obtain rfl : _ = o := Option.some.inj hoq
         have hs0 := hs
         replace hB := hB.tr0 hs
         replace hb4 := hb4.tr0 hs
         replace hb5 := hb5.tr0 hs
         replace hb6 := hb6.tr0 hs
         replace hb7 := hb7.tr0 hs
         replace hb10 := hb10.tr0 hs
         replace hb12 := hb12.tr0 hs
         replace hb14 := hb14.tr0 hs
         replace hb16 := hb16.tr0 hs
         replace hb18 := hb18.tr0 hs
         replace hb20 := hb20.tr0 hs
         clear hs
         have d11 : gg 89 = .bool true := hd 11 (dep_of (by kernel_rfl))
         have e89 := d11
         refine ⟨fun _ => ?_, fun hw => Bool.noConfusion (show true = false from hw)⟩
         refine os_know 89 (.bool true) e89 (by simp [undef]) ?_
         refine os_rv (r_mv (v := .bool _) rfl) ⟨Same.refl _ _, ?_, frsh_no⟩
         exact rfl
        | 13, _, hoq =>
         obtain rfl : _ = o := Option.some.inj hoq
         have hs0 := hs
         replace hB := hB.tr0 hs
         replace hb4 := hb4.tr0 hs
         replace hb5 := hb5.tr0 hs
         replace hb6 := hb6.tr0 hs
         replace hb7 := hb7.tr0 hs
         replace hb10 := hb10.tr0 hs
         replace hb12 := hb12.tr0 hs
         replace hb14 := hb14.tr0 hs
         replace hb16 := hb16.tr0 hs
         replace hb18 := hb18.tr0 hs
         replace hb20 := hb20.tr0 hs
         clear hs
         have d12 : gg 90 = .bool true := hd 12 (dep_of (by kernel_rfl))
         have e90 := d12
         refine guard_case 90 true rfl e90 (fun _ => ?_) (fun h => absurd h (by decide))
         refine os_know 90 (.bool true) e90 (by simp [undef]) ?_
         refine os_rv (r_mv (v := .bool _) rfl) ⟨Same.refl _ _, ?_, frsh_no⟩
         exact rfl
        | 14, _, hoq =>
         obtain rfl : _ = o := Option.some.inj hoq
         have hs0 := hs
         replace hB := hB.tr0 hs
         replace hb4 := hb4.tr0 hs
         replace hb5 := hb5.tr0 hs
         replace hb6 := hb6.tr0 hs
         replace hb7 := hb7.tr0 hs
         replace hb10 := hb10.tr0 hs
         replace hb12 := hb12.tr0 hs
         replace hb14 := hb14.tr0 hs
         replace hb16 := hb16.tr0 hs
         replace hb18 := hb18.tr0 hs
         replace hb20 := hb20.tr0 hs
         clear hs
         have d12 : gg 90 = .bool true := hd 12 (dep_of (by kernel_rfl))
         have e90 := d12
         have d13 : gg 91 = .bool true := hd 13 (dep_of (by kernel_rfl))
         have e91 := d13
         refine guard_case 90 true rfl e90 (fun _ => ?_) (fun h => absurd h (by decide))
         refine os_know 90 (.bool true) e90 (by simp [undef]) ?_
         refine os_know 91 (.bool true) e91 (by simp [undef]) ?_
         refine os_rv (r_mv (v := .bool _) rfl) ⟨Same.refl _ _, ?_, frsh_no⟩
         exact rfl
        | 15, _, hoq =>
         obtain rfl : _ = o := Option.some.inj hoq
         have hs0 := hs
         replace hB := hB.tr0 hs
         replace hb4 := hb4.tr0 hs
         replace hb5 := hb5.tr0 hs
         replace hb6 := hb6.tr0 hs
         replace hb7 := hb7.tr0 hs
         replace hb10 := hb10.tr0 hs
         replace hb12 := hb12.tr0 hs
         replace hb14 := hb14.tr0 hs
         replace hb16 := hb16.tr0 hs
         replace hb18 := hb18.tr0 hs
         replace hb20 := hb20.tr0 hs
         clear hs
         have d14 : gg 92 = .bool true := hd 14 (dep_of (by kernel_rfl))
         have e92 := d14
         refine guard_case 92 true rfl e92 (fun _ => ?_) (fun h => absurd h (by decide))
         refine os_know 92 (.bool true) e92 (by simp [undef]) ?_
         refine os_rv (r_mv (v := .bool _) rfl) ⟨Same.refl _ _, ?_, frsh_no⟩
         exact rfl
        | 16, _, hoq =>
         obtain rfl : _ = o := Option.some.inj hoq
         have hs0 := hs
         replace hB := hB.tr0 hs
         replace hb4 := hb4.tr0 hs
         replace hb5 := hb5.tr0 hs
         replace hb6 := hb6.tr0 hs
         replace hb7 := hb7.tr0 hs
         replace hb10 := hb10.tr0 hs
         replace hb12 := hb12.tr0 hs
         replace hb14 := hb14.tr0 hs
         replace hb16 := hb16.tr0 hs
         replace hb18 := hb18.tr0 hs
         replace hb20 := hb20.tr0 hs
         clear hs
         have d12 : gg 90 = .bool true := hd 12 (dep_of (by kernel_rfl))
         have e90 := d12
         have d14 : gg 92 = .bool true := hd 14 (dep_of (by kernel_rfl))
         have e92 := d14
         have d15 : gg 93 = .bool true := hd 15 (dep_of (by kernel_rfl))
         have e93 := d15
         refine guard_case 90 true rfl e90 (fun _ => ?_) (fun h => absurd h (by decide))
         refine os_know 90 (.bool true) e90 (by simp [undef]) ?_
         refine os_know 92 (.bool true) e92 (by simp [undef]) ?_
         refine os_know 93 (.bool true) e93 (by simp [undef]) ?_
         refine os_rv (r_pt (v := .bool _) rfl rfl) ⟨Same.refl _ _, ?_, frsh_no⟩
         exact rfl
        | 17, _, hoq =>
         obtain rfl : _ = o := Option.some.inj hoq
         have hs0 := hs
         replace hB := hB.tr0 hs
         replace hb4 := hb4.tr0 hs
         replace hb5 := hb5.tr0 hs
         replace hb6 := hb6.tr0 hs
         replace hb7 := hb7.tr0 hs
         replace hb10 := hb10.tr0 hs
         replace hb12 := hb12.tr0 hs
         replace hb14 := hb14.tr0 hs
         replace hb16 := hb16.tr0 hs
         replace hb18 := hb18.tr0 hs
         replace hb20 := hb20.tr0 hs
         clear hs
         have d12 : gg 90 = .bool true := hd 12 (dep_of (by kernel_rfl))
         have e90 := d12
         refine guard_case 90 true rfl e90 (fun _ => ?_) (fun h => absurd h (by decide))
         refine os_know 90 (.bool true) e90 (by simp [undef]) ?_
         refine os_rv (r_ldS Tryd.underlying28 rfl rfl hb5.range0 sz28_GTgt) ⟨Same.refl _ _, ?_, frsh_no⟩
         exact rfl
        | 18, _, hoq =>
         obtain rfl : _ = o := Option.some.inj hoq
         have hs0 := hs
         replace hB := hB.tr0 hs
         replace hb4 := hb4.tr0 hs
         replace hb5 := hb5.tr0 hs
         replace hb6 := hb6.tr0 hs
         replace hb7 := hb7.tr0 hs
         replace hb10 := hb10.tr0 hs
         replace hb12 := hb12.tr0 hs
         replace hb14 := hb14.tr0 hs
         replace hb16 := hb16.tr0 hs
         replace hb18 := hb18.tr0 hs
         replace hb20 := hb20.tr0 hs
         clear hs
         have d12 : gg 90 = .bool true := hd 12 (dep_of (by kernel_rfl))
         have e90 := d12
         have d17 : gg 95 = .agg #[.slice G1 ga.length c1] := hd 17 (dep_of (by kernel_rfl))
         have e95 := d17
         refine guard_case 90 true rfl e90 (fun _ => ?_) (fun h => absurd h (by decide))
         refine os_know 90 (.bool true) e90 (by simp [undef]) ?_
         refine os_know 95 (.agg #[.slice G1 ga.length c1]) e95 (by simp [undef]) ?_
         refine os_cl fn23 (rcan_any G1 _ c1 l fs ga wx (hG1.mono hB) rfl hga0) rfl (fun e' w2 hr => ?_)
         obtain ⟨⟨AR, cR, rfl, hNR⟩, hs⟩ := hr
         exact ⟨_, rfl, Same.of_bel hs, ⟨_, _, rfl, hNR _ (FrSame.refl _ _)⟩, frsh_no⟩
        | 19, _, hoq =>
         obtain rfl : _ = o := Option.some.inj hoq
         have hs0 := hs
         replace hB := hB.tr0 hs
         replace hb4 := hb4.tr0 hs
         replace hb5 := hb5.tr0 hs
         replace hb6 := hb6.tr0 hs
         replace hb7 := hb7.tr0 hs
         replace hb10 := hb10.tr0 hs
         replace hb12 := hb12.tr0 hs
         replace hb14 := hb14.tr0 hs
         replace hb16 := hb16.tr0 hs
         replace hb18 := hb18.tr0 hs
         replace hb20 := hb20.tr0 hs
         clear hs
         have d12 : gg 90 = .bool true := hd 12 (dep_of (by kernel_rfl))
         have e90 := d12
         refine guard_case 90 true rfl e90 (fun _ => ?_) (fun h => absurd h (by decide))
         refine os_know 90 (.bool true) e90 (by simp [undef]) ?_
         refine os_rv (r_ldS Tryd.underlying28 rfl rfl hb6.range0 sz28_GTgt) ⟨Same.refl _ _, ?_, frsh_no⟩
         exact rfl
        | 20, _, hoq =>
         obtain rfl : _ = o := Option.some.inj hoq
         have hs0 := hs
         replace hB := hB.tr0 hs
         replace hb4 := hb4.tr0 hs
         replace hb5 := hb5.tr0 hs
         replace hb6 := hb6.tr0 hs
         replace hb7 := hb7.tr0 hs
         replace hb10 := hb10.tr0 hs
         replace hb12 := hb12.tr0 hs
         replace hb14 := hb14.tr0 hs
         replace hb16 := hb16.tr0 hs
         replace hb18 := hb18.tr0 hs
         replace hb20 := hb20.tr0 hs
         clear hs
         have d12 : gg 90 = .bool true := hd 12 (dep_of (by kernel_rfl))
         have e90 := d12
         have d19 : gg 97 = .agg #[.slice G2 gb.length c2] := hd 19 (dep_of (by kernel_rfl))
         have e97 := d19
         refine guard_case 90 true rfl e90 (fun _ => ?_) (fun h => absurd h (by decide))
         refine os_know 90 (.bool true) e90 (by simp [undef]) ?_
         refine os_know 97 (.agg #[.slice G2 gb.length c2]) e97 (by simp [undef]) ?_
         refine os_cl fn23 (rcan_any G2 _ c2 l fs gb wx (hG2.mono hB) rfl hgb0) rfl (fun e' w2 hr => ?_)
         obtain ⟨⟨AR, cR, rfl, hNR⟩, hs⟩ := hr
         exact ⟨_, rfl, Same.of_bel hs, ⟨_, _, rfl, hNR _ (FrSame.refl _ _)⟩, frsh_no⟩
        | 21, _, hoq =>
         obtain rfl : _ = o := Option.some.inj hoq
         have hs0 := hs
         replace hB := hB.tr0 hs
         replace hb4 := hb4.tr0 hs
         replace hb5 := hb5.tr0 hs
         replace hb6 := hb6.tr0 hs
         replace hb7 := hb7.tr0 hs
         replace hb10 := hb10.tr0 hs
         replace hb12 := hb12.tr0 hs
         replace hb14 := hb14.tr0 hs
         replace hb16 := hb16.tr0 hs
         replace hb18 := hb18.tr0 hs
         replace hb20 := hb20.tr0 hs
         clear hs
         have d12 : gg 90 = .bool true := hd 12 (dep_of (by kernel_rfl))
         have e90 := d12
         have d18 : ∃ AR c, gg 96 = .agg #[.slice AR (canF l fs ga).length c] ∧ NodesIn wx AR (canF l fs ga) := hd 18 (dep_of (by kernel_rfl))
         obtain ⟨AR96, cR96, e96, hNR96⟩ := d18
         have d20 : ∃ AR c, gg 98 = .agg #[.slice AR (canF l fs gb).length c] ∧ NodesIn wx AR (canF l fs gb) := hd 20 (dep_of (by kernel_rfl))
         obtain ⟨AR98, cR98, e98, hNR98⟩ := d20
         refine guard_case 90 true rfl e90 (fun _ => ?_) (fun h => absurd h (by decide))
         refine os_know 90 (.bool true) e90 (by simp [undef]) ?_
         refine os_know 96 (.agg #[.slice AR96 (canF l fs ga).length cR96]) e96 (by simp [undef]) ?_
         refine os_know 98 (.agg #[.slice AR98 (canF l fs gb).length cR98]) e98 (by simp [undef]) ?_
         refine os_cl fn13 (nodesb_any AR96 AR98 _ _ cR96 cR98 _ _ true wx hNR96 hNR98 rfl rfl hcd) rfl (fun e' w2 hr => ?_)
         obtain ⟨rfl, hs⟩ := hr
         exact ⟨_, rfl, Same.of_bel hs, rfl, frsh_no⟩
        | 22, _, hoq =>
         obtain rfl : _ = o := Option.some.inj hoq
         have hs0 := hs
         replace hB := hB.tr0 hs
         replace hb4 := hb4.tr0 hs
         replace hb5 := hb5.tr0 hs
         replace hb6 := hb6.tr0 hs
         replace hb7 := hb7.tr0 hs
         replace hb10 := hb10.tr0 hs
         replace hb12 := hb12.tr0 hs
         replace hb14 := hb14.tr0 hs
         replace hb16 := hb16.tr0 hs
         replace hb18 := hb18.tr0 hs
         replace hb20 := hb20.tr0 hs
         clear hs
         have d12 : gg 90 = .bool true := hd 12 (dep_of (by kernel_rfl))
         have e90 := d12
         have d16 : gg 94 = .bool true := hd 16 (dep_of (by kernel_rfl))
         have e94 := d16
         have d21 : gg 99 = .bool true := hd 21 (dep_of (by kernel_rfl))
         have e99 := d21
         refine guard_case 90 true rfl e90 (fun _ => ?_) (fun h => absurd h (by decide))
         refine os_know 90 (.bool true) e90 (by simp [undef]) ?_
         refine os_know 94 (.bool true) e94 (by simp [undef]) ?_
         refine os_know 99 (.bool true) e99 (by simp [undef]) ?_
         refine os_rv (r_eqlB Tryd.underlying4 rfl rfl) ⟨Same.refl _ _, ?_, frsh_no⟩
         exact rfl
        | 23, _, hoq =>
         obtain rfl : _ = o := Option.some.inj hoq
         have hs0 := hs
         replace hB := hB.tr0 hs
         replace hb4 := hb4.tr0 hs
         replace hb5 := hb5.tr0 hs
         replace hb6 := hb6.tr0 hs
         replace hb7 := hb7.tr0 hs
         replace hb10 := hb10.tr0 hs
         replace hb12 := hb12.tr0 hs
         replace hb14 := hb14.tr0 hs
         replace hb16 := hb16.tr0 hs
         replace hb18 := hb18.tr0 hs
         replace hb20 := hb20.tr0 hs
         clear hs
         have d12 : gg 90 = .bool true := hd 12 (dep_of (by kernel_rfl))
         have e90 := d12
         have d22 : gg 100 = .bool true := hd 22 (dep_of (by kernel_rfl))
         have e100 := d22
         refine ⟨fun _ => ?_, fun hw => Bool.noConfusion (show true = false from hw)⟩
         refine os_know 90 (.bool true) e90 (by simp [undef]) ?_
         refine os_know 100 (.bool true) e100 (by simp [undef]) ?_
         refine os_rv (r_pt (v := .bool _) rfl rfl) ⟨Same.refl _ _, ?_, frsh_no⟩
         exact rfl
        | 24, _, hoq =>
         obtain rfl : _ = o := Option.some.inj hoq
         have hs0 := hs
         replace hB := hB.tr0 hs
         replace hb4 := hb4.tr0 hs
         replace hb5 := hb5.tr0 hs
         replace hb6 := hb6.tr0 hs
         replace hb7 := hb7.tr0 hs
         replace hb10 := hb10.tr0 hs
         replace hb12 := hb12.tr0 hs
         replace hb14 := hb14.tr0 hs
         replace hb16 := hb16.tr0 hs
         replace hb18 := hb18.tr0 hs
         replace hb20 := hb20.tr0 hs
         clear hs
         have d23 : gg 101 = .bool true := hd 23 (dep_of (by kernel_rfl))
         have e101 := d23
         refine ⟨fun _ => ?_, fun hw => Bool.noConfusion (show true = false from hw)⟩
         refine os_know 101 (.bool true) e101 (by simp [undef]) ?_
         refine os_rv (r_as (v := .bool _) rfl) ⟨Same.refl _ _, ?_, frsh_no⟩
         exact rfl
        | _ + 25, hix, _ => exact absurd hix (by omega)
       ·
        intro gg w28 hs hR hdis
        have hs0 := hs
        replace hB := hB.tr0 hs
        replace hb4 := hb4.tr0 hs
        replace hb5 := hb5.tr0 hs
        replace hb6 := hb6.tr0 hs
        replace hb7 := hb7.tr0 hs
        replace hb10 := hb10.tr0 hs
        replace hb12 := hb12.tr0 hs
        replace hb14 := hb14.tr0 hs
        replace hb16 := hb16.tr0 hs
        replace hb18 := hb18.tr0 hs
        replace hb20 := hb20.tr0 hs
        clear hs
        have d24 : gg 8 = .bool true := hR 24 (by decide)
        have e8 := d24
        refine wl_know 8 (.bool true) e8 (by simp [undef]) ?_
        refine x_nil ?_
        refine e_S ?_
        refine c_ret ?_
        refine fin1 (.inl rfl) rfl rfl ?_
        exact ⟨rfl, hB⟩
      ·
       refine c_know 15 (.bool false) (congrArg Value.bool hba) (by simp [undef]) ?_
       have haa : subB l fs ga ga = true := (subB_iff hga0 hga0).2 ⟨_, Hom.refl hva.gx⟩
       have hac : subB l fs ga gc = true := (subB_iff hga0 hgc0).2 (((subB_iff hga0 hgb0).1 hab).comp hva.s.vt ((subB_iff hgb0 hgc0).1 hbc))
       have hcd : decide (canF l fs ga = canF l fs gb) = false := decide_eq_false (fun h => by have := ((can_dec hga0 hgb0).1 h).2; rw [hba] at this; cases this)
       refine c_monoGO 25 [78, 79, 80, 81, 82, 83, 84, 85, 86, 87, 88, 89, 90, 91, 92, 93, 94, 95, 96, 97, 98, 99, 100, 101, 8] (fun _ => false) (fun ix v wv => match ix with | 0 => v = .bool true | 1 => v = .bool true | 2 => v = .bool true | 3 => v = .bool false | 4 => v = .bool false | 5 => v = .bool true | 6 => v = .bool false | 7 => v = .bool false | 8 => v = .bool false | 9 => v = .bool true | 10 => v = .bool true | 11 => v = .bool true | 12 => v = .bool true | 13 => v = .bool true | 14 => v = .bool true | 15 => v = .bool false | 16 => v = .bool false | 17 => v = .agg #[.slice G1 ga.length c1] | 18 => ∃ AR c, v = .agg #[.slice AR (canF l fs ga).length c] ∧ NodesIn wv AR (canF l fs ga) | 19 => v = .agg #[.slice G2 gb.length c2] | 20 => ∃ AR c, v = .agg #[.slice AR (canF l fs gb).length c] ∧ NodesIn wv AR (canF l fs gb) | 21 => v = .bool false | 22 => v = .bool true | 23 => v = .bool true | 24 => v = .bool true | _ => True) (by kernel_rfl) (by kernel_rfl) ?_ ?_ ?_
       ·
        intro ix v wv wv2 h hs
        match ix, h with
        | 0, h => exact h
        | 1, h => exact h
        | 2, h => exact h
        | 3, h => exact h
        | 4, h => exact h
        | 5, h => exact h
        | 6, h => exact h
        | 7, h => exact h
        | 8, h => exact h
        | 9, h => exact h
        | 10, h => exact h
        | 11, h => exact h
        | 12, h => exact h
        | 13, h => exact h
        | 14, h => exact h
        | 15, h => exact h
        | 16, h => exact h
        | 17, h => exact h
        | 18, h =>
         obtain ⟨AR96, cR96, e96, hNR96⟩ := (show ∃ AR c, v = .agg #[.slice AR (canF l fs ga).length c] ∧ NodesIn wv AR (canF l fs ga) from h)
         exact ⟨AR96, cR96, e96, hNR96.mono hs.bel⟩
        | 19, h => exact h
        | 20, h =>
         obtain ⟨AR98, cR98, e98, hNR98⟩ := (show ∃ AR c, v = .agg #[.slice AR (canF l fs gb).length c] ∧ NodesIn wv AR (canF l fs gb) from h)
         exact ⟨AR98, cR98, e98, hNR98.mono hs.bel⟩
        | 21, h => exact h
        | 22, h => exact h
        | 23, h => exact h
        | 24, h => exact h
        | _ + 25, h => exact trivial
       ·
        intro ix o hix hoq gg wx hs hd hdis
        match ix, hix, hoq with
        | 0, _, hoq =>
         obtain rfl : _ = o := Option.some.inj hoq
         have hs0 := hs
         replace hB := hB.tr0 hs
         replace hb4 := hb4.tr0 hs
         replace hb5 := hb5.tr0 hs
         replace hb6 := hb6.tr0 hs
         replace hb7 := hb7.tr0 hs
         replace hb10 := hb10.tr0 hs
         replace hb12 := hb12.tr0 hs
         replace hb14 := hb14.tr0 hs
         replace hb16 := hb16.tr0 hs
         replace hb18 := hb18.tr0 hs
         replace hb20 := hb20.tr0 hs
         clear hs
         refine ⟨fun _ => ?_, fun hw => Bool.noConfusion (show true = false from hw)⟩
         refine os_rv (r_mv (v := .bool _) rfl) ⟨Same.refl _ _, ?_, frsh_no⟩
         exact (congrArg Value.bool haa)
        | 1, _, hoq =>
         obtain rfl : _ = o := Option.some.inj hoq
         have hs0 := hs
         replace hB := hB.tr0 hs
         replace hb4 := hb4.tr0 hs
         replace hb5 := hb5.tr0 hs
         replace hb6 := hb6.tr0 hs
         replace hb7 := hb7.tr0 hs
         replace hb10 := hb10.tr0 hs
         replace hb12 := hb12.tr0 hs
         replace hb14 := hb14.tr0 hs
         replace hb16 := hb16.tr0 hs
         replace hb18 := hb18.tr0 hs
         replace hb20 := hb20.tr0 hs
         clear hs
         have d0 : gg 78 = .bool true := hd 0 (dep_of (by kernel_rfl))
         have e78 := d0
         refine ⟨fun _ => ?_, fun hw => Bool.noConfusion (show true = false from hw)⟩
         refine os_know 78 (.bool true) e78 (by simp [undef]) ?_
         refine os_rv (r_mv (v := .bool _) rfl) ⟨Same.refl _ _, ?_, frsh_no⟩
         exact rfl
        | 2, _, hoq =>
         obtain rfl : _ = o := Option.some.inj hoq
         have hs0 := hs
         replace hB := hB.tr0 hs
         replace hb4 := hb4.tr0 hs
         replace hb5 := hb5.tr0 hs
         replace hb6 := hb6.tr0 hs
         replace hb7 := hb7.tr0 hs
         replace hb10 := hb10.tr0 hs
         replace hb12 := hb12.tr0 hs
         replace hb14 := hb14.tr0 hs
         replace hb16 := hb16.tr0 hs
         replace hb18 := hb18.tr0 hs
         replace hb20 := hb20.tr0 hs
         clear hs
         have d1 : gg 79 = .bool true := hd 1 (dep_of (by kernel_rfl))
         have e79 := d1
         refine guard_case 79 true rfl e79 (fun _ => ?_) (fun h => absurd h (by decide))
         refine os_know 79 (.bool true) e79 (by simp [undef]) ?_
         refine os_rv (r_mv (v := .bool _) rfl) ⟨Same.refl _ _, ?_, frsh_no⟩
         exact rfl
        | 3, _, hoq =>
         obtain rfl : _ = o := Option.some.inj hoq
         have hs0 := hs
         replace hB := hB.tr0 hs
         replace hb4 := hb4.tr0 hs
         replace hb5 := hb5.tr0 hs
         replace hb6 := hb6.tr0 hs
         replace hb7 := hb7.tr0 hs
         replace hb10 := hb10.tr0 hs
         replace hb12 := hb12.tr0 hs
         replace hb14 := hb14.tr0 hs
         replace hb16 := hb16.tr0 hs
         replace hb18 := hb18.tr0 hs
         replace hb20 := hb20.tr0 hs
         clear hs
         have d1 : gg 79 = .bool true := hd 1 (dep_of (by kernel_rfl))
         have e79 := d1
         have d2 : gg 80 = .bool true := hd 2 (dep_of (by kernel_rfl))
         have e80 := d2
         refine guard_case 79 true rfl e79 (fun _ => ?_) (fun h => absurd h (by decide))
         refine os_know 79 (.bool true) e79 (by simp [undef]) ?_
         refine os_know 80 (.bool true) e80 (by simp [undef]) ?_
         refine os_rv (r_not rfl) ⟨Same.refl _ _, ?_, frsh_no⟩
         exact rfl
        | 4, _, hoq =>
         obtain rfl : _ = o := Option.some.inj hoq
         have hs0 := hs
         replace hB := hB.tr0 hs
         replace hb4 := hb4.tr0 hs
         replace hb5 := hb5.tr0 hs
         replace hb6 := hb6.tr0 hs
         replace hb7 := hb7.tr0 hs
         replace hb10 := hb10.tr0 hs
         replace hb12 := hb12.tr0 hs
         replace hb14 := hb14.tr0 hs
         replace hb16 := hb16.tr0 hs
         replace hb18 := hb18.tr0 hs
         replace hb20 := hb20.tr0 hs
         clear hs
         have d1 : gg 79 = .bool true := hd 1 (dep_of (by kernel_rfl))
         have e79 := d1
         have d3 : gg 81 = .bool false := hd 3 (dep_of (by kernel_rfl))
         have e81 := d3
         refine guard_case 79 true rfl e79 (fun _ => ?_) (fun h => absurd h (by decide))
         refine os_know 79 (.bool true) e79 (by simp [undef]) ?_
         refine os_know 81 (.bool false) e81 (by simp [undef]) ?_
         refine os_rv (r_mv (v := .bool _) rfl) ⟨Same.refl _ _, ?_, frsh_no⟩
         exact rfl
        | 5, _, hoq =>
         obtain rfl : _ = o := Option.some.inj hoq
         have hs0 := hs
         replace hB := hB.tr0 hs
         replace hb4 := hb4.tr0 hs
         replace hb5 := hb5.tr0 hs
         replace hb6 := hb6.tr0 hs
         replace hb7 := hb7.tr0 hs
         replace hb10 := hb10.tr0 hs
         replace hb12 := hb12.tr0 hs
         replace hb14 := hb14.tr0 hs
         replace hb16 := hb16.tr0 hs
         replace hb18 := hb18.tr0 hs
         replace hb20 := hb20.tr0 hs
         clear hs
         have d4 : gg 82 = .bool false := hd 4 (dep_of (by kernel_rfl))
         have e82 := d4
         refine guard_case 82 false rfl e82 (fun _ => ?_) (fun h => absurd h (by decide))
         refine os_know 82 (.bool false) e82 (by simp [undef]) ?_
         refine os_rv (r_mv (v := .bool _) rfl) ⟨Same.refl _ _, ?_, frsh_no⟩
         exact rfl
        | 6, _, hoq =>
         obtain rfl : _ = o := Option.some.inj hoq
         have hs0 := hs
         replace hB := hB.tr0 hs
         replace hb4 := hb4.tr0 hs
         replace hb5 := hb5.tr0 hs
         replace hb6 := hb6.tr0 hs
         replace hb7 := hb7.tr0 hs
         replace hb10 := hb10.tr0 hs
         replace hb12 := hb12.tr0 hs
         replace hb14 := hb14.tr0 hs
         replace hb16 := hb16.tr0 hs
         replace hb18 := hb18.tr0 hs
         replace hb20 := hb20.tr0 hs
         clear hs
         have d4 : gg 82 = .bool false := hd 4 (dep_of (by kernel_rfl))
         have e82 := d4
         have d5 : gg 83 = .bool true := hd 5 (dep_of (by kernel_rfl))
         have e83 := d5
         refine guard_case 82 false rfl e82 (fun _ => ?_) (fun h => absurd h (by decide))
         refine os_know 82 (.bool false) e82 (by simp [undef]) ?_
         refine os_know 83 (.bool true) e83 (by simp [undef]) ?_
         refine os_rv (r_not rfl) ⟨Same.refl _ _, ?_, frsh_no⟩
         exact rfl
        | 7, _, hoq =>
         obtain rfl : _ = o := Option.some.inj hoq
         have hs0 := hs
         replace hB := hB.tr0 hs
         replace hb4 := hb4.tr0 hs
         replace hb5 := hb5.tr0 hs
         replace hb6 := hb6.tr0 hs
         replace hb7 := hb7.tr0 hs
         replace hb10 := hb10.tr0 hs
         replace hb12 := hb12.tr0 hs
         replace hb14 := hb14.tr0 hs
         replace hb16 := hb16.tr0 hs
         replace hb18 := hb18.tr0 hs
         replace hb20 := hb20.tr0 hs
         clear hs
         have d1 : gg 79 = .bool true := hd 1 (dep_of (by kernel_rfl))
         have e79 := d1
         have d4 : gg 82 = .bool false := hd 4 (dep_of (by kernel_rfl))
         have e82 := d4
         have d6 : gg 84 = .bool false := hd 6 (dep_of (by kernel_rfl))
         have e84 := d6
         refine guard_case 79 true rfl e79 (fun _ => ?_) (fun h => absurd h (by decide))
         refine os_know 79 (.bool true) e79 (by simp [undef]) ?_
         refine os_know 82 (.bool false) e82 (by simp [undef]) ?_
         refine os_know 84 (.bool false) e84 (by simp [undef]) ?_
         refine os_rv (r_pf (v := .bool _) rfl rfl) ⟨Same.refl _ _, ?_, frsh_no⟩
         exact rfl
        | 8, _, hoq =>
         obtain rfl : _ = o := Option.some.inj hoq
         have hs0 := hs
         replace hB := hB.tr0 hs
         replace hb4 := hb4.tr0 hs
         replace hb5 := hb5.tr0 hs
         replace hb6 := hb6.tr0 hs
         replace hb7 := hb7.tr0 hs
         replace hb10 := hb10.tr0 hs
         replace hb12 := hb12.tr0 hs
         replace hb14 := hb14.tr0 hs
         replace hb16 := hb16.tr0 hs
         replace hb18 := hb18.tr0 hs
         replace hb20 := hb20.tr0 hs
         clear hs
         have d1 : gg 79 = .bool true := hd 1 (dep_of (by kernel_rfl))
         have e79 := d1
         have d7 : gg 85 = .bool false := hd 7 (dep_of (by kernel_rfl))
         have e85 := d7
         refine guard_case 79 true rfl e79 (fun _ => ?_) (fun h => absurd h (by decide))
         refine os_know 79 (.bool true) e79 (by simp [undef]) ?_
         refine os_know 85 (.bool false) e85 (by simp [undef]) ?_
         refine os_rv (r_mv (v := .bool _) rfl) ⟨Same.refl _ _, ?_, frsh_no⟩
         exact rfl
        | 9, _, hoq =>
         obtain rfl : _ = o := Option.some.inj hoq
         have hs0 := hs
         replace hB := hB.tr0 hs
         replace hb4 := hb4.tr0 hs
         replace hb5 := hb5.tr0 hs
         replace hb6 := hb6.tr0 hs
         replace hb7 := hb7.tr0 hs
         replace hb10 := hb10.tr0 hs
         replace hb12 := hb12.tr0 hs
         replace hb14 := hb14.tr0 hs
         replace hb16 := hb16.tr0 hs
         replace hb18 := hb18.tr0 hs
         replace hb20 := hb20.tr0 hs
         clear hs
         have d8 : gg 86 = .bool false := hd 8 (dep_of (by kernel_rfl))
         have e86 := d8
         refine guard_case 86 false rfl e86 (fun _ => ?_) (fun h => absurd h (by decide))
         refine os_know 86 (.bool false) e86 (by simp [undef]) ?_
         refine os_rv (r_mv (v := .bool _) rfl) ⟨Same.refl _ _, ?_, frsh_no⟩
         exact (congrArg Value.bool hac)
        | 10, _, hoq =>
         obtain rfl : _ = o := Option.some.inj hoq
         have hs0 := hs
         replace hB := hB.tr0 hs
         replace hb4 := hb4.tr0 hs
         replace hb5 := hb5.tr0 hs
         replace hb6 := hb6.tr0 hs
         replace hb7 := hb7.tr0 hs
         replace hb10 := hb10.tr0 hs
         replace hb12 := hb12.tr0 hs
         replace hb14 := hb14.tr0 hs
         replace hb16 := hb16.tr0 hs
         replace hb18 := hb18.tr0 hs
         replace hb20 := hb20.tr0 hs
         clear hs
         have d1 : gg 79 = .bool true := hd 1 (dep_of (by kernel_rfl))
         have e79 := d1
         have d8 : gg 86 = .bool false := hd 8 (dep_of (by kernel_rfl))
         have e86 := d8
         have d9 : gg 87 = .bool true := hd 9 (dep_of (by kernel_rfl))
         have e87 := d9
         refine guard_case 79 true rfl e79 (fun _ => ?_) (fun h => absurd h (by decide))
         refine os_know 79 (.bool true) e79 (by simp [undef]) ?_
         refine os_know 86 (.bool false) e86 (by simp [undef]) ?_
         refine os_know 87 (.bool true) e87 (by simp [undef]) ?_
         refine os_rv (r_pf (v := .bool _) rfl rfl) ⟨Same.refl _ _, ?_, frsh_no⟩
         exact rfl
        | 11, _, hoq =>
         obtain rfl : _ = o := Option.some.inj hoq
         have hs0 := hs
         replace hB := hB.tr0 hs
         replace hb4 := hb4.tr0 hs
         replace hb5 := hb5.tr0 hs
         replace hb6 := hb6.tr0 hs
         replace hb7 := hb7.tr0 hs
         replace hb10 := hb10.tr0 hs
         replace hb12 := hb12.tr0 hs
         replace hb14 := hb14.tr0 hs
         replace hb16 := hb16.tr0 hs
         replace hb18 := hb18.tr0 hs
         replace hb20 := hb20.tr0 hs
         clear hs
         have d1 : gg 79 = .bool true := hd 1 (dep_of (by kernel_rfl))
         have e79 := d1
         have d10 : gg 88 = .bool true := hd 10 (dep_of (by kernel_rfl))
         have e88 := d10
         refine ⟨fun _ => ?_, fun hw => Bool.noConfusion (show true = false from hw)⟩
         refine os_know 79 (.bool true) e79 (by simp [undef]) ?_
         refine os_know 88 (.bool true) e88 (by simp [undef]) ?_
         refine os_rv (r_pt (v := .bool _) rfl rfl) ⟨Same.refl _ _, ?_, frsh_no⟩
         exact rfl
        | 12, _, hoq =>
         obtain rfl : _ = o := Option.some.inj hoq
         have hs0 := hs
         replace hB := hB.tr0 hs
         replace hb4 := hb4.tr0 hs
         replace hb5 := hb5.tr0 hs
         replace hb6 := hb6.tr0 hs
         replace hb7 := hb7.tr0 hs
         replace hb10 := hb10.tr0 hs
         replace hb12 := hb12.tr0 hs
         replace hb14 := hb14.tr0 hs
         replace hb16 := hb16.tr0 hs
         replace hb18 := hb18.tr0 hs
         replace hb20 := hb20.tr0 hs
         clear hs
         have d11 : gg 89 = .bool true := hd 11 (dep_of (by kernel_rfl))
         have e89 := d11
         refine ⟨fun _ => ?_, fun hw => Bool.noConfusion (show true = false from hw)⟩
         refine os_know 89 (.bool true) e89 (by simp [undef]) ?_
         refine os_rv (r_mv (v := .bool _) rfl) ⟨Same.refl _ _, ?_, frsh_no⟩
         exact rfl
        | 13, _, hoq =>
         obtain rfl : _ = o := Option.some.inj hoq
         have hs0 := hs
         replace hB := hB.tr0 hs
         replace hb4 := hb4.tr0 hs
         replace hb5 := hb5.tr0 hs
         replace hb6 := hb6.tr0 hs
         replace hb7 := hb7.tr0 hs
         replace hb10 := hb10.tr0 hs
         replace hb12 := hb12.tr0 hs
         replace hb14 := hb14.tr0 hs
         replace hb16 := hb16.tr0 hs
         replace hb18 := hb18.tr0 hs
         replace hb20 := hb20.tr0 hs
         clear hs
         have d12 : gg 90 = .bool true := hd 12 (dep_of (by kernel_rfl))
         have e90 := d12
         refine guard_case 90 true rfl e90 (fun _ => ?_) (fun h => absurd h (by decide))
         refine os_know 90 (.bool true) e90 (by simp [undef]) ?_
         refine os_rv (r_mv (v := .bool _) rfl) ⟨Same.refl _ _, ?_, frsh_no⟩
         exact rfl
        | 14, _, hoq =>
         obtain rfl : _ = o := Option.some.inj hoq
         have hs0 := hs
         replace hB := hB.tr0 hs
         replace hb4 := hb4.tr0 hs
         replace hb5 := hb5.tr0 hs
         replace hb6 := hb6.tr0 hs
         replace hb7 := hb7.tr0 hs
         replace hb10 := hb10.tr0 hs
         replace hb12 := hb12.tr0 hs
         replace hb14 := hb14.tr0 hs
         replace hb16 := hb16.tr0 hs
         replace hb18 := hb18.tr0 hs
         replace hb20 := hb20.tr0 hs
         clear hs
         have d12 : gg 90 = .bool true := hd 12 (dep_of (by kernel_rfl))
         have e90 := d12
         have d13 : gg 91 = .bool true := hd 13 (dep_of (by kernel_rfl))
         have e91 := d13
         refine guard_case 90 true rfl e90 (fun _ => ?_) (fun h => absurd h (by decide))
         refine os_know 90 (.bool true) e90 (by simp [undef]) ?_
         refine os_know 91 (.bool true) e91 (by simp [undef]) ?_
         refine os_rv (r_mv (v := .bool _) rfl) ⟨Same.refl _ _, ?_, frsh_no⟩
         exact rfl
        | 15, _, hoq =>
         obtain rfl : _ = o := Option.some.inj hoq
         have hs0 := hs
         replace hB := hB.tr0 hs
         replace hb4 := hb4.tr0 hs
         replace hb5 := hb5.tr0 hs
         replace hb6 := hb6.tr0 hs
         replace hb7 := hb7.tr0 hs
         replace hb10 := hb10.tr0 hs
         replace hb12 := hb12.tr0 hs
         replace hb14 := hb14.tr0 hs
         replace hb16 := hb16.tr0 hs
         replace hb18 := hb18.tr0 hs
         replace hb20 := hb20.tr0 hs
         clear hs
         have d14 : gg 92 = .bool true := hd 14 (dep_of (by kernel_rfl))
         have e92 := d14
         refine guard_case 92 true rfl e92 (fun _ => ?_) (fun h => absurd h (by decide))
         refine os_know 92 (.bool true) e92 (by simp [undef]) ?_
         refine os_rv (r_mv (v := .bool _) rfl) ⟨Same.refl _ _, ?_, frsh_no⟩
         exact rfl
        | 16, _, hoq =>
         obtain rfl : _ = o := Option.some.inj hoq
         have hs0 := hs
         replace hB := hB.tr0 hs
         replace hb4 := hb4.tr0 hs
         replace hb5 := hb5.tr0 hs
         replace hb6 := hb6.tr0 hs
         replace hb7 := hb7.tr0 hs
         replace hb10 := hb10.tr0 hs
         replace hb12 := hb12.tr0 hs
         replace hb14 := hb14.tr0 hs
         replace hb16 := hb16.tr0 hs
         replace hb18 := hb18.tr0 hs
         replace hb20 := hb20.tr0 hs
         clear hs
         have d12 : gg 90 = .bool true := hd 12 (dep_of (by kernel_rfl))
         have e90 := d12
         have d14 : gg 92 = .bool true := hd 14 (dep_of (by kernel_rfl))
         have e92 := d14
         have d15 : gg 93 = .bool false := hd 15 (dep_of (by kernel_rfl))
         have e93 := d15
         refine guard_case 90 true rfl e90 (fun _ => ?_) (fun h => absurd h (by decide))
         refine os_know 90 (.bool true) e90 (by simp [undef]) ?_
         refine os_know 92 (.bool true) e92 (by simp [undef]) ?_
         refine os_know 93 (.bool false) e93 (by simp [undef]) ?_
         refine os_rv (r_pt (v := .bool _) rfl rfl) ⟨Same.refl _ _, ?_, frsh_no⟩
         exact rfl
        | 17, _, hoq =>
         obtain rfl : _ = o := Option.some.inj hoq
         have hs0 := hs
         replace hB := hB.tr0 hs
         replace hb4 := hb4.tr0 hs
         replace hb5 := hb5.tr0 hs
         replace hb6 := hb6.tr0 hs
         replace hb7 := hb7.tr0 hs
         replace hb10 := hb10.tr0 hs
         replace hb12 := hb12.tr0 hs
         replace hb14 := hb14.tr0 hs
         replace hb16 := hb16.tr0 hs
         replace hb18 := hb18.tr0 hs
         replace hb20 := hb20.tr0 hs
         clear hs
         have d12 : gg 90 = .bool true := hd 12 (dep_of (by kernel_rfl))
         have e90 := d12
         refine guard_case 90 true rfl e90 (fun _ => ?_) (fun h => absurd h (by decide))
         refine os_know 90 (.bool true) e90 (by simp [undef]) ?_
         refine os_rv (r_ldS Tryd.underlying28 rfl rfl hb5.range0 sz28_GTgt) ⟨Same.refl _ _, ?_, frsh_no⟩
         exact rfl
        | 18, _, hoq =>
         obtain rfl : _ = o := Option.some.inj hoq
         have hs0 := hs
         replace hB := hB.tr0 hs
         replace hb4 := hb4.tr0 hs
         replace hb5 := hb5.tr0 hs
         replace hb6 := hb6.tr0 hs
         replace hb7 := hb7.tr0 hs
         replace hb10 := hb10.tr0 hs
         replace hb12 := hb12.tr0 hs
         replace hb14 := hb14.tr0 hs
         replace hb16 := hb16.tr0 hs
         replace hb18 := hb18.tr0 hs
         replace hb20 := hb20.tr0 hs
         clear hs
         have d12 : gg 90 = .bool true := hd 12 (dep_of (by kernel_rfl))
         have e90 := d12
         have d17 : gg 95 = .agg #[.slice G1 ga.length c1] := hd 17 (dep_of (by kernel_rfl))
         have e95 := d17
         refine guard_case 90 true rfl e90 (fun _ => ?_) (fun h => absurd h (by decide))
         refine os_know 90 (.bool true) e90 (by simp [undef]) ?_
         refine os_know 95 (.agg #[.slice G1 ga.length c1]) e95 (by simp [undef]) ?_
         refine os_cl fn23 (rcan_any G1 _ c1 l fs ga wx (hG1.mono hB) rfl hga0) rfl (fun e' w2 hr => ?_)
         obtain ⟨⟨AR, cR, rfl, hNR⟩, hs⟩ := hr
         exact ⟨_, rfl, Same.of_bel hs, ⟨_, _, rfl, hNR _ (FrSame.refl _ _)⟩, frsh_no⟩
        | 19, _, hoq =>
         obtain rfl : _ = o := Option.some.inj hoq
         have hs0 := hs
         replace hB := hB.tr0 hs
         replace hb4 := hb4.tr0 hs
         replace hb5 := hb5.tr0 hs
         replace hb6 := hb6.tr0 hs
         replace hb7 := hb7.tr0 hs
         replace hb10 := hb10.tr0 hs
         replace hb12 := hb12.tr0 hs
         replace hb14 := hb14.tr0 hs
         replace hb16 := hb16.tr0 hs
         replace hb18 := hb18.tr0 hs
         replace hb20 := hb20.tr0 hs
         clear hs
         have d12 : gg 90 = .bool true := hd 12 (dep_of (by kernel_rfl))
         have e90 := d12
         refine guard_case 90 true rfl e90 (fun _ => ?_) (fun h => absurd h (by decide))
         refine os_know 90 (.bool true) e90 (by simp [undef]) ?_
         refine os_rv (r_ldS Tryd.underlying28 rfl rfl hb6.range0 sz28_GTgt) ⟨Same.refl _ _, ?_, frsh_no⟩
         exact rfl
        | 20, _, hoq =>
         obtain rfl : _ = o := Option.some.inj hoq
         have hs0 := hs
         replace hB := hB.tr0 hs
         replace hb4 := hb4.tr0 hs
         replace hb5 := hb5.tr0 hs
         replace hb6 := hb6.tr0 hs
         replace hb7 := hb7.tr0 hs
         replace hb10 := hb10.tr0 hs
         replace hb12 := hb12.tr0 hs
         replace hb14 := hb14.tr0 hs
         replace hb16 := hb16.tr0 hs
         replace hb18 := hb18.tr0 hs
         replace hb20 := hb20.tr0 hs
         clear hs
         have d12 : gg 90 = .bool true := hd 12 (dep_of (by kernel_rfl))
         have e90 := d12
         have d19 : gg 97 = .agg #[.slice G2 gb.length c2] := hd 19 (dep_of (by kernel_rfl))
         have e97 := d19
         refine guard_case 90 true rfl e90 (fun _ => ?_) (fun h => absurd h (by decide))
         refine os_know 90 (.bool true) e90 (by simp [undef]) ?_
         refine os_know 97 (.agg #[.slice G2 gb.length c2]) e97 (by simp [undef]) ?_
         refine os_cl fn23 (rcan_any G2 _ c2 l fs gb wx (hG2.mono hB) rfl hgb0) rfl (fun e' w2 hr => ?_)
         obtain ⟨⟨AR, cR, rfl, hNR⟩, hs⟩ := hr
         exact ⟨_, rfl, Same.of_bel hs, ⟨_, _, rfl, hNR _ (FrSame.refl _ _)⟩, frsh_no⟩
        | 21, _, hoq =>
         obtain rfl : _ = o := Option.some.inj hoq
         have hs0 := hs
         replace hB := hB.tr0 hs
         replace hb4 := hb4.tr0 hs
         replace hb5 := hb5.tr0 hs
         replace hb6 := hb6.tr0 hs
         replace hb7 := hb7.tr0 hs
         replace hb10 := hb10.tr0 hs
         replace hb12 := hb12.tr0 hs
         replace hb14 := hb14.tr0 hs
         replace hb16 := hb16.tr0 hs
         replace hb18 := hb18.tr0 hs
         replace hb20 := hb20.tr0 hs
         clear hs
         have d12 : gg 90 = .bool true := hd 12 (dep_of (by kernel_rfl))
         have e90 := d12
         have d18 : ∃ AR c, gg 96 = .agg #[.slice AR (canF l fs ga).length c] ∧ NodesIn wx AR (canF l fs ga) := hd 18 (dep_of (by kernel_rfl))
         obtain ⟨AR96, cR96, e96, hNR96⟩ := d18
         have d20 : ∃ AR c, gg 98 = .agg #[.slice AR (canF l fs gb).length c] ∧ NodesIn wx AR (canF l fs gb) := hd 20 (dep_of (by kernel_rfl))
         obtain ⟨AR98, cR98, e98, hNR98⟩ := d20
         refine guard_case 90 true rfl e90 (fun _ => ?_) (fun h => absurd h (by decide))
         refine os_know 90 (.bool true) e90 (by simp [undef]) ?_
         refine os_know 96 (.agg #[.slice AR96 (canF l fs ga).length cR96]) e96 (by simp [undef]) ?_
         refine os_know 98 (.agg #[.slice AR98 (canF l fs gb).length cR98]) e98 (by simp [undef]) ?_
         refine os_cl fn13 (nodesb_any AR96 AR98 _ _ cR96 cR98 _ _ false wx hNR96 hNR98 rfl rfl hcd) rfl (fun e' w2 hr => ?_)
         obtain ⟨rfl, hs⟩ := hr
         exact ⟨_, rfl, Same.of_bel hs, rfl, frsh_no⟩
        | 22, _, hoq =>
         obtain rfl : _ = o := Option.some.inj hoq
         have hs0 := hs
         replace hB := hB.tr0 hs
         replace hb4 := hb4.tr0 hs
         replace hb5 := hb5.tr0 hs
         replace hb6 := hb6.tr0 hs
         replace hb7 := hb7.tr0 hs
         replace hb10 := hb10.tr0 hs
         replace hb12 := hb12.tr0 hs
         replace hb14 := hb14.tr0 hs
         replace hb16 := hb16.tr0 hs
         replace hb18 := hb18.tr0 hs
         replace hb20 := hb20.tr0 hs
         clear hs
         have d12 : gg 90 = .bool true := hd 12 (dep_of (by kernel_rfl))
         have e90 := d12
         have d16 : gg 94 = .bool false := hd 16 (dep_of (by kernel_rfl))
         have e94 := d16
         have d21 : gg 99 = .bool false := hd 21 (dep_of (by kernel_rfl))
         have e99 := d21
         refine guard_case 90 true rfl e90 (fun _ => ?_) (fun h => absurd h (by decide))
         refine os_know 90 (.bool true) e90 (by simp [undef]) ?_
         refine os_know 94 (.bool false) e94 (by simp [undef]) ?_
         refine os_know 99 (.bool false) e99 (by simp [undef]) ?_
         refine os_rv (r_eqlB Tryd.underlying4 rfl rfl) ⟨Same.refl _ _, ?_, frsh_no⟩
         exact rfl
        | 23, _, hoq =>
         obtain rfl : _ = o := Option.some.inj hoq
         have hs0 := hs
         replace hB := hB.tr0 hs
         replace hb4 := hb4.tr0 hs
         replace hb5 := hb5.tr0 hs
         replace hb6 := hb6.tr0 hs
         replace hb7 := hb7.tr0 hs
         replace hb10 := hb10.tr0 hs
         replace hb12 := hb12.tr0 hs
         replace hb14 := hb14.tr0 hs
         replace hb16 := hb16.tr0 hs
         replace hb18 := hb18.tr0 hs
         replace hb20 := hb20.tr0 hs
         clear hs
         have d12 : gg 90 = .bool true := hd 12 (dep_of (by kernel_rfl))
         have e90 := d12
         have d22 : gg 100 = .bool true := hd 22 (dep_of (by kernel_rfl))
         have e100 := d22
         refine ⟨fun _ => ?_, fun hw => Bool.noConfusion (show true = false from hw)⟩
         refine os_know 90 (.bool true) e90 (by simp [undef]) ?_
         refine os_know 100 (.bool true) e100 (by simp [undef]) ?_
         refine os_rv (r_pt (v := .bool _) rfl rfl) ⟨Same.refl _ _, ?_, frsh_no⟩
         exact rfl
        | 24, _, hoq =>
         obtain rfl : _ = o := Option.some.inj hoq
         have hs0 := hs
         replace hB := hB.tr0 hs
         replace hb4 := hb4.tr0 hs
         replace hb5 := hb5.tr0 hs
         replace hb6 := hb6.tr0 hs
         replace hb7 := hb7.tr0 hs
         replace hb10 := hb10.tr0 hs
         replace hb12 := hb12.tr0 hs
         replace hb14 := hb14.tr0 hs
         replace hb16 := hb16.tr0 hs
         replace hb18 := hb18.tr0 hs
         replace hb20 := hb20.tr0 hs
         clear hs
         have d23 : gg 101 = .bool true := hd 23 (dep_of (by kernel_rfl))
         have e101 := d23
         refine ⟨fun _ => ?_, fun hw => Bool.noConfusion (show true = false from hw)⟩
         refine os_know 101 (.bool true) e101 (by simp [undef]) ?_
         refine os_rv (r_as (v := .bool _) rfl) ⟨Same.refl _ _, ?_, frsh_no⟩
         exact rfl
        | _ + 25, hix, _ => exact absurd hix (by omega)
       ·
        intro gg w29 hs hR hdis
        have hs0 := hs
        replace hB := hB.tr0 hs
        replace hb4 := hb4.tr0 hs
        replace hb5 := hb5.tr0 hs
        replace hb6 := hb6.tr0 hs
        replace hb7 := hb7.tr0 hs
        replace hb10 := hb10.tr0 hs
        replace hb12 := hb12.tr0 hs
        replace hb14 := hb14.tr0 hs
        replace hb16 := hb16.tr0 hs
        replace hb18 := hb18.tr0 hs
        replace hb20 := hb20.tr0 hs
        clear hs
        have d24 : gg 8 = .bool true := hR 24 (by decide)
        have e8 := d24
        refine wl_know 8 (.bool true) e8 (by simp [undef]) ?_
        refine x_nil ?_
        refine e_S ?_
        refine c_ret ?_
        refine fin1 (.inl rfl) rfl rfl ?_
        exact ⟨rfl, hB⟩
     ·
      refine c_know 17 (.bool false) (congrArg Value.bool hbc) (by simp [undef]) ?_
      rcases Bool.eq_false_or_eq_true (subB l fs gb ga) with hba | hba
      ·
       refine c_know 15 (.bool true) (congrArg Value.bool hba) (by simp [undef]) ?_
       have haa : subB l fs ga ga = true := (subB_iff hga0 hga0).2 ⟨_, Hom.refl hva.gx⟩
       have hcd : decide (canF l fs ga = canF l fs gb) = true := decide_eq_true ((can_dec hga0 hgb0).2 ⟨hab, hba⟩)
       refine c_monoGO 25 [78, 79, 80, 81, 82, 83, 84, 85, 86, 87, 88, 89, 90, 91, 92, 93, 94, 95, 96, 97, 98, 99, 100, 101, 8] (fun _ => false) (fun ix v wv => match ix with | 0 => v = .bool true | 1 => v = .bool true | 2 => v = .bool true | 3 => v = .bool false | 4 => v = .bool false | 5 => v = .bool false | 6 => v = .bool true | 7 => v = .bool true | 8 => v = .bool true | 9 => v = undef | 10 => v = .bool true | 11 => v = .bool true | 12 => v = .bool true | 13 => v = .bool true | 14 => v = .bool true | 15 => v = .bool true | 16 => v = .bool true | 17 => v = .agg #[.slice G1 ga.length c1] | 18 => ∃ AR c, v = .agg #[.slice AR (canF l fs ga).length c] ∧ NodesIn wv AR (canF l fs ga) | 19 => v = .agg #[.slice G2 gb.length c2] | 20 => ∃ AR c, v = .agg #[.slice AR (canF l fs gb).length c] ∧ NodesIn wv AR (canF l fs gb) | 21 => v = .bool true | 22 => v = .bool true | 23 => v = .bool true | 24 => v = .bool true | _ => True) (by kernel_rfl) (by kernel_rfl) ?_ ?_ ?_
       ·
        intro ix v wv wv2 h hs
        match ix, h with
        | 0, h => exact h
        | 1, h => exact h
        | 2, h => exact h
        | 3, h => exact h
        | 4, h => exact h
        | 5, h => exact h
        | 6, h => exact h
        | 7, h => exact h
        | 8, h => exact h
        | 9, h => exact h
        | 10, h => exact h
        | 11, h => exact h
        | 12, h => exact h
        | 13, h => exact h
        | 14, h => exact h
        | 15, h => exact h
        | 16, h => exact h
        | 17, h => exact h
        | 18, h =>
         obtain ⟨AR96, cR96, e96, hNR96⟩ := (show ∃ AR c, v = .agg #[.slice AR (canF l fs ga).length c] ∧ NodesIn wv AR (canF l fs ga) from h)
         exact ⟨AR96, cR96, e96, hNR96.mono hs.bel⟩
        | 19, h => exact h
        | 20, h =>
         obtain ⟨AR98, cR98, e98, hNR98⟩ := (show ∃ AR c, v = .agg #[.slice AR (canF l fs gb).length c] ∧ NodesIn wv AR (canF l fs gb) from h)
         exact ⟨AR98, cR98, e98, hNR98.mono hs.bel⟩
        | 21, h => exact h
        | 22, h => exact h
        | 23, h => exact h
        | 24, h => exact h
        | _ + 25, h => exact trivial
       ·
        intro ix o hix hoq gg wx hs hd hdis
        match ix, hix, hoq with
        | 0, _, hoq =>
         obtain rfl : _ = o := Option.some.inj hoq
         have hs0 := hs
         replace hB := hB.tr0 hs
         replace hb4 := hb4.tr0 hs
         replace hb5 := hb5.tr0 hs
         replace hb6 := hb6.tr0 hs
         replace hb7 := hb7.tr0 hs
         replace hb10 := hb10.tr0 hs
         replace hb12 := hb12.tr0 hs
         replace hb14 := hb14.tr0 hs
         replace hb16 := hb16.tr0 hs
         replace hb18 := hb18.tr0 hs
         replace hb20 := hb20.tr0 hs
         clear hs
         refine ⟨fun _ => ?_, fun hw => Bool.noConfusion (show true = false from hw)⟩
         refine os_rv (r_mv (v := .bool _) rfl) ⟨Same.refl _ _, ?_, frsh_no⟩
         exact (congrArg Value.bool haa)
        | 1, _, hoq =>
         obtain rfl : _ = o := Option.some.inj hoq
         have hs0 := hs
         replace hB := hB.tr0 hs
         replace hb4 := hb4.tr0 hs
         replace hb5 := hb5.tr0 hs
         replace hb6 := hb6.tr0 hs
         replace hb7 := hb7.tr0 hs
         replace hb10 := hb10.tr0 hs
         replace hb12 := hb12.tr0 hs
         replace hb14 := hb14.tr0 hs
         replace hb16 := hb16.tr0 hs
         replace hb18 := hb18.tr0 hs
         replace hb20 := hb20.tr0 hs
         clear hs
         have d0 : gg 78 = .bool true := hd 0 (dep_of (by kernel_rfl))
         have e78 := d0
         refine ⟨fun _ => ?_, fun hw => Bool.noConfusion (show true = false from hw)⟩
         refine os_know 78 (.bool true) e78 (by simp [undef]) ?_
         refine os_rv (r_mv (v := .bool _) rfl) ⟨Same.refl _ _, ?_, frsh_no⟩
         exact rfl
        | 2, _, hoq =>
         obtain rfl : _ = o := Option.some.inj hoq
         have hs0 := hs
         replace hB := hB.tr0 hs
         replace hb4 := hb4.tr0 hs
         replace hb5 := hb5.tr0 hs
         replace hb6 := hb6.tr0 hs
         replace hb7 := hb7.tr0 hs
         replace hb10 := hb10.tr0 hs
         replace hb12 := hb12.tr0 hs
         replace hb14 := hb14.tr0 hs
         replace hb16 := hb16.tr0 hs
         replace hb18 := hb18.tr0 hs
         replace hb20 := hb20.tr0 hs
         clear hs
         have d1 : gg 79 = .bool true := hd 1 (dep_of (by kernel_rfl))
         have e79 := d1
         refine guard_case 79 true rfl e79 (fun _ => ?_) (fun h => absurd h (by decide))
         refine os_know 79 (.bool true) e79 (by simp [undef]) ?_
         refine os_rv (r_mv (v := .bool _) rfl) ⟨Same.refl _ _, ?_, frsh_no⟩
         exact rfl
        | 3, _, hoq =>
         obtain rfl : _ = o := Option.some.inj hoq
         have hs0 := hs
         replace hB := hB.tr0 hs
         replace hb4 := hb4.tr0 hs
         replace hb5 := hb5.tr0 hs
         replace hb6 := hb6.tr0 hs
         replace hb7 := hb7.tr0 hs
         replace hb10 := hb10.tr0 hs
         replace hb12 := hb12.tr0 hs
         replace hb14 := hb14.tr0 hs
         replace hb16 := hb16.tr0 hs
         replace hb18 := hb18.tr0 hs
         replace hb20 := hb20.tr0 hs
         clear hs
         have d1 : gg 79 = .bool true := hd 1 (dep_of (by kernel_rfl))
         have e79 := d1
         have d2 : gg 80 = .bool true := hd 2 (dep_of (by kernel_rfl))
         have e80 := d2
         refine guard_case 79 true rfl e79 (fun _ => ?_) (fun h => absurd h (by decide))
         refine os_know 79 (.bool true) e79 (by simp [undef]) ?_
         refine os_know 80 (.bool true) e80 (by simp [undef]) ?_
         refine os_rv (r_not rfl) ⟨Same.refl _ _, ?_, frsh_no⟩
         exact rfl
        | 4, _, hoq =>
         obtain rfl : _ = o := Option.some.inj hoq
         have hs0 := hs
         replace hB := hB.tr0 hs
         replace hb4 := hb4.tr0 hs
         replace hb5 := hb5.tr0 hs
         replace hb6 := hb6.tr0 hs
         replace hb7 := hb7.tr0 hs
         replace hb10 := hb10.tr0 hs
         replace hb12 := hb12.tr0 hs
         replace hb14 := hb14.tr0 hs
         replace hb16 := hb16.tr0 hs
         replace hb18 := hb18.tr0 hs
         replace hb20 := hb20.tr0 hs
         clear hs
         have d1 : gg 79 = .bool true := hd 1 (dep_of (by kernel_rfl))
         have e79 := d1
         have d3 : gg 81 = .bool false := hd 3 (dep_of (by kernel_rfl))
         have e81 := d3
         refine guard_case 79 true rfl e79 (fun _ => ?_) (fun h => absurd h (by decide))
         refine os_know 79 (.bool true) e79 (by simp [undef]) ?_
         refine os_know 81 (.bool false) e81 (by simp [undef]) ?_
         refine os_rv (r_mv (v := .bool _) rfl) ⟨Same.refl _ _, ?_, frsh_no⟩
         exact rfl
        | 5, _, hoq =>
         obtain rfl : _ = o := Option.some.inj hoq
         have hs0 := hs
         replace hB := hB.tr0 hs
         replace hb4 := hb4.tr0 hs
         replace hb5 := hb5.tr0 hs
         replace hb6 := hb6.tr0 hs
         replace hb7 := hb7.tr0 hs
         replace hb10 := hb10.tr0 hs
         replace hb12 := hb12.tr0 hs
         replace hb14 := hb14.tr0 hs
         replace hb16 := hb16.tr0 hs
         replace hb18 := hb18.tr0 hs
         replace hb20 := hb20.tr0 hs
         clear hs
         have d4 : gg 82 = .bool false := hd 4 (dep_of (by kernel_rfl))
         have e82 := d4
         refine guard_case 82 false rfl e82 (fun _ => ?_) (fun h => absurd h (by decide))
         refine os_know 82 (.bool false) e82 (by simp [undef]) ?_
         refine os_rv (r_mv (v := .bool _) rfl) ⟨Same.refl _ _, ?_, frsh_no⟩
         exact rfl
        | 6, _, hoq =>
         obtain rfl : _ = o := Option.some.inj hoq
         have hs0 := hs
         replace hB := hB.tr0 hs
         replace hb4 := hb4.tr0 hs
         replace hb5 := hb5.tr0 hs
         replace hb6 := hb6.tr0 hs
         replace hb7 := hb7.tr0 hs
         replace hb10 := hb10.tr0 hs
         replace hb12 := hb12.tr0 hs
         replace hb14 := hb14.tr0 hs
         replace hb16 := hb16.tr0 hs
         replace hb18 := hb18.tr0 hs
         replace hb20 := hb20.tr0 hs
         clear hs
         have d4 : gg 82 = .bool false := hd 4 (dep_of (by kernel_rfl))
         have e82 := d4
         have d5 : gg 83 = .bool false := hd 5 (dep_of (by kernel_rfl))
         have e83 := d5
         refine guard_case 82 false rfl e82 (fun _ => ?_) (fun h => absurd h (by decide))
         refine os_know 82 (.bool false) e82 (by simp [undef]) ?_
         refine os_know 83 (.bool false) e83 (by simp [undef]) ?_
         refine os_rv (r_not rfl) ⟨Same.refl _ _, ?_, frsh_no⟩
         exact rfl
        | 7, _, hoq =>
         obtain rfl : _ = o := Option.some.inj hoq
         have hs0 := hs
         replace hB := hB.tr0 hs
         replace hb4 := hb4.tr0 hs
         replace hb5 := hb5.tr0 hs
         replace hb6 := hb6.tr0 hs
         replace hb7 := hb7.tr0 hs
         replace hb10 := hb10.tr0 hs
         replace hb12 := hb12.tr0 hs
         replace hb14 := hb14.tr0 hs
         replace hb16 := hb16.tr0 hs
         replace hb18 := hb18.tr0 hs
         replace hb20 := hb20.tr0 hs
         clear hs
         have d1 : gg 79 = .bool true := hd 1 (dep_of (by kernel_rfl))
         have e79 := d1
         have d4 : gg 82 = .bool false := hd 4 (dep_of (by kernel_rfl))
         have e82 := d4
         have d6 : gg 84 = .bool true := hd 6 (dep_of (by kernel_rfl))
         have e84 := d6
         refine guard_case 79 true rfl e79 (fun _ => ?_) (fun h => absurd h (by decide))
         refine os_know 79 (.bool true) e79 (by simp [undef]) ?_
         refine os_know 82 (.bool false) e82 (by simp [undef]) ?_
         refine os_know 84 (.bool true) e84 (by simp [undef]) ?_
         refine os_rv (r_pf (v := .bool _) rfl rfl) ⟨Same.refl _ _, ?_, frsh_no⟩
         exact rfl
        | 8, _, hoq =>
         obtain rfl : _ = o := Option.some.inj hoq
         have hs0 := hs
         replace hB := hB.tr0 hs
         replace hb4 := hb4.tr0 hs
         replace hb5 := hb5.tr0 hs
         replace hb6 := hb6.tr0 hs
         replace hb7 := hb7.tr0 hs
         replace hb10 := hb10.tr0 hs
         replace hb12 := hb12.tr0 hs
         replace hb14 := hb14.tr0 hs
         replace hb16 := hb16.tr0 hs
         replace hb18 := hb18.tr0 hs
         replace hb20 := hb20.tr0 hs
         clear hs
         have d1 : gg 79 = .bool true := hd 1 (dep_of (by kernel_rfl))
         have e79 := d1
         have d7 : gg 85 = .bool true := hd 7 (dep_of (by kernel_rfl))
         have e85 := d7
         refine guard_case 79 true rfl e79 (fun _ => ?_) (fun h => absurd h (by decide))
         refine os_know 79 (.bool true) e79 (by simp [undef]) ?_
         refine os_know 85 (.bool true) e85 (by simp [undef]) ?_
         refine os_rv (r_mv (v := .bool _) rfl) ⟨Same.refl _ _, ?_, frsh_no⟩
         exact rfl
        | 9, _, hoq =>
         obtain rfl : _ = o := Option.some.inj hoq
         have hs0 := hs
         replace hB := hB.tr0 hs
         replace hb4 := hb4.tr0 hs
         replace hb5 := hb5.tr0 hs
         replace hb6 := hb6.tr0 hs
         replace hb7 := hb7.tr0 hs
         replace hb10 := hb10.tr0 hs
         replace hb12 := hb12.tr0 hs
         replace hb14 := hb14.tr0 hs
         replace hb16 := hb16.tr0 hs
         replace hb18 := hb18.tr0 hs
         replace hb20 := hb20.tr0 hs
         clear hs
         have d8 : gg 86 = .bool true := hd 8 (dep_of (by kernel_rfl))
         have e86 := d8
         exact guard_case 86 true rfl e86 (fun h => absurd h (by decide)) (fun _ => rfl)
        | 10, _, hoq =>
         obtain rfl : _ = o := Option.some.inj hoq
         have hs0 := hs
         replace hB := hB.tr0 hs
         replace hb4 := hb4.tr0 hs
         replace hb5 := hb5.tr0 hs
         replace hb6 := hb6.tr0 hs
         replace hb7 := hb7.tr0 hs
         replace hb10 := hb10.tr0 hs
         replace hb12 := hb12.tr0 hs
         replace hb14 := hb14.tr0 hs
         replace hb16 := hb16.tr0 hs
         replace hb18 := hb18.tr0 hs
         replace hb20 := hb20.tr0 hs
         clear hs
         have d1 : gg 79 = .bool true := hd 1 (dep_of (by kernel_rfl))
         have e79 := d1
         have d8 : gg 86 = .bool true := hd 8 (dep_of (by kernel_rfl))
         have e86 := d8
         have d9 : gg 87 = undef := hd 9 (dep_of (by kernel_rfl))
         have e87 := d9
         refine guard_case 79 true rfl e79 (fun _ => ?_) (fun h => absurd h (by decide))
         refine os_know 79 (.bool true) e79 (by simp [undef]) ?_
         refine os_know 86 (.bool true) e86 (by simp [undef]) ?_
         refine os_rv (r_pt (v := .bool _) rfl rfl) ⟨Same.refl _ _, ?_, frsh_no⟩
         exact rfl
        | 11, _, hoq =>
         obtain rfl : _ = o := Option.some.inj hoq
         have hs0 := hs
         replace hB := hB.tr0 hs
         replace hb4 := hb4.tr0 hs
         replace hb5 := hb5.tr0 hs
         replace hb6 := hb6.tr0 hs
         replace hb7 := hb7.tr0 hs
         replace hb10 := hb10.tr0 hs
         replace hb12 := hb12.tr0 hs
         replace hb14 := hb14.tr0 hs
         replace hb16 := hb16.tr0 hs
         replace hb18 := hb18.tr0 hs
         replace hb20 := hb20.tr0 hs
         clear hs
         have d1 : gg 79 = .bool true := hd 1 (dep_of (by kernel_rfl))
         have e79 := d1
         have d10 : gg 88 = .bool true := hd 10 (dep_of (by kernel_rfl))
         have e88 := d10
         refine ⟨fun _ => ?_, fun hw => Bool.noConfusion (show true = false from hw)⟩
         refine os_know 79 (.bool true) e79 (by simp [undef]) ?_
         refine os_know 88 (.bool true) e88 (by simp [undef]) ?_
         refine os_rv (r_pt (v := .bool _) rfl rfl) ⟨Same.refl _ _, ?_, frsh_no⟩
         exact rfl
        | 12, _, hoq =>
         obtain rfl : _ = o := Option.some.inj hoq
         have hs0 := hs
         replace hB := hB.tr0 hs
         replace hb4 := hb4.tr0 hs
         replace hb5 := hb5.tr0 hs
         replace hb6 := hb6.tr0 hs
         replace hb7 := hb7.tr0 hs
         replace hb10 := hb10.tr0 hs
         replace hb12 := hb12.tr0 hs
         replace hb14 := hb14.tr0 hs
         replace hb16 := hb16.tr0 hs
         replace hb18 := hb18.tr0 hs
         replace hb20 := hb20.tr0 hs
         clear hs
         have d11 : gg 89 = .bool true := hd 11 (dep_of (by kernel_rfl))
         have e89 := d11
         refine ⟨fun _ => ?_, fun hw => Bool.noConfusion (show true = false from hw)⟩
         refine os_know 89 (.bool true) e89 (by simp [undef]) ?_
         refine os_rv (r_mv (v := .bool _) rfl) ⟨Same.refl _ _, ?_, frsh_no⟩
         exact rfl
        | 13, _, hoq =>
         obtain rfl : _ = o := Option.some.inj hoq
         have hs0 := hs
         replace hB := hB.tr0 hs
         replace hb4 := hb4.tr0 hs
         replace hb5 := hb5.tr0 hs
         replace hb6 := hb6.tr0 hs
         replace hb7 := hb7.tr0 hs
         replace hb10 := hb10.tr0 hs
         replace hb12 := hb12.tr0 hs
         replace hb14 := hb14.tr0 hs
         replace hb16 := hb16.tr0 hs
         replace hb18 := hb18.tr0 hs
         replace hb20 := hb20.tr0 hs
         clear hs
         have d12 : gg 90 = .bool true := hd 12 (dep_of (by kernel_rfl))
         have e90 := d12
         refine guard_case 90 true rfl e90 (fun _ => ?_) (fun h => absurd h (by decide))
         refine os_know 90 (.bool true) e90 (by simp [undef]) ?_
         refine os_rv (r_mv (v := .bool _) rfl) ⟨Same.refl _ _, ?_, frsh_no⟩
         exact rfl
        | 14, _, hoq =>
         obtain rfl : _ = o := Option.some.inj hoq
         have hs0 := hs
         replace hB := hB.tr0 hs
         replace hb4 := hb4.tr0 hs
         replace hb5 := hb5.tr0 hs
         replace hb6 := hb6.tr0 hs
         replace hb7 := hb7.tr0 hs
         replace hb10 := hb10.tr0 hs
         replace hb12 := hb12.tr0 hs
         replace hb14 := hb14.tr0 hs
         replace hb16 := hb16.tr0 hs
         replace hb18 := hb18.tr0 hs
         replace hb20 := hb20.tr0 hs
         clear hs
         have d12 : gg 90 = .bool true := hd 12 (dep_of (by kernel_rfl))
         have e90 := d12
         have d13 : gg 91 = .bool true := hd 13 (dep_of (by kernel_rfl))
         have e91 := d13
         refine guard_case 90 true rfl e90 (fun _ => ?_) (fun h => absurd h (by decide))
         refine os_know 90 (.bool true) e90 (by simp [undef]) ?_
         refine os_know 91 (.bool true) e91 (by simp [undef]) ?_
         refine os_rv (r_mv (v := .bool _) rfl) ⟨Same.refl _ _, ?_, frsh_no⟩
         exact rfl
        | 15, _, hoq =>
         obtain rfl : _ = o := Option.some.inj hoq
         have hs0 := hs
         replace hB := hB.tr0 hs
         replace hb4 := hb4.tr0 hs
         replace hb5 := hb5.tr0 hs
         replace hb6 := hb6.tr0 hs
         replace hb7 := hb7.tr0 hs
         replace hb10 := hb10.tr0 hs
         replace hb12 := hb12.tr0 hs
         replace hb14 := hb14.tr0 hs
         replace hb16 := hb16.tr0 hs
         replace hb18 := hb18.tr0 hs
         replace hb20 := hb20.tr0 hs
         clear hs
         have d14 : gg 92 = .bool true := hd 14 (dep_of (by kernel_rfl))
         have e92 := d14
         refine guard_case 92 true rfl e92 (fun _ => ?_) (fun h => absurd h (by decide))
         refine os_know 92 (.bool true) e92 (by simp [undef]) ?_
         refine os_rv (r_mv (v := .bool _) rfl) ⟨Same.refl _ _, ?_, frsh_no⟩
         exact rfl
        | 16, _, hoq =>
         obtain rfl : _ = o := Option.some.inj hoq
         have hs0 := hs
         replace hB := hB.tr0 hs
         replace hb4 := hb4.tr0 hs
         replace hb5 := hb5.tr0 hs
         replace hb6 := hb6.tr0 hs
         replace hb7 := hb7.tr0 hs
         replace hb10 := hb10.tr0 hs
         replace hb12 := hb12.tr0 hs
         replace hb14 := hb14.tr0 hs
         replace hb16 := hb16.tr0 hs
         replace hb18 := hb18.tr0 hs
         replace hb20 := hb20.tr0 hs
         clear hs
         have d12 : gg 90 = .bool true := hd 12 (dep_of (by kernel_rfl))
         have e90 := d12
         have d14 : gg 92 = .bool true := hd 14 (dep_of (by kernel_rfl))
         have e92 := d14
         have d15 : gg 93 = .bool true := hd 15 (dep_of (by kernel_rfl))
         have e93 := d15
         refine guard_case 90 true rfl e90 (fun _ => ?_) (fun h => absurd h (by decide))
         refine os_know 90 (.bool true) e90 (by simp [undef]) ?_
         refine os_know 92 (.bool true) e92 (by simp [undef]) ?_
         refine os_know 93 (.bool true) e93 (by simp [undef]) ?_
         refine os_rv (r_pt (v := .bool _) rfl rfl) ⟨Same.refl _ _, ?_, frsh_no⟩
         exact rfl
        | 17, _, hoq =>
         obtain rfl : _ = o := Option.some.inj hoq
         have hs0 := hs
         replace hB := hB.tr0 hs
         replace hb4 := hb4.tr0 hs
         replace hb5 := hb5.tr0 hs
         replace hb6 := hb6.tr0 hs
         replace hb7 := hb7.tr0 hs
         replace hb10 := hb10.tr0 hs
         replace hb12 := hb12.tr0 hs
         replace hb14 := hb14.tr0 hs
         replace hb16 := hb16.tr0 hs
         replace hb18 := hb18.tr0 hs
         replace hb20 := hb20.tr0 hs
         clear hs
         have d12 : gg 90 = .bool true := hd 12 (dep_of (by kernel_rfl))
         have e90 := d12
         refine guard_case 90 true rfl e90 (fun _ => ?_) (fun h => absurd h (by decide))
         refine os_know 90 (.bool true) e90 (by simp [undef]) ?_
         refine os_rv (r_ldS Tryd.underlying28 rfl rfl hb5.range0 sz28_GTgt) ⟨Same.refl _ _, ?_, frsh_no⟩
         exact rfl
        | 18, _, hoq =>
         obtain rfl : _ = o := Option.some.inj hoq
         have hs0 := hs
         replace hB := hB.tr0 hs
         replace hb4 := hb4.tr0 hs
         replace hb5 := hb5.tr0 hs
         replace hb6 := hb6.tr0 hs
         replace hb7 := hb7.tr0 hs
         replace hb10 := hb10.tr0 hs
         replace hb12 := hb12.tr0 hs
         replace hb14 := hb14.tr0 hs
         replace hb16 := hb16.tr0 hs
         replace hb18 := hb18.tr0 hs
         replace hb20 := hb20.tr0 hs
         clear hs
         have d12 : gg 90 = .bool true := hd 12 (dep_of (by kernel_rfl))
         have e90 := d12
         have d17 : gg 95 = .agg #[.slice G1 ga.length c1] := hd 17 (dep_of (by kernel_rfl))
         have e95 := d17
         refine guard_case 90 true rfl e90 (fun _ => ?_) (fun h => absurd h (by decide))
         refine os_know 90 (.bool true) e90 (by simp [undef]) ?_
         refine os_know 95 (.agg #[.slice G1 ga.length c1]) e95 (by simp [undef]) ?_
         refine os_cl fn23 (rcan_any G1 _ c1 l fs ga wx (hG1.mono hB) rfl hga0) rfl (fun e' w2 hr => ?_)
         obtain ⟨⟨AR, cR, rfl, hNR⟩, hs⟩ := hr
         exact ⟨_, rfl, Same.of_bel hs, ⟨_, _, rfl, hNR _ (FrSame.refl _ _)⟩, frsh_no⟩
        | 19, _, hoq =>
         obtain rfl : _ = o := Option.some.inj hoq
         have hs0 := hs
         replace hB := hB.tr0 hs
         replace hb4 := hb4.tr0 hs
         replace hb5 := hb5.tr0 hs
         replace hb6 := hb6.tr0 hs
         replace hb7 := hb7.tr0 hs
         replace hb10 := hb10.tr0 hs
         replace hb12 := hb12.tr0 hs
         replace hb14 := hb14.tr0 hs
         replace hb16 := hb16.tr0 hs
         replace hb18 := hb18.tr0 hs
         replace hb20 := hb20.tr0 hs
         clear hs
         have d12 : gg 90 = .bool true := hd 12 (dep_of (by kernel_rfl))
         have e90 := d12
         refine guard_case 90 true rfl e90 (fun _ => ?_) (fun h => absurd h (by decide))
         refine os_know 90 (.bool true) e90 (by simp [undef]) ?_
         refine os_rv (r_ldS Tryd.underlying28 rfl rfl hb6.range0 sz28_GTgt) ⟨Same.refl _ _, ?_, frsh_no⟩
         exact rfl
        | 20, _, hoq =>
         obtain rfl : _ = o := Option.some.inj hoq
         have hs0 := hs
         replace hB := hB.tr0 hs
         replace hb4 := hb4.tr0 hs
         replace hb5 := hb5.tr0 hs
         replace hb6 := hb6.tr0 hs
         replace hb7 := hb7.tr0 hs
         replace hb10 := hb10.tr0 hs
         replace hb12 := hb12.tr0 hs
         replace hb14 := hb14.tr0 hs
         replace hb16 := hb16.tr0 hs
         replace hb18 := hb18.tr0 hs
         replace hb20 := hb20.tr0 hs
         clear hs
         have d12 : gg 90 = .bool true := hd 12 (dep_of (by kernel_rfl))
         have e90 := d12
         have d19 : gg 97 = .agg #[.slice G2 gb.length c2] := hd 19 (dep_of (by kernel_rfl))
         have e97 := d19
         refine guard_case 90 true rfl e90 (fun _ => ?_) (fun h => absurd h (by decide))
         refine os_know 90 (.bool true) e90 (by simp [undef]) ?_
         refine os_know 97 (.agg #[.slice G2 gb.length c2]) e97 (by simp [undef]) ?_
         refine os_cl fn23 (rcan_any G2 _ c2 l fs gb wx (hG2.mono hB) rfl hgb0) rfl (fun e' w2 hr => ?_)
         obtain ⟨⟨AR, cR, rfl, hNR⟩, hs⟩ := hr
         exact ⟨_, rfl, Same.of_bel hs, ⟨_, _, rfl, hNR _ (FrSame.refl _ _)⟩, frsh_no⟩
        | 21, _, hoq =>
         obtain rfl : _ = o := Option.some.inj hoq
         have hs0 := hs
         replace hB := hB.tr0 hs
         replace hb4 := hb4.tr0 hs
         replace hb5 := hb5.tr0 hs
         replace hb6 := hb6.tr0 hs
         replace hb7 := hb7.tr0 hs
         replace hb10 := hb10.tr0 hs
         replace hb12 := hb12.tr0 hs
         replace hb14 := hb14.tr0 hs
         replace hb16 := hb16.tr0 hs
         replace hb18 := hb18.tr0 hs
         replace hb20 := hb20.tr0 hs
         clear hs
         have d12 : gg 90 = .bool true := hd 12 (dep_of (by kernel_rfl))
         have e90 := d12
         have d18 : ∃ AR c, gg 96 = .agg #[.slice AR (canF l fs ga).length c] ∧ NodesIn wx AR (canF l fs ga) := hd 18 (dep_of (by kernel_rfl))
         obtain ⟨AR96, cR96, e96, hNR96⟩ := d18
         have d20 : ∃ AR c, gg 98 = .agg #[.slice AR (canF l fs gb).length c] ∧ NodesIn wx AR (canF l fs gb) := hd 20 (dep_of (by kernel_rfl))
         obtain ⟨AR98, cR98, e98, hNR98⟩ := d20
         refine guard_case 90 true rfl e90 (fun _ => ?_) (fun h => absurd h (by decide))
         refine os_know 90 (.bool true) e90 (by simp [undef]) ?_
         refine os_know 96 (.agg #[.slice AR96 (canF l fs ga).length cR96]) e96 (by simp [undef]) ?_
         refine os_know 98 (.agg #[.slice AR98 (canF l fs gb).length cR98]) e98 (by simp [undef]) ?_
         refine os_cl fn13 (nodesb_any AR96 AR98 _ _ cR96 cR98 _ _ true wx hNR96 hNR98 rfl rfl hcd) rfl (fun e' w2 hr => ?_)
         obtain ⟨rfl, hs⟩ := hr
         exact ⟨_, rfl, Same.of_bel hs, rfl, frsh_no⟩
        | 22, _, hoq =>
         obtain rfl : _ = o := Option.some.inj hoq
         have hs0 := hs
         replace hB := hB.tr0 hs
         replace hb4 := hb4.tr0 hs
         replace hb5 := hb5.tr0 hs
         replace hb6 := hb6.tr0 hs
         replace hb7 := hb7.tr0 hs
         replace hb10 := hb10.tr0 hs
         replace hb12 := hb12.tr0 hs
         replace hb14 := hb14.tr0 hs
         replace hb16 := hb16.tr0 hs
         replace hb18 := hb18.tr0 hs
         replace hb20 := hb20.tr0 hs
         clear hs
         have d12 : gg 90 = .bool true := hd 12 (dep_of (by kernel_rfl))
         have e90 := d12
         have d16 : gg 94 = .bool true := hd 16 (dep_of (by kernel_rfl))
         have e94 := d16
         have d21 : gg 99 = .bool true := hd 21 (dep_of (by kernel_rfl))
         have e99 := d21
         refine guard_case 90 true rfl e90 (fun _ => ?_) (fun h => absurd h (by decide))
         refine os_know 90 (.bool true) e90 (by simp [undef]) ?_
         refine os_know 94 (.bool true) e94 (by simp [undef]) ?_
         refine os_know 99 (.bool true) e99 (by simp [undef]) ?_
         refine os_rv (r_eqlB Tryd.underlying4 rfl rfl) ⟨Same.refl _ _, ?_, frsh_no⟩
         exact rfl
        | 23, _, hoq =>
         obtain rfl : _ = o := Option.some.inj hoq
         have hs0 := hs
         replace hB := hB.tr0 hs
         replace hb4 := hb4.tr0 hs
         replace hb5 := hb5.tr0 hs
         replace hb6 := hb6.tr0 hs
         replace hb7 := hb7.tr0 hs
         replace hb10 := hb10.tr0 hs
         replace hb12 := hb12.tr0 hs
         replace hb14 := hb14.tr0 hs
         replace hb16 := hb16.tr0 hs
         replace hb18 := hb18.tr0 hs
         replace hb20 := hb20.tr0 hs
         clear hs
         have d12 : gg 90 = .bool true := hd 12 (dep_of (by kernel_rfl))
         have e90 := d12
         have d22 : gg 100 = .bool true := hd 22 (dep_of (by kernel_rfl))
         have e100 := d22
         refine ⟨fun _ => ?_, fun hw => Bool.noConfusion (show true = false from hw)⟩
         refine os_know 90 (.bool true) e90 (by simp [undef]) ?_
         refine os_know 100 (.bool true) e100 (by simp [undef]) ?_
         refine os_rv (r_pt (v := .bool _) rfl rfl) ⟨Same.refl _ _, ?_, frsh_no⟩
         exact rfl
        | 24, _, hoq =>
         obtain rfl : _ = o := Option.some.inj hoq
         have hs0 := hs
         replace hB := hB.tr0 hs
         replace hb4 := hb4.tr0 hs
         replace hb5 := hb5.tr0 hs
         replace hb6 := hb6.tr0 hs
         replace hb7 := hb7.tr0 hs
         replace hb10 := hb10.tr0 hs
         replace hb12 := hb12.tr0 hs
         replace hb14 := hb14.tr0 hs
         replace hb16 := hb16.tr0 hs
         replace hb18 := hb18.tr0 hs
         replace hb20 := hb20.tr0 hs
         clear hs
         have d23 : gg 101 = .bool true := hd 23 (dep_of (by kernel_rfl))
         have e101 := d23
         refine ⟨fun _ => ?_, fun hw => Bool.noConfusion (show true = false from hw)⟩
         refine os_know 101 (.bool true) e101 (by simp [undef]) ?_
         refine os_rv (r_as (v := .bool _) rfl) ⟨Same.refl _ _, ?_, frsh_no⟩
         exact rfl
        | _ + 25, hix, _ => exact absurd hix (by omega)
       ·
        intro gg w30 hs hR hdis
        have hs0 := hs
        replace hB := hB.tr0 hs
        replace hb4 := hb4.tr0 hs
        replace hb5 := hb5.tr0 hs
        replace hb6 := hb6.tr0 hs
        replace hb7 := hb7.tr0 hs
        replace hb10 := hb10.tr0 hs
        replace hb12 := hb12.tr0 hs
        replace hb14 := hb14.tr0 hs
        replace hb16 := hb16.tr0 hs
        replace hb18 := hb18.tr0 hs
        replace hb20 := hb20.tr0 hs
        clear hs
        have d24 : gg 8 = .bool true := hR 24 (by decide)
        have e8 := d24
        refine wl_know 8 (.bool true) e8 (by simp [undef]) ?_
        refine x_nil ?_
        refine e_S ?_
        refine c_ret ?_
        refine fin1 (.inl rfl) rfl rfl ?_
        exact ⟨rfl, hB⟩
      ·
       refine c_know 15 (.bool false) (congrArg Value.bool hba) (by simp [undef]) ?_
       have haa : subB l fs ga ga = true := (subB_iff hga0 hga0).2 ⟨_, Hom.refl hva.gx⟩
       have hcd : decide (canF l fs ga = canF l fs gb) = false := decide_eq_false (fun h => by have := ((can_dec hga0 hgb0).1 h).2; rw [hba] at this; cases this)
       refine c_monoGO 25 [78, 79, 80, 81, 82, 83, 84, 85, 86, 87, 88, 89, 90, 91, 92, 93, 94, 95, 96, 97, 98, 99, 100, 101, 8] (fun _ => false) (fun ix v wv => match ix with | 0 => v = .bool true | 1 => v = .bool true | 2 => v = .bool true | 3 => v = .bool false | 4 => v = .bool false | 5 => v = .bool false | 6 => v = .bool true | 7 => v = .bool true | 8 => v = .bool true | 9 => v = undef | 10 => v = .bool true | 11 => v = .bool true | 12 => v = .bool true | 13 => v = .bool true | 14 => v = .bool true | 15 => v = .bool false | 16 => v = .bool false | 17 => v = .agg #[.slice G1 ga.length c1] | 18 => ∃ AR c, v = .agg #[.slice AR (canF l fs ga).length c] ∧ NodesIn wv AR (canF l fs ga) | 19 => v = .agg #[.slice G2 gb.length c2] | 20 => ∃ AR c, v = .agg #[.slice AR (canF l fs gb).length c] ∧ NodesIn wv AR (canF l fs gb) | 21 => v = .bool false | 22 => v = .bool true | 23 => v = .bool true | 24 => v = .bool true | _ => True) (by kernel_rfl) (by kernel_rfl) ?_ ?_ ?_
       ·
        intro ix v wv wv2 h hs
        match ix, h with
        | 0, h => exact h
        | 1, h => exact h
        | 2, h => exact h
        | 3, h => exact h
        | 4, h => exact h
        | 5, h => exact h
        | 6, h => exact h
        | 7, h => exact h
        | 8, h => exact h
        | 9, h => exact h
        | 10, h => exact h
        | 11, h => exact h
        | 12, h => exact h
        | 13, h => exact h
        | 14, h => exact h
        | 15, h => exact h
        | 16, h => exact h
        | 17, h => exact h
        | 18, h =>
         obtain ⟨AR96, cR96, e96, hNR96⟩ := (show ∃ AR c, v = .agg #[.slice AR (canF l fs ga).length c] ∧ NodesIn wv AR (canF l fs ga) from h)
         exact ⟨AR96, cR96, e96, hNR96.mono hs.bel⟩
        | 19, h => exact h
        | 20, h =>
         obtain ⟨AR98, cR98, e98, hNR98⟩ := (show ∃ AR c, v = .agg #[.slice AR (canF l fs gb).length c] ∧ NodesIn wv AR (canF l fs gb) from h)
         exact ⟨AR98, cR98, e98, hNR98.mono hs.bel⟩
        | 21, h => exact h
        | 22, h => exact h
        | 23, h => exact h
        | 24, h => exact h
        | _ + 25, h => exact trivial
       ·
        intro ix o hix hoq gg wx hs hd hdis
        match ix, hix, hoq with
        | 0, _, hoq =>
         obtain rfl : _ = o := Option.some.inj hoq
         have hs0 := hs
         replace hB := hB.tr0 hs
         replace hb4 := hb4.tr0 hs
         replace hb5 := hb5.tr0 hs
         replace hb6 := hb6.tr0 hs
         replace hb7 := hb7.tr0 hs
         replace hb10 := hb10.tr0 hs
         replace hb12 := hb12.tr0 hs
         replace hb14 := hb14.tr0 hs
         replace hb16 := hb16.tr0 hs
         replace hb18 := hb18.tr0 hs
         replace hb20 := hb20.tr0 hs
         clear hs
         refine ⟨fun _ => ?_, fun hw => Bool.noConfusion (show true = false from hw)⟩
         refine os_rv (r_mv (v := .bool _) rfl) ⟨Same.refl _ _, ?_, frsh_no⟩
         exact (congrArg Value.bool haa)
        | 1, _, hoq =>
         obtain rfl : _ = o := Option.some.inj hoq
         have hs0 := hs
         replace hB := hB.tr0 hs
         replace hb4 := hb4.tr0 hs
         replace hb5 := hb5.tr0 hs
         replace hb6 := hb6.tr0 hs
         replace hb7 := hb7.tr0 hs
         replace hb10 := hb10.tr0 hs
         replace hb12 := hb12.tr0 hs
         replace hb14 := hb14.tr0 hs
         replace hb16 := hb16.tr0 hs
         replace hb18 := hb18.tr0 hs
         replace hb20 := hb20.tr0 hs
         clear hs
         have d0 : gg 78 = .bool true := hd 0 (dep_of (by kernel_rfl))
         have e78 := d0
         refine ⟨fun _ => ?_, fun hw => Bool.noConfusion (show true = false from hw)⟩
         refine os_know 78 (.bool true) e78 (by simp [undef]) ?_
         refine os_rv (r_mv (v := .bool _) rfl) ⟨Same.refl _ _, ?_, frsh_no⟩
         exact rfl
        | 2, _, hoq =>
         obtain rfl : _ = o := Option.some.inj hoq
         have hs0 := hs
         replace hB := hB.tr0 hs
         replace hb4 := hb4.tr0 hs
         replace hb5 := hb5.tr0 hs
         replace hb6 := hb6.tr0 hs
         replace hb7 := hb7.tr0 hs
         replace hb10 := hb10.tr0 hs
         replace hb12 := hb12.tr0 hs
         replace hb14 := hb14.tr0 hs
         replace hb16 := hb16.tr0 hs
         replace hb18 := hb18.tr0 hs
         replace hb20 := hb20.tr0 hs
         clear hs
         have d1 : gg 79 = .bool true := hd 1 (dep_of (by kernel_rfl))
         have e79 := d1
         refine guard_case 79 true rfl e79 (fun _ => ?_) (fun h => absurd h (by decide))
         refine os_know 79 (.bool true) e79 (by simp [undef]) ?_
         refine os_rv (r_mv (v := .bool _) rfl) ⟨Same.refl _ _, ?_, frsh_no⟩
         exact rfl
        | 3, _, hoq =>
         obtain rfl : _ = o := Option.some.inj hoq
         have hs0 := hs
         replace hB := hB.tr0 hs
         replace hb4 := hb4.tr0 hs
         replace hb5 := hb5.tr0 hs
         replace hb6 := hb6.tr0 hs
         replace hb7 := hb7.tr0 hs
         replace hb10 := hb10.tr0 hs
         replace hb12 := hb12.tr0 hs
         replace hb14 := hb14.tr0 hs
         replace hb16 := hb16.tr0 hs
         replace hb18 := hb18.tr0 hs
         replace hb20 := hb20.tr0 hs
         clear hs
         have d1 : gg 79 = .bool true := hd 1 (dep_of (by kernel_rfl))
         have e79 := d1
         have d2 : gg 80 = .bool true := hd 2 (dep_of (by kernel_rfl))
         have e80 := d2
         refine guard_case 79 true rfl e79 (fun _ => ?_) (fun h => absurd h (by decide))
         refine os_know 79 (.bool true) e79 (by simp [undef]) ?_
         refine os_know 80 (.bool true) e80 (by simp [undef]) ?_
         refine os_rv (r_not rfl) ⟨Same.refl _ _, ?_, frsh_no⟩
         exact rfl
        | 4, _, hoq =>
         obtain rfl : _ = o := Option.some.inj hoq
         have hs0 := hs
         replace hB := hB.tr0 hs
         replace hb4 := hb4.tr0 hs
         replace hb5 := hb5.tr0 hs
         replace hb6 := hb6.tr0 hs
         replace hb7 := hb7.tr0 hs
         replace hb10 := hb10.tr0 hs
         replace hb12 := hb12.tr0 hs
         replace hb14 := hb14.tr0 hs
         replace hb16 := hb16.tr0 hs
         replace hb18 := hb18.tr0 hs
         replace hb20 := hb20.tr0 hs
         clear hs
         have d1 : gg 79 = .bool true := hd 1 (dep_of (by kernel_rfl))
         have e79 := d1
         have d3 : gg 81 = .bool false := hd 3 (dep_of (by kernel_rfl))
         have e81 := d3
         refine guard_case 79 true rfl e79 (fun _ => ?_) (fun h => absurd h (by decide))
         refine os_know 79 (.bool true) e79 (by simp [undef]) ?_
         refine os_know 81 (.bool false) e81 (by simp [undef]) ?_
         refine os_rv (r_mv (v := .bool _) rfl) ⟨Same.refl _ _, ?_, frsh_no⟩
         exact rfl
        | 5, _, hoq =>
         obtain rfl : _ = o := Option.some.inj hoq
         have hs0 := hs
         replace hB := hB.tr0 hs
         replace hb4 := hb4.tr0 hs
         replace hb5 := hb5.tr0 hs
         replace hb6 := hb6.tr0 hs
         replace hb7 := hb7.tr0 hs
         replace hb10 := hb10.tr0 hs
         replace hb12 := hb12.tr0 hs
         replace hb14 := hb14.tr0 hs
         replace hb16 := hb16.tr0 hs
         replace hb18 := hb18.tr0 hs
         replace hb20 := hb20.tr0 hs
         clear hs
         have d4 : gg 82 = .bool false := hd 4 (dep_of (by kernel_rfl))
         have e82 := d4
         refine guard_case 82 false rfl e82 (fun _ => ?_) (fun h => absurd h (by decide))
         refine os_know 82 (.bool false) e82 (by simp [undef]) ?_
         refine os_rv (r_mv (v := .bool _) rfl) ⟨Same.refl _ _, ?_, frsh_no⟩
         exact rfl
        | 6, _, hoq =>
         obtain rfl : _ = o := Option.some.inj hoq
         have hs0 := hs
         replace hB := hB.tr0 hs
         replace hb4 := hb4.tr0 hs
         replace hb5 := hb5.tr0 hs
         replace hb6 := hb6.tr0 hs
         replace hb7 := hb7.tr0 hs
         replace hb10 := hb10.tr0 hs
         replace hb12 := hb12.tr0 hs
         replace hb14 := hb14.tr0 hs
         replace hb16 := hb16.tr0 hs
         replace hb18 := hb18.tr0 hs
         replace hb20 := hb20.tr0 hs
         clear hs
         have d4 : gg 82 = .bool false := hd 4 (dep_of (by kernel_rfl))
         have e82 := d4
         have d5 : gg 83 = .bool false := hd 5 (dep_of (by kernel_rfl))
         have e83 := d5
         refine guard_case 82 false rfl e82 (fun _ => ?_) (fun h => absurd h (by decide))
         refine os_know 82 (.bool false) e82 (by simp [undef]) ?_
         refine os_know 83 (.bool false) e83 (by simp [undef]) ?_
         refine os_rv (r_not rfl) ⟨Same.refl _ _, ?_, frsh_no⟩
         exact rfl
        | 7, _, hoq =>
         obtain rfl : _ = o := Option.some.inj hoq
         have hs0 := hs
         replace hB := hB.tr0 hs
         replace hb4 := hb4.tr0 hs
         replace hb5 := hb5.tr0 hs
         replace hb6 := hb6.tr0 hs
         replace hb7 := hb7.tr0 hs
         replace hb10 := hb10.tr0 hs
         replace hb12 := hb12.tr0 hs
         replace hb14 := hb14.tr0 hs
         replace hb16 := hb16.tr0 hs
         replace hb18 := hb18.tr0 hs
         replace hb20 := hb20.tr0 hs
         clear hs
         have d1 : gg 79 = .bool true := hd 1 (dep_of (by kernel_rfl))
         have e79 := d1
         have d4 : gg 82 = .bool false := hd 4 (dep_of (by kernel_rfl))
         have e82 := d4
         have d6 : gg 84 = .bool true := hd 6 (dep_of (by kernel_rfl))
         have e84 := d6
         refine guard_case 79 true rfl e79 (fun _ => ?_) (fun h => absurd h (by decide))
         refine os_know 79 (.bool true) e79 (by simp [undef]) ?_
         refine os_know 82 (.bool false) e82 (by simp [undef]) ?_
         refine os_know 84 (.bool true) e84 (by simp [undef]) ?_
         refine os_rv (r_pf (v := .bool _) rfl rfl) ⟨Same.refl _ _, ?_, frsh_no⟩
         exact rfl
        | 8, _, hoq =>
         obtain rfl : _ = o := Option.some.inj hoq
         have hs0 := hs
         replace hB := hB.tr0 hs
         replace hb4 := hb4.tr0 hs
         replace hb5 := hb5.tr0 hs
         replace hb6 := hb6.tr0 hs
         replace hb7 := hb7.tr0 hs
         replace hb10 := hb10.tr0 hs
         replace hb12 := hb12.tr0 hs
         replace hb14 := hb14.tr0 hs
         replace hb16 := hb16.tr0 hs
         replace hb18 := hb18.tr0 hs
         replace hb20 := hb20.tr0 hs
         clear hs
         have d1 : gg 79 = .bool true := hd 1 (dep_of (by kernel_rfl))
         have e79 := d1
         have d7 : gg 85 = .bool true := hd 7 (dep_of (by kernel_rfl))
         have e85 := d7
         refine guard_case 79 true rfl e79 (fun _ => ?_) (fun h => absurd h (by decide))
         refine os_know 79 (.bool true) e79 (by simp [undef]) ?_
         refine os_know 85 (.bool true) e85 (by simp [undef]) ?_
         refine os_rv (r_mv (v := .bool _) rfl) ⟨Same.refl _ _, ?_, frsh_no⟩
         exact rfl
        | 9, _, hoq =>
         obtain rfl : _ = o := Option.some.inj hoq
         have hs0 := hs
         replace hB := hB.tr0 hs
         replace hb4 := hb4.tr0 hs
         replace hb5 := hb5.tr0 hs
         replace hb6 := hb6.tr0 hs
         replace hb7 := hb7.tr0 hs
         replace hb10 := hb10.tr0 hs
         replace hb12 := hb12.tr0 hs
         replace hb14 := hb14.tr0 hs
         replace hb16 := hb16.tr0 hs
         replace hb18 := hb18.tr0 hs
         replace hb20 := hb20.tr0 hs
         clear hs
         have d8 : gg 86 = .bool true := hd 8 (dep_of (by kernel_rfl))
         have e86 := d8
         exact guard_case 86 true rfl e86 (fun h => absurd h (by decide)) (fun _ => rfl)
        | 10, _, hoq =>
         obtain rfl : _ = o := Option.some.inj hoq
         have hs0 := hs
         replace hB := hB.tr0 hs
         replace hb4 := hb4.tr0 hs
         replace hb5 := hb5.tr0 hs
         replace hb6 := hb6.tr0 hs
         replace hb7 := hb7.tr0 hs
         replace hb10 := hb10.tr0 hs
         replace hb12 := hb12.tr0 hs
         replace hb14 := hb14.tr0 hs
         replace hb16 := hb16.tr0 hs
         replace hb18 := hb18.tr0 hs
         replace hb20 := hb20.tr0 hs
         clear hs
         have d1 : gg 79 = .bool true := hd 1 (dep_of (by kernel_rfl))
         have e79 := d1
         have d8 : gg 86 = .bool true := hd 8 (dep_of (by kernel_rfl))
         have e86 := d8
         have d9 : gg 87 = undef := hd 9 (dep_of (by kernel_rfl))
         have e87 := d9
         refine guard_case 79 true rfl e79 (fun _ => ?_) (fun h => absurd h (by decide))
         refine os_know 79 (.bool true) e79 (by simp [undef]) ?_
         refine os_know 86 (.bool true) e86 (by simp [undef]) ?_
         refine os_rv (r_pt (v := .bool _) rfl rfl) ⟨Same.refl _ _, ?_, frsh_no⟩
         exact rfl
        | 11, _, hoq =>
         obtain rfl : _ = o := Option.some.inj hoq
         have hs0 := hs
         replace hB := hB.tr0 hs
         replace hb4 := hb4.tr0 hs
         replace hb5 := hb5.tr0 hs
         replace hb6 := hb6.tr0 hs
         replace hb7 := hb7.tr0 hs
         replace hb10 := hb10.tr0 hs
         replace hb12 := hb12.tr0 hs
         replace hb14 := hb14.tr0 hs
         replace hb16 := hb16.tr0 hs
         replace hb18 := hb18.tr0 hs
         replace hb20 := hb20.tr0 hs
         clear hs
         have d1 : gg 79 = .bool true := hd 1 (dep_of (by kernel_rfl))
         have e79 := d1
         have d10 : gg 88 = .bool true := hd 10 (dep_of (by kernel_rfl))
         have e88 := d10
         refine ⟨fun _ => ?_, fun hw => Bool.noConfusion (show true = false from hw)⟩
         refine os_know 79 (.bool true) e79 (by simp [undef]) ?_
         refine os_know 88 (.bool true) e88 (by simp [undef]) ?_
         refine os_rv (r_pt (v := .bool _) rfl rfl) ⟨Same.refl _ _, ?_, frsh_no⟩
         exact rfl
        | 12, _, hoq =>
         obtain rfl : _ = o := Option.some.inj hoq
         have hs0 := hs
         replace hB := hB.tr0 hs
         replace hb4 := hb4.tr0 hs
         replace hb5 := hb5.tr0 hs
         replace hb6 := hb6.tr0 hs
         replace hb7 := hb7.tr0 hs
         replace hb10 := hb10.tr0 hs
         replace hb12 := hb12.tr0 hs
         replace hb14 := hb14.tr0 hs
         replace hb16 := hb16.tr0 hs
         replace hb18 := hb18.tr0 hs
         replace hb20 := hb20.tr0 hs
         clear hs
         have d11 : gg 89 = .bool true := hd 11 (dep_of (by kernel_rfl))
         have e89 := d11
         refine ⟨fun _ => ?_, fun hw => Bool.noConfusion (show true = false from hw)⟩
         refine os_know 89 (.bool true) e89 (by simp [undef]) ?_
         refine os_rv (r_mv (v := .bool _) rfl) ⟨Same.refl _ _, ?_, frsh_no⟩
         exact rfl
        | 13, _, hoq =>
         obtain rfl : _ = o := Option.some.inj hoq
         have hs0 := hs
         replace hB := hB.tr0 hs
         replace hb4 := hb4.tr0 hs
         replace hb5 := hb5.tr0 hs
         replace hb6 := hb6.tr0 hs
         replace hb7 := hb7.tr0 hs
         replace hb10 := hb10.tr0 hs
         replace hb12 := hb12.tr0 hs
         replace hb14 := hb14.tr0 hs
         replace hb16 := hb16.tr0 hs
         replace hb18 := hb18.tr0 hs
         replace hb20 := hb20.tr0 hs
         clear hs
         have d12 : gg 90 = .bool true := hd 12 (dep_of (by kernel_rfl))
         have e90 := d12
         refine guard_case 90 true rfl e90 (fun _ => ?_) (fun h => absurd h (by decide))
         refine os_know 90 (.bool true) e90 (by simp [undef]) ?_
         refine os_rv (r_mv (v := .bool _) rfl) ⟨Same.refl _ _, ?_, frsh_no⟩
         exact rfl
        | 14, _, hoq =>
         obtain rfl : _ = o := Option.some.inj hoq
         have hs0 := hs
         replace hB := hB.tr0 hs
         replace hb4 := hb4.tr0 hs
         replace hb5 := hb5.tr0 hs
         replace hb6 := hb6.tr0 hs
         replace hb7 := hb7.tr0 hs
         replace hb10 := hb10.tr0 hs
         replace hb12 := hb12.tr0 hs
         replace hb14 := hb14.tr0 hs
         replace hb16 := hb16.tr0 hs
         replace hb18 := hb18.tr0 hs
         replace hb20 := hb20.tr0 hs
         clear hs
         have d12 : gg 90 = .bool true := hd 12 (dep_of (by kernel_rfl))
         have e90 := d12
         have d13 : gg 91 = .bool true := hd 13 (dep_of (by kernel_rfl))
         have e91 := d13
         refine guard_case 90 true rfl e90 (fun _ => ?_) (fun h => absurd h (by decide))
         refine os_know 90 (.bool true) e90 (by simp [undef]) ?_
         refine os_know 91 (.bool true) e91 (by simp [undef]) ?_
         refine os_rv (r_mv (v := .bool _) rfl) ⟨Same.refl _ _, ?_, frsh_no⟩
         exact rfl
        | 15, _, hoq =>
         obtain rfl : _ = o := Option.some.inj hoq
         have hs0 := hs
         replace hB := hB.tr0 hs
         replace hb4 := hb4.tr0 hs
         replace hb5 := hb5.tr0 hs
         replace hb6 := hb6.tr0 hs
         replace hb7 := hb7.tr0 hs
         replace hb10 := hb10.tr0 hs
         replace hb12 := hb12.tr0 hs
         replace hb14 := hb14.tr0 hs
         replace hb16 := hb16.tr0 hs
         replace hb18 := hb18.tr0 hs
         replace hb20 := hb20.tr0 hs
         clear hs
         have d14 : gg 92 = .bool true := hd 14 (dep_of (by kernel_rfl))
         have e92 := d14
         refine guard_case 92 true rfl e92 (fun _ => ?_) (fun h => absurd h (by decide))
         refine os_know 92 (.bool true) e92 (by simp [undef]) ?_
         refine os_rv (r_mv (v := .bool _) rfl) ⟨Same.refl _ _, ?_, frsh_no⟩
         exact rfl
        | 16, _, hoq =>
         obtain rfl : _ = o := Option.some.inj hoq
         have hs0 := hs
         replace hB := hB.tr0 hs
         replace hb4 := hb4.tr0 hs
         replace hb5 := hb5.tr0 hs
         replace hb6 := hb6.tr0 hs
         replace hb7 := hb7.tr0 hs
         replace hb10 := hb10.tr0 hs
         replace hb12 := hb12.tr0 hs
         replace hb14 := hb14.tr0 hs
         replace hb16 := hb16.tr0 hs
         replace hb18 := hb18.tr0 hs
         replace hb20 := hb20.tr0 hs
         clear hs
         have d12 : gg 90 = .bool true := hd 12 (dep_of (by kernel_rfl))
         have e90 := d12
         have d14 : gg 92 = .bool true := hd 14 (dep_of (by kernel_rfl))
         have e92 := d14
         have d15 : gg 93 = .bool false := hd 15 (dep_of (by kernel_rfl))
         have e93 := d15
         refine guard_case 90 true rfl e90 (fun _ => ?_) (fun h => absurd h (by decide))
         refine os_know 90 (.bool true) e90 (by simp [undef]) ?_
         refine os_know 92 (.bool true) e92 (by simp [undef]) ?_
         refine os_know 93 (.bool false) e93 (by simp [undef]) ?_
         refine os_rv (r_pt (v := .bool _) rfl rfl) ⟨Same.refl _ _, ?_, frsh_no⟩
         exact rfl
        | 17, _, hoq =>
         obtain rfl : _ = o := Option.some.inj hoq
         have hs0 := hs
         replace hB := hB.tr0 hs
         replace hb4 := hb4.tr0 hs
         replace hb5 := hb5.tr0 hs
         replace hb6 := hb6.tr0 hs
         replace hb7 := hb7.tr0 hs
         replace hb10 := hb10.tr0 hs
         replace hb12 := hb12.tr0 hs
         replace hb14 := hb14.tr0 hs
         replace hb16 := hb16.tr0 hs
         replace hb18 := hb18.tr0 hs
         replace hb20 := hb20.tr0 hs
         clear hs
         have d12 : gg 90 = .bool true := hd 12 (dep_of (by kernel_rfl))
         have e90 := d12
         refine guard_case 90 true rfl e90 (fun _ => ?_) (fun h => absurd h (by decide))
         refine os_know 90 (.bool true) e90 (by simp [undef]) ?_
         refine os_rv (r_ldS Tryd.underlying28 rfl rfl hb5.range0 sz28_GTgt) ⟨Same.refl _ _, ?_, frsh_no⟩
         exact rfl
        | 18, _, hoq =>
         obtain rfl : _ = o := Option.some.inj hoq
         have hs0 := hs
         replace hB := hB.tr0 hs
         replace hb4 := hb4.tr0 hs
         replace hb5 := hb5.tr0 hs
         replace hb6 := hb6.tr0 hs
         replace hb7 := hb7.tr0 hs
         replace hb10 := hb10.tr0 hs
         replace hb12 := hb12.tr0 hs
         replace hb14 := hb14.tr0 hs
         replace hb16 := hb16.tr0 hs
         replace hb18 := hb18.tr0 hs
         replace hb20 := hb20.tr0 hs
         clear hs
         have d12 : gg 90 = .bool true := hd 12 (dep_of (by kernel_rfl))
         have e90 := d12
         have d17 : gg 95 = .agg #[.slice G1 ga.length c1] := hd 17 (dep_of (by kernel_rfl))
         have e95 := d17
         refine guard_case 90 true rfl e90 (fun _ => ?_) (fun h => absurd h (by decide))
         refine os_know 90 (.bool true) e90 (by simp [undef]) ?_
         refine os_know 95 (.agg #[.slice G1 ga.length c1]) e95 (by simp [undef]) ?_
         refine os_cl fn23 (rcan_any G1 _ c1 l fs ga wx (hG1.mono hB) rfl hga0) rfl (fun e' w2 hr => ?_)
         obtain ⟨⟨AR, cR, rfl, hNR⟩, hs⟩ := hr
         exact ⟨_, rfl, Same.of_bel hs, ⟨_, _, rfl, hNR _ (FrSame.refl _ _)⟩, frsh_no⟩
        | 19, _, hoq =>
         obtain rfl : _ = o := Option.some.inj hoq
         have hs0 := hs
         replace hB := hB.tr0 hs
         replace hb4 := hb4.tr0 hs
         replace hb5 := hb5.tr0 hs
         replace hb6 := hb6.tr0 hs
         replace hb7 := hb7.tr0 hs
         replace hb10 := hb10.tr0 hs
         replace hb12 := hb12.tr0 hs
         replace hb14 := hb14.tr0 hs
         replace hb16 := hb16.tr0 hs
         replace hb18 := hb18.tr0 hs
         replace hb20 := hb20.tr0 hs
         clear hs
         have d12 : gg 90 = .bool true := hd 12 (dep_of (by kernel_rfl))
         have e90 := d12
         refine guard_case 90 true rfl e90 (fun _ => ?_) (fun h => absurd h (by decide))
         refine os_know 90 (.bool true) e90 (by simp [undef]) ?_
         refine os_rv (r_ldS Tryd.underlying28 rfl rfl hb6.range0 sz28_GTgt) ⟨Same.refl _ _, ?_, frsh_no⟩
         exact rfl
        | 20, _, hoq =>
         obtain rfl : _ = o := Option.some.inj hoq
         have hs0 := hs
         replace hB := hB.tr0 hs
         replace hb4 := hb4.tr0 hs
         replace hb5 := hb5.tr0 hs
         replace hb6 := hb6.tr0 hs
         replace hb7 := hb7.tr0 hs
         replace hb10 := hb10.tr0 hs
         replace hb12 := hb12.tr0 hs
         replace hb14 := hb14.tr0 hs
         replace hb16 := hb16.tr0 hs
         replace hb18 := hb18.tr0 hs
         replace hb20 := hb20.tr0 hs
         clear hs
         have d12 : gg 90 = .bool true := hd 12 (dep_of (by kernel_rfl))
         have e90 := d12
         have d19 : gg 97 = .agg #[.slice G2 gb.length c2] := hd 19 (dep_of (by kernel_rfl))
         have e97 := d19
         refine guard_case 90 true rfl e90 (fun _ => ?_) (fun h => absurd h (by decide))
         refine os_know 90 (.bool true) e90 (by simp [undef]) ?_
         refine os_know 97 (.agg #[.slice G2 gb.length c2]) e97 (by simp [undef]) ?_
         refine os_cl fn23 (rcan_any G2 _ c2 l fs gb wx (hG2.mono hB) rfl hgb0) rfl (fun e' w2 hr => ?_)
         obtain ⟨⟨AR, cR, rfl, hNR⟩, hs⟩ := hr
         exact ⟨_, rfl, Same.of_bel hs, ⟨_, _, rfl, hNR _ (FrSame.refl _ _)⟩, frsh_no⟩
        | 21, _, hoq =>
         obtain rfl : _ = o := Option.some.inj hoq
         have hs0 := hs
         replace hB := hB.tr0 hs
         replace hb4 := hb4.tr0 hs
         replace hb5 := hb5.tr0 hs
         replace hb6 := hb6.tr0 hs
         replace hb7 := hb7.tr0 hs
         replace hb10 := hb10.tr0 hs
         replace hb12 := hb12.tr0 hs
         replace hb14 := hb14.tr0 hs
         replace hb16 := hb16.tr0 hs
         replace hb18 := hb18.tr0 hs
         replace hb20 := hb20.tr0 hs
         clear hs
         have d12 : gg 90 = .bool true := hd 12 (dep_of (by kernel_rfl))
         have e90 := d12
         have d18 : ∃ AR c, gg 96 = .agg #[.slice AR (canF l fs ga).length c] ∧ NodesIn wx AR (canF l fs ga) := hd 18 (dep_of (by kernel_rfl))
         obtain ⟨AR96, cR96, e96, hNR96⟩ := d18
         have d20 : ∃ AR c, gg 98 = .agg #[.slice AR (canF l fs gb).length c] ∧ NodesIn wx AR (canF l fs gb) := hd 20 (dep_of (by kernel_rfl))
         obtain ⟨AR98, cR98, e98, hNR98⟩ := d20
         refine guard_case 90 true rfl e90 (fun _ => ?_) (fun h => absurd h (by decide))
         refine os_know 90 (.bool true) e90 (by simp [undef]) ?_
         refine os_know 96 (.agg #[.slice AR96 (canF l fs ga).length cR96]) e96 (by simp [undef]) ?_
         refine os_know 98 (.agg #[.slice AR98 (canF l fs gb).length cR98]) e98 (by simp [undef]) ?_
         refine os_cl fn13 (nodesb_any AR96 AR98 _ _ cR96 cR98 _ _ false wx hNR96 hNR98 rfl rfl hcd) rfl (fun e' w2 hr => ?_)
         obtain ⟨rfl, hs⟩ := hr
         exact ⟨_, rfl, Same.of_bel hs, rfl, frsh_no⟩
        | 22, _, hoq =>
         obtain rfl : _ = o := Option.some.inj hoq
         have hs0 := hs
         replace hB := hB.tr0 hs
         replace hb4 := hb4.tr0 hs
         replace hb5 := hb5.tr0 hs
         replace hb6 := hb6.tr0 hs
         replace hb7 := hb7.tr0 hs
         replace hb10 := hb10.tr0 hs
         replace hb12 := hb12.tr0 hs
         replace hb14 := hb14.tr0 hs
         replace hb16 := hb16.tr0 hs
         replace hb18 := hb18.tr0 hs
         replace hb20 := hb20.tr0 hs
         clear hs
         have d12 : gg 90 = .bool true := hd 12 (dep_of (by kernel_rfl))
         have e90 := d12
         have d16 : gg 94 = .bool false := hd 16 (dep_of (by kernel_rfl))
         have e94 := d16
         have d21 : gg 99 = .bool false := hd 21 (dep_of (by kernel_rfl))
         have e99 := d21
         refine guard_case 90 true rfl e90 (fun _ => ?_) (fun h => absurd h (by decide))
         refine os_know 90 (.bool true) e90 (by simp [undef]) ?_
         refine os_know 94 (.bool false) e94 (by simp [undef]) ?_
         refine os_know 99 (.bool false) e99 (by simp [undef]) ?_
         refine os_rv (r_eqlB Tryd.underlying4 rfl rfl) ⟨Same.refl _ _, ?_, frsh_no⟩
         exact rfl
        | 23, _, hoq =>
         obtain rfl : _ = o := Option.some.inj hoq
         have hs0 := hs
         replace hB := hB.tr0 hs
         replace hb4 := hb4.tr0 hs
         replace hb5 := hb5.tr0 hs
         replace hb6 := hb6.tr0 hs
         replace hb7 := hb7.tr0 hs
         replace hb10 := hb10.tr0 hs
         replace hb12 := hb12.tr0 hs
         replace hb14 := hb14.tr0 hs
         replace hb16 := hb16.tr0 hs
         replace hb18 := hb18.tr0 hs
         replace hb20 := hb20.tr0 hs
         clear hs
         have d12 : gg 90 = .bool true := hd 12 (dep_of (by kernel_rfl))
         have e90 := d12
         have d22 : gg 100 = .bool true := hd 22 (dep_of (by kernel_rfl))
         have e100 := d22
         refine ⟨fun _ => ?_, fun hw => Bool.noConfusion (show true = false from hw)⟩
         refine os_know 90 (.bool true) e90 (by simp [undef]) ?_
         refine os_know 100 (.bool true) e100 (by simp [undef]) ?_
         refine os_rv (r_pt (v := .bool _) rfl rfl) ⟨Same.refl _ _, ?_, frsh_no⟩
         exact rfl
        | 24, _, hoq =>
         obtain rfl : _ = o := Option.some.inj hoq
         have hs0 := hs
         replace hB := hB.tr0 hs
         replace hb4 := hb4.tr0 hs
         replace hb5 := hb5.tr0 hs
         replace hb6 := hb6.tr0 hs
         replace hb7 := hb7.tr0 hs
         replace hb10 := hb10.tr0 hs
         replace hb12 := hb12.tr0 hs
         replace hb14 := hb14.tr0 hs
         replace hb16 := hb16.tr0 hs
         replace hb18 := hb18.tr0 hs
         replace hb20 := hb20.tr0 hs
         clear hs
         have d23 : gg 101 = .bool true := hd 23 (dep_of (by kernel_rfl))
         have e101 := d23
         refine ⟨fun _ => ?_, fun hw => Bool.noConfusion (show true = false from hw)⟩
         refine os_know 101 (.bool true) e101 (by simp [undef]) ?_
         refine os_rv (r_as (v := .bool _) rfl) ⟨Same.refl _ _, ?_, frsh_no⟩
         exact rfl
        | _ + 25, hix, _ => exact absurd hix (by omega)
       ·
        intro gg w31 hs hR hdis
        have hs0 := hs
        replace hB := hB.tr0 hs
        replace hb4 := hb4.tr0 hs
        replace hb5 := hb5.tr0 hs
        replace hb6 := hb6.tr0 hs
        replace hb7 := hb7.tr0 hs
        replace hb10 := hb10.tr0 hs
        replace hb12 := hb12.tr0 hs
        replace hb14 := hb14.tr0 hs
        replace hb16 := hb16.tr0 hs
        replace hb18 := hb18.tr0 hs
        replace hb20 := hb20.tr0 hs
        clear hs
        have d24 : gg 8 = .bool true := hR 24 (by decide)
        have e8 := d24
        refine wl_know 8 (.bool true) e8 (by simp [undef]) ?_
        refine x_nil ?_
        refine e_S ?_
        refine c_ret ?_
        refine fin1 (.inl rfl) rfl rfl ?_
        exact ⟨rfl, hB⟩
    ·
     refine c_know 13 (.bool false) (congrArg Value.bool hab) (by simp [undef]) ?_
     have haa : subB l fs ga ga = true := (subB_iff hga0 hga0).2 ⟨_, Hom.refl hva.gx⟩
     have hcd : decide (canF l fs ga = canF l fs gb) = false := decide_eq_false (fun h => by have := ((can_dec hga0 hgb0).1 h).1; rw [hab] at this; cases this)
     refine c_monoGO 25 [78, 79, 80, 81, 82, 83, 84, 85, 86, 87, 88, 89, 90, 91, 92, 93, 94, 95, 96, 97, 98, 99, 100, 101, 8] (fun _ => false) (fun ix v wv => match ix with | 0 => v = .bool true | 1 => v = .bool true | 2 => v = .bool false | 3 => v = .bool true | 4 => v = .bool true | 5 => v = undef | 6 => v = undef | 7 => v = .bool true | 8 => v = .bool true | 9 => v = undef | 10 => v = .bool true | 11 => v = .bool true | 12 => v = .bool true | 13 => v = .bool false | 14 => v = .bool false | 15 => v = undef | 16 => v = .bool false | 17 => v = .agg #[.slice G1 ga.length c1] | 18 => ∃ AR c, v = .agg #[.slice AR (canF l fs ga).length c] ∧ NodesIn wv AR (canF l fs ga) | 19 => v = .agg #[.slice G2 gb.length c2] | 20 => ∃ AR c, v = .agg #[.slice AR (canF l fs gb).length c] ∧ NodesIn wv AR (canF l fs gb) | 21 => v = .bool false | 22 => v = .bool true | 23 => v = .bool true | 24 => v = .bool true | _ => True) (by kernel_rfl) (by kernel_rfl) ?_ ?_ ?_
     ·
      intro ix v wv wv2 h hs
      match ix, h with
      | 0, h => exact h
      | 1, h => exact h
      | 2, h => exact h
      | 3, h => exact h
      | 4, h => exact h
      | 5, h => exact h
      | 6, h => exact h
      | 7, h => exact h
      | 8, h => exact h
      | 9, h => exact h
      | 10, h => exact h
      | 11, h => exact h
      | 12, h => exact h
      | 13, h => exact h
      | 14, h => exact h
      | 15, h => exact h
      | 16, h => exact h
      | 17, h => exact h
      | 18, h =>
       obtain ⟨AR96, cR96, e96, hNR96⟩ := (show ∃ AR c, v = .agg #[.slice AR (canF l fs ga).length c] ∧ NodesIn wv AR (canF l fs ga) from h)
       exact ⟨AR96, cR96, e96, hNR96.mono hs.bel⟩
      | 19, h => exact h
      | 20, h =>
       obtain ⟨AR98, cR98, e98, hNR98⟩ := (show ∃ AR c, v = .agg #[.slice AR (canF l fs gb).length c] ∧ NodesIn wv AR (canF l fs gb) from h)
       exact ⟨AR98, cR98, e98, hNR98.mono hs.bel⟩
      | 21, h => exact h
      | 22, h => exact h
      | 23, h => exact h
      | 24, h => exact h
      | _ + 25, h => exact trivial
     ·
      intro ix o hix hoq gg wx hs hd hdis
      match ix, hix, hoq with
      | 0, _, hoq =>
       obtain rfl : _ = o := Option.some.inj hoq
       have hs0 := hs
       replace hB := hB.tr0 hs
       replace hb4 := hb4.tr0 hs
       replace hb5 := hb5.tr0 hs
       replace hb6 := hb6.tr0 hs
       replace hb7 := hb7.tr0 hs
       replace hb10 := hb10.tr0 hs
       replace hb12 := hb12.tr0 hs
       replace hb14 := hb14.tr0 hs
       replace hb16 := hb16.tr0 hs
       replace hb18 := hb18.tr0 hs
       replace hb20 := hb20.tr0 hs
       clear hs
       refine ⟨fun _ => ?_, fun hw => Bool.noConfusion (show true = false from hw)⟩
       refine os_rv (r_mv (v := .bool _) rfl) ⟨Same.refl _ _, ?_, frsh_no⟩
       exact (congrArg Value.bool haa)
      | 1, _, hoq =>
       obtain rfl : _ = o := Option.some.inj hoq
       have hs0 := hs
       replace hB := hB.tr0 hs
       replace hb4 := hb4.tr0 hs
       replace hb5 := hb5.tr0 hs
       replace hb6 := hb6.tr0 hs
       replace hb7 := hb7.tr0 hs
       replace hb10 := hb10.tr0 hs
       replace hb12 := hb12.tr0 hs
       replace hb14 := hb14.tr0 hs
       replace hb16 := hb16.tr0 hs
       replace hb18 := hb18.tr0 hs
       replace hb20 := hb20.tr0 hs
       clear hs
       have d0 : gg 78 = .bool true := hd 0 (dep_of (by kernel_rfl))
       have e78 := d0
       refine ⟨fun _ => ?_, fun hw => Bool.noConfusion (show true = false from hw)⟩
       refine os_know 78 (.bool true) e78 (by simp [undef]) ?_
       refine os_rv (r_mv (v := .bool _) rfl) ⟨Same.refl _ _, ?_, frsh_no⟩
       exact rfl
      | 2, _, hoq =>
       obtain rfl : _ = o := Option.some.inj hoq
       have hs0 := hs
       replace hB := hB.tr0 hs
       replace hb4 := hb4.tr0 hs
       replace hb5 := hb5.tr0 hs
       replace hb6 := hb6.tr0 hs
       replace hb7 := hb7.tr0 hs
       replace hb10 := hb10.tr0 hs
       replace hb12 := hb12.tr0 hs
       replace hb14 := hb14.tr0 hs
       replace hb16 := hb16.tr0 hs
       replace hb18 := hb18.tr0 hs
       replace hb20 := hb20.tr0 hs
       clear hs
       have d1 : gg 79 = .bool true := hd 1 (dep_of (by kernel_rfl))
       have e79 := d1
       refine guard_case 79 true rfl e79 (fun _ => ?_) (fun h => absurd h (by decide))
       refine os_know 79 (.bool true) e79 (by simp [undef]) ?_
       refine os_rv (r_mv (v := .bool _) rfl) ⟨Same.refl _ _, ?_, frsh_no⟩
       exact rfl
      | 3, _, hoq =>
       obtain rfl : _ = o := Option.some.inj hoq
       have hs0 := hs
       replace hB := hB.tr0 hs
       replace hb4 := hb4.tr0 hs
       replace hb5 := hb5.tr0 hs
       replace hb6 := hb6.tr0 hs
       replace hb7 := hb7.tr0 hs
       replace hb10 := hb10.tr0 hs
       replace hb12 := hb12.tr0 hs
       replace hb14 := hb14.tr0 hs
       replace hb16 := hb16.tr0 hs
       replace hb18 := hb18.tr0 hs
       replace hb20 := hb20.tr0 hs
       clear hs
       have d1 : gg 79 = .bool true := hd 1 (dep_of (by kernel_rfl))
       have e79 := d1
       have d2 : gg 80 = .bool false := hd 2 (dep_of (by kernel_rfl))
       have e80 := d2
       refine guard_case 79 true rfl e79 (fun _ => ?_) (fun h => absurd h (by decide))
       refine os_know 79 (.bool true) e79 (by simp [undef]) ?_
       refine os_know 80 (.bool false) e80 (by simp [undef]) ?_
       refine os_rv (r_not rfl) ⟨Same.refl _ _, ?_, frsh_no⟩
       exact rfl
      | 4, _, hoq =>
       obtain rfl : _ = o := Option.some.inj hoq
       have hs0 := hs
       replace hB := hB.tr0 hs
       replace hb4 := hb4.tr0 hs
       replace hb5 := hb5.tr0 hs
       replace hb6 := hb6.tr0 hs
       replace hb7 := hb7.tr0 hs
       replace hb10 := hb10.tr0 hs
       replace hb12 := hb12.tr0 hs
       replace hb14 := hb14.tr0 hs
       replace hb16 := hb16.tr0 hs
       replace hb18 := hb18.tr0 hs
       replace hb20 := hb20.tr0 hs
       clear hs
       have d1 : gg 79 = .bool true := hd 1 (dep_of (by kernel_rfl))
       have e79 := d1
       have d3 : gg 81 = .bool true := hd 3 (dep_of (by kernel_rfl))
       have e81 := d3
       refine guard_case 79 true rfl e79 (fun _ => ?_) (fun h => absurd h (by decide))
       refine os_know 79 (.bool true) e79 (by simp [undef]) ?_
       refine os_know 81 (.bool true) e81 (by simp [undef]) ?_
       refine os_rv (r_mv (v := .bool _) rfl) ⟨Same.refl _ _, ?_, frsh_no⟩
       exact rfl
      | 5, _, hoq =>
       obtain rfl : _ = o := Option.some.inj hoq
       have hs0 := hs
       replace hB := hB.tr0 hs
       replace hb4 := hb4.tr0 hs
       replace hb5 := hb5.tr0 hs
       replace hb6 := hb6.tr0 hs
       replace hb7 := hb7.tr0 hs
       replace hb10 := hb10.tr0 hs
       replace hb12 := hb12.tr0 hs
       replace hb14 := hb14.tr0 hs
       replace hb16 := hb16.tr0 hs
       replace hb18 := hb18.tr0 hs
       replace hb20 := hb20.tr0 hs
       clear hs
       have d4 : gg 82 = .bool true := hd 4 (dep_of (by kernel_rfl))
       have e82 := d4
       exact guard_case 82 true rfl e82 (fun h => absurd h (by decide)) (fun _ => rfl)
      | 6, _, hoq =>
       obtain rfl : _ = o := Option.some.inj hoq
       have hs0 := hs
       replace hB := hB.tr0 hs
       replace hb4 := hb4.tr0 hs
       replace hb5 := hb5.tr0 hs
       replace hb6 := hb6.tr0 hs
       replace hb7 := hb7.tr0 hs
       replace hb10 := hb10.tr0 hs
       replace hb12 := hb12.tr0 hs
       replace hb14 := hb14.tr0 hs
       replace hb16 := hb16.tr0 hs
       replace hb18 := hb18.tr0 hs
       replace hb20 := hb20.tr0 hs
       clear hs
       have d4 : gg 82 = .bool true := hd 4 (dep_of (by kernel_rfl))
       have e82 := d4
       have d5 : gg 83 = undef := hd 5 (dep_of (by kernel_rfl))
       have e83 := d5
       exact guard_case 82 true rfl e82 (fun h => absurd h (by decide)) (fun _ => rfl)
      | 7, _, hoq =>
       obtain rfl : _ = o := Option.some.inj hoq
       have hs0 := hs
       replace hB := hB.tr0 hs
       replace hb4 := hb4.tr0 hs
       replace hb5 := hb5.tr0 hs
       replace hb6 := hb6.tr0 hs
       replace hb7 := hb7.tr0 hs
       replace hb10 := hb10.tr0 hs
       replace hb12 := hb12.tr0 hs
       replace hb14 := hb14.tr0 hs
       replace hb16 := hb16.tr0 hs
       replace hb18 := hb18.tr0 hs
       replace hb20 := hb20.tr0 hs
       clear hs
       have d1 : gg 79 = .bool true := hd 1 (dep_of (by kernel_rfl))
       have e79 := d1
       have d4 : gg 82 = .bool true := hd 4 (dep_of (by kernel_rfl))
       have e82 := d4
       have d6 : gg 84 = undef := hd 6 (dep_of (by kernel_rfl))
       have e84 := d6
       refine guard_case 79 true rfl e79 (fun _ => ?_) (fun h => absurd h (by decide))
       refine os_know 79 (.bool true) e79 (by simp [undef]) ?_
       refine os_know 82 (.bool true) e82 (by simp [undef]) ?_
       refine os_rv (r_pt (v := .bool _) rfl rfl) ⟨Same.refl _ _, ?_, frsh_no⟩
       exact rfl
      | 8, _, hoq =>
       obtain rfl : _ = o := Option.some.inj hoq
       have hs0 := hs
       replace hB := hB.tr0 hs
       replace hb4 := hb4.tr0 hs
       replace hb5 := hb5.tr0 hs
       replace hb6 := hb6.tr0 hs
       replace hb7 := hb7.tr0 hs
       replace hb10 := hb10.tr0 hs
       replace hb12 := hb12.tr0 hs
       replace hb14 := hb14.tr0 hs
       replace hb16 := hb16.tr0 hs
       replace hb18 := hb18.tr0 hs
       replace hb20 := hb20.tr0 hs
       clear hs
       have d1 : gg 79 = .bool true := hd 1 (dep_of (by kernel_rfl))
       have e79 := d1
       have d7 : gg 85 = .bool true := hd 7 (dep_of (by kernel_rfl))
       have e85 := d7
       refine guard_case 79 true rfl e79 (fun _ => ?_) (fun h => absurd h (by decide))
       refine os_know 79 (.bool true) e79 (by simp [undef]) ?_
       refine os_know 85 (.bool true) e85 (by simp [undef]) ?_
       refine os_rv (r_mv (v := .bool _) rfl) ⟨Same.refl _ _, ?_, frsh_no⟩
       exact rfl
      | 9, _, hoq =>
       obtain rfl : _ = o := Option.some.inj hoq
       have hs0 := hs
       replace hB := hB.tr0 hs
       replace hb4 := hb4.tr0 hs
       replace hb5 := hb5.tr0 hs
       replace hb6 := hb6.tr0 hs
       replace hb7 := hb7.tr0 hs
       replace hb10 := hb10.tr0 hs
       replace hb12 := hb12.tr0 hs
       replace hb14 := hb14.tr0 hs
       replace hb16 := hb16.tr0 hs
       replace hb18 := hb18.tr0 hs
       replace hb20 := hb20.tr0 hs
       clear hs
       have d8 : gg 86 = .bool true := hd 8 (dep_of (by kernel_rfl))
       have e86 := d8
       exact guard_case 86 true rfl e86 (fun h => absurd h (by decide)) (fun _ => rfl)
      | 10, _, hoq =>
       obtain rfl : _ = o := Option.some.inj hoq
       have hs0 := hs
       replace hB := hB.tr0 hs
       replace hb4 := hb4.tr0 hs
       replace hb5 := hb5.tr0 hs
       replace hb6 := hb6.tr0 hs
       replace hb7 := hb7.tr0 hs
       replace hb10 := hb10.tr0 hs
       replace hb12 := hb12.tr0 hs
       replace hb14 := hb14.tr0 hs
       replace hb16 := hb16.tr0 hs
       replace hb18 := hb18.tr0 hs
       replace hb20 := hb20.tr0 hs
       clear hs
       have d1 : gg 79 = .bool true := hd 1 (dep_of (by kernel_rfl))
       have e79 := d1
       have d8 : gg 86 = .bool true := hd 8 (dep_of (by kernel_rfl))
       have e86 := d8
       have d9 : gg 87 = undef := hd 9 (dep_of (by kernel_rfl))
       have e87 := d9
       refine guard_case 79 true rfl e79 (fun _ => ?_) (fun h => absurd h (by decide))
       refine os_know 79 (.bool true) e79 (by simp [undef]) ?_
       refine os_know 86 (.bool true) e86 (by simp [undef]) ?_
       refine os_rv (r_pt (v := .bool _) rfl rfl) ⟨Same.refl _ _, ?_, frsh_no⟩
       exact rfl
      | 11, _, hoq =>
       obtain rfl : _ = o := Option.some.inj hoq
       have hs0 := hs
       replace hB := hB.tr0 hs
       replace hb4 := hb4.tr0 hs
       replace hb5 := hb5.tr0 hs
       replace hb6 := hb6.tr0 hs
       replace hb7 := hb7.tr0 hs
       replace hb10 := hb10.tr0 hs
       replace hb12 := hb12.tr0 hs
       replace hb14 := hb14.tr0 hs
       replace hb16 := hb16.tr0 hs
       replace hb18 := hb18.tr0 hs
       replace hb20 := hb20.tr0 hs
       clear hs
       have d1 : gg 79 = .bool true := hd 1 (dep_of (by kernel_rfl))
       have e79 := d1
       have d10 : gg 88 = .bool true := hd 10 (dep_of (by kernel_rfl))
       have e88 := d10
       refine ⟨fun _ => ?_, fun hw => Bool.noConfusion (show true = false from hw)⟩
       refine os_know 79 (.bool true) e79 (by simp [undef]) ?_
       refine os_know 88 (.bool true) e88 (by simp [undef]) ?_
       refine os_rv (r_pt (v := .bool _) rfl rfl) ⟨Same.refl _ _, ?_, frsh_no⟩
       exact rfl
      | 12, _, hoq =>
       obtain rfl : _ = o := Option.some.inj hoq
       have hs0 := hs
       replace hB := hB.tr0 hs
       replace hb4 := hb4.tr0 hs
       replace hb5 := hb5.tr0 hs
       replace hb6 := hb6.tr0 hs
       replace hb7 := hb7.tr0 hs
       replace hb10 := hb10.tr0 hs
       replace hb12 := hb12.tr0 hs
       replace hb14 := hb14.tr0 hs
       replace hb16 := hb16.tr0 hs
       replace hb18 := hb18.tr0 hs
       replace hb20 := hb20.tr0 hs
       clear hs
       have d11 : gg 89 = .bool true := hd 11 (dep_of (by kernel_rfl))
       have e89 := d11
       refine ⟨fun _ => ?_, fun hw => Bool.noConfusion (show true = false from hw)⟩
       refine os_know 89 (.bool true) e89 (by simp [undef]) ?_
       refine os_rv (r_mv (v := .bool _) rfl) ⟨Same.refl _ _, ?_, frsh_no⟩
       exact rfl
      | 13, _, hoq =>
       obtain rfl : _ = o := Option.some.inj hoq
       have hs0 := hs
       replace hB := hB.tr0 hs
       replace hb4 := hb4.tr0 hs
       replace hb5 := hb5.tr0 hs
       replace hb6 := hb6.tr0 hs
       replace hb7 := hb7.tr0 hs
       replace hb10 := hb10.tr0 hs
       replace hb12 := hb12.tr0 hs
       replace hb14 := hb14.tr0 hs
       replace hb16 := hb16.tr0 hs
       replace hb18 := hb18.tr0 hs
       replace hb20 := hb20.tr0 hs
       clear hs
       have d12 : gg 90 = .bool true := hd 12 (dep_of (by kernel_rfl))
       have e90 := d12
       refine guard_case 90 true rfl e90 (fun _ => ?_) (fun h => absurd h (by decide))
       refine os_know 90 (.bool true) e90 (by simp [undef]) ?_
       refine os_rv (r_mv (v := .bool _) rfl) ⟨Same.refl _ _, ?_, frsh_no⟩
       exact rfl
      | 14, _, hoq =>
       obtain rfl : _ = o := Option.some.inj hoq
       have hs0 := hs
       replace hB := hB.tr0 hs
       replace hb4 := hb4.tr0 hs
       replace hb5 := hb5.tr0 hs
       replace hb6 := hb6.tr0 hs
       replace hb7 := hb7.tr0 hs
       replace hb10 := hb10.tr0 hs
       replace hb12 := hb12.tr0 hs
       replace hb14 := hb14.tr0 hs
       replace hb16 := hb16.tr0 hs
       replace hb18 := hb18.tr0 hs
       replace hb20 := hb20.tr0 hs
       clear hs
       have d12 : gg 90 = .bool true := hd 12 (dep_of (by kernel_rfl))
       have e90 := d12
       have d13 : gg 91 = .bool false := hd 13 (dep_of (by kernel_rfl))
       have e91 := d13
       refine guard_case 90 true rfl e90 (fun _ => ?_) (fun h => absurd h (by decide))
       refine os_know 90 (.bool true) e90 (by simp [undef]) ?_
       refine os_know 91 (.bool false) e91 (by simp [undef]) ?_
       refine os_rv (r_mv (v := .bool _) rfl) ⟨Same.refl _ _, ?_, frsh_no⟩
       exact rfl
      | 15, _, hoq =>
       obtain rfl : _ = o := Option.some.inj hoq
       have hs0 := hs
       replace hB := hB.tr0 hs
       replace hb4 := hb4.tr0 hs
       replace hb5 := hb5.tr0 hs
       replace hb6 := hb6.tr0 hs
       replace hb7 := hb7.tr0 hs
       replace hb10 := hb10.tr0 hs
       replace hb12 := hb12.tr0 hs
       replace hb14 := hb14.tr0 hs
       replace hb16 := hb16.tr0 hs
       replace hb18 := hb18.tr0 hs
       replace hb20 := hb20.tr0 hs
       clear hs
       have d14 : gg 92 = .bool false := hd 14 (dep_of (by kernel_rfl))
       have e92 := d14
       exact guard_case 92 false rfl e92 (fun h => absurd h (by decide)) (fun _ => rfl)
      | 16, _, hoq =>
       obtain rfl : _ = o := Option.some.inj hoq
       have hs0 := hs
       replace hB := hB.tr0 hs
       replace hb4 := hb4.tr0 hs
       replace hb5 := hb5.tr0 hs
       replace hb6 := hb6.tr0 hs
       replace hb7 := hb7.tr0 hs
       replace hb10 := hb10.tr0 hs
       replace hb12 := hb12.tr0 hs
       replace hb14 := hb14.tr0 hs
       replace hb16 := hb16.tr0 hs
       replace hb18 := hb18.tr0 hs
       replace hb20 := hb20.tr0 hs
       clear hs
       have d12 : gg 90 = .bool true := hd 12 (dep_of (by kernel_rfl))
       have e90 := d12
       have d14 : gg 92 = .bool false := hd 14 (dep_of (by kernel_rfl))
       have e92 := d14
       have d15 : gg 93 = undef := hd 15 (dep_of (by kernel_rfl))
       have e93 := d15
       refine guard_case 90 true rfl e90 (fun _ => ?_) (fun h => absurd h (by decide))
       refine os_know 90 (.bool true) e90 (by simp [undef]) ?_
       refine os_know 92 (.bool false) e92 (by simp [undef]) ?_
       refine os_rv (r_pf (v := .bool _) rfl rfl) ⟨Same.refl _ _, ?_, frsh_no⟩
       exact rfl
      | 17, _, hoq =>
       obtain rfl : _ = o := Option.some.inj hoq
       have hs0 := hs
       replace hB := hB.tr0 hs
       replace hb4 := hb4.tr0 hs
       replace hb5 := hb5.tr0 hs
       replace hb6 := hb6.tr0 hs
       replace hb7 := hb7.tr0 hs
       replace hb10 := hb10.tr0 hs
       replace hb12 := hb12.tr0 hs
       replace hb14 := hb14.tr0 hs
       replace hb16 := hb16.tr0 hs
       replace hb18 := hb18.tr0 hs
       replace hb20 := hb20.tr0 hs
       clear hs
       have d12 : gg 90 = .bool true := hd 12 (dep_of (by kernel_rfl))
       have e90 := d12
       refine guard_case 90 true rfl e90 (fun _ => ?_) (fun h => absurd h (by decide))
       refine os_know 90 (.bool true) e90 (by simp [undef]) ?_
       refine os_rv (r_ldS Tryd.underlying28 rfl rfl hb5.range0 sz28_GTgt) ⟨Same.refl _ _, ?_, frsh_no⟩
       exact rfl
      | 18, _, hoq =>
       obtain rfl : _ = o := Option.some.inj hoq
       have hs0 := hs
       replace hB := hB.tr0 hs
       replace hb4 := hb4.tr0 hs
       replace hb5 := hb5.tr0 hs
       replace hb6 := hb6.tr0 hs
       replace hb7 := hb7.tr0 hs
       replace hb10 := hb10.tr0 hs
       replace hb12 := hb12.tr0 hs
       replace hb14 := hb14.tr0 hs
       replace hb16 := hb16.tr0 hs
       replace hb18 := hb18.tr0 hs
       replace hb20 := hb20.tr0 hs
       clear hs
       have d12 : gg 90 = .bool true := hd 12 (dep_of (by kernel_rfl))
       have e90 := d12
       have d17 : gg 95 = .agg #[.slice G1 ga.length c1] := hd 17 (dep_of (by kernel_rfl))
       have e95 := d17
       refine guard_case 90 true rfl e90 (fun _ => ?_) (fun h => absurd h (by decide))
       refine os_know 90 (.bool true) e90 (by simp [undef]) ?_
       refine os_know 95 (.agg #[.slice G1 ga.length c1]) e95 (by simp [undef]) ?_
       refine os_cl fn23 (rcan_any G1 _ c1 l fs ga wx (hG1.mono hB) rfl hga0) rfl (fun e' w2 hr => ?_)
       obtain ⟨⟨AR, cR, rfl, hNR⟩, hs⟩ := hr
       exact ⟨_, rfl, Same.of_bel hs, ⟨_, _, rfl, hNR _ (FrSame.refl _ _)⟩, frsh_no⟩
      | 19, _, hoq =>
       obtain rfl : _ = o := Option.some.inj hoq
       have hs0 := hs
       replace hB := hB.tr0 hs
       replace hb4 := hb4.tr0 hs
       replace hb5 := hb5.tr0 hs
       replace hb6 := hb6.tr0 hs
       replace hb7 := hb7.tr0 hs
       replace hb10 := hb10.tr0 hs
       replace hb12 := hb12.tr0 hs
       replace hb14 := hb14.tr0 hs
       replace hb16 := hb16.tr0 hs
       replace hb18 := hb18.tr0 hs
       replace hb20 := hb20.tr0 hs
       clear hs
       have d12 : gg 90 = .bool true := hd 12 (dep_of (by kernel_rfl))
       have e90 := d12
       refine guard_case 90 true rfl e90 (fun _ => ?_) (fun h => absurd h (by decide))
       refine os_know 90 (.bool true) e90 (by simp [undef]) ?_
       refine os_rv (r_ldS Tryd.underlying28 rfl rfl hb6.range0 sz28_GTgt) ⟨Same.refl _ _, ?_, frsh_no⟩
       exact rfl
      | 20, _, hoq =>
       obtain rfl : _ = o := Option.some.inj hoq
       have hs0 := hs
       replace hB := hB.tr0 hs
       replace hb4 := hb4.tr0 hs
       replace hb5 := hb5.tr0 hs
       replace hb6 := hb6.tr0 hs
       replace hb7 := hb7.tr0 hs
       replace hb10 := hb10.tr0 hs
       replace hb12 := hb12.tr0 hs
       replace hb14 := hb14.tr0 hs
       replace hb16 := hb16.tr0 hs
       replace hb18 := hb18.tr0 hs
       replace hb20 := hb20.tr0 hs
       clear hs
       have d12 : gg 90 = .bool true := hd 12 (dep_of (by kernel_rfl))
       have e90 := d12
       have d19 : gg 97 = .agg #[.slice G2 gb.length c2] := hd 19 (dep_of (by kernel_rfl))
       have e97 := d19
       refine guard_case 90 true rfl e90 (fun _ => ?_) (fun h => absurd h (by decide))
       refine os_know 90 (.bool true) e90 (by simp [undef]) ?_
       refine os_know 97 (.agg #[.slice G2 gb.length c2]) e97 (by simp [undef]) ?_
       refine os_cl fn23 (rcan_any G2 _ c2 l fs gb wx (hG2.mono hB) rfl hgb0) rfl (fun e' w2 hr => ?_)
       obtain ⟨⟨AR, cR, rfl, hNR⟩, hs⟩ := hr
       exact ⟨_, rfl, Same.of_bel hs, ⟨_, _, rfl, hNR _ (FrSame.refl _ _)⟩, frsh_no⟩
      | 21, _, hoq =>
       obtain rfl : _ = o := Option.some.inj hoq
       have hs0 := hs
       replace hB := hB.tr0 hs
       replace hb4 := hb4.tr0 hs
       replace hb5 := hb5.tr0 hs
       replace hb6 := hb6.tr0 hs
       replace hb7 := hb7.tr0 hs
       replace hb10 := hb10.tr0 hs
       replace hb12 := hb12.tr0 hs
       replace hb14 := hb14.tr0 hs
       replace hb16 := hb16.tr0 hs
       replace hb18 := hb18.tr0 hs
       replace hb20 := hb20.tr0 hs
       clear hs
       have d12 : gg 90 = .bool true := hd 12 (dep_of (by kernel_rfl))
       have e90 := d12
       have d18 : ∃ AR c, gg 96 = .agg #[.slice AR (canF l fs ga).length c] ∧ NodesIn wx AR (canF l fs ga) := hd 18 (dep_of (by kernel_rfl))
       obtain ⟨AR96, cR96, e96, hNR96⟩ := d18
       have d20 : ∃ AR c, gg 98 = .agg #[.slice AR (canF l fs gb).length c] ∧ NodesIn wx AR (canF l fs gb) := hd 20 (dep_of (by kernel_rfl))
       obtain ⟨AR98, cR98, e98, hNR98⟩ := d20
       refine guard_case 90 true rfl e90 (fun _ => ?_) (fun h => absurd h (by decide))
       refine os_know 90 (.bool true) e90 (by simp [undef]) ?_
       refine os_know 96 (.agg #[.slice AR96 (canF l fs ga).length cR96]) e96 (by simp [undef]) ?_
       refine os_know 98 (.agg #[.slice AR98 (canF l fs gb).length cR98]) e98 (by simp [undef]) ?_
       refine os_cl fn13 (nodesb_any AR96 AR98 _ _ cR96 cR98 _ _ false wx hNR96 hNR98 rfl rfl hcd) rfl (fun e' w2 hr => ?_)
       obtain ⟨rfl, hs⟩ := hr
       exact ⟨_, rfl, Same.of_bel hs, rfl, frsh_no⟩
      | 22, _, hoq =>
       obtain rfl : _ = o := Option.some.inj hoq
       have hs0 := hs
       replace hB := hB.tr0 hs
       replace hb4 := hb4.tr0 hs
       replace hb5 := hb5.tr0 hs
       replace hb6 := hb6.tr0 hs
       replace hb7 := hb7.tr0 hs
       replace hb10 := hb10.tr0 hs
       replace hb12 := hb12.tr0 hs
       replace hb14 := hb14.tr0 hs
       replace hb16 := hb16.tr0 hs
       replace hb18 := hb18.tr0 hs
       replace hb20 := hb20.tr0 hs
       clear hs
       have d12 : gg 90 = .bool true := hd 12 (dep_of (by kernel_rfl))
       have e90 := d12
       have d16 : gg 94 = .bool false := hd 16 (dep_of (by kernel_rfl))
       have e94 := d16
       have d21 : gg 99 = .bool false := hd 21 (dep_of (by kernel_rfl))
       have e99 := d21
       refine guard_case 90 true rfl e90 (fun _ => ?_) (fun h => absurd h (by decide))
       refine os_know 90 (.bool true) e90 (by simp [undef]) ?_
       refine os_know 94 (.bool false) e94 (by simp [undef]) ?_
       refine os_know 99 (.bool false) e99 (by simp [undef]) ?_
       refine os_rv (r_eqlB Tryd.underlying4 rfl rfl) ⟨Same.refl _ _, ?_, frsh_no⟩
       exact rfl
      | 23, _, hoq =>
       obtain rfl : _ = o := Option.some.inj hoq
       have hs0 := hs
       replace hB := hB.tr0 hs
       replace hb4 := hb4.tr0 hs
       replace hb5 := hb5.tr0 hs
       replace hb6 := hb6.tr0 hs
       replace hb7 := hb7.tr0 hs
       replace hb10 := hb10.tr0 hs
       replace hb12 := hb12.tr0 hs
       replace hb14 := hb14.tr0 hs
       replace hb16 := hb16.tr0 hs
       replace hb18 := hb18.tr0 hs
       replace hb20 := hb20.tr0 hs
       clear hs
       have d12 : gg 90 = .bool true := hd 12 (dep_of (by kernel_rfl))
       have e90 := d12
       have d22 : gg 100 = .bool true := hd 22 (dep_of (by kernel_rfl))
       have e100 := d22
       refine ⟨fun _ => ?_, fun hw => Bool.noConfusion (show true = false from hw)⟩
       refine os_know 90 (.bool true) e90 (by simp [undef]) ?_
       refine os_know 100 (.bool true) e100 (by simp [undef]) ?_
       refine os_rv (r_pt (v := .bool _) rfl rfl) ⟨Same.refl _ _, ?_, frsh_no⟩
       exact rfl
      | 24, _, hoq =>
       obtain rfl : _ = o := Option.some.inj hoq
       have hs0 := hs
       replace hB := hB.tr0 hs
       replace hb4 := hb4.tr0 hs
       replace hb5 := hb5.tr0 hs
       replace hb6 := hb6.tr0 hs
       replace hb7 := hb7.tr0 hs
       replace hb10 := hb10.tr0 hs
       replace hb12 := hb12.tr0 hs
       replace hb14 := hb14.tr0 hs
       replace hb16 := hb16.tr0 hs
       replace hb18 := hb18.tr0 hs
       replace hb20 := hb20.tr0 hs
       clear hs
       have d23 : gg 101 = .bool true := hd 23 (dep_of (by kernel_rfl))
       have e101 := d23
       refine ⟨fun _ => ?_, fun hw => Bool.noConfusion (show true = false from hw)⟩
       refine os_know 101 (.bool true) e101 (by simp [undef]) ?_
       refine os_rv (r_as (v := .bool _) rfl) ⟨Same.refl _ _, ?_, frsh_no⟩
       exact rfl
      | _ + 25, hix, _ => exact absurd hix (by omega)
     ·
      intro gg w32 hs hR hdis
      have hs0 := hs
      replace hB := hB.tr0 hs
      replace hb4 := hb4.tr0 hs
      replace hb5 := hb5.tr0 hs
      replace hb6 := hb6.tr0 hs
      replace hb7 := hb7.tr0 hs
      replace hb10 := hb10.tr0 hs
      replace hb12 := hb12.tr0 hs
      replace hb14 := hb14.tr0 hs
      replace hb16 := hb16.tr0 hs
      replace hb18 := hb18.tr0 hs
      replace hb20 := hb20.tr0 hs
      clear hs
      have d24 : gg 8 = .bool true := hR 24 (by decide)
      have e8 := d24
      refine wl_know 8 (.bool true) e8 (by simp [undef]) ?_
      refine x_nil ?_
      refine e_S ?_
      refine c_ret ?_
      refine fin1 (.inl rfl) rfl rfl ?_
      exact ⟨rfl, hB⟩
end Go.Proofs.YtlaihbaneoeffaaDoor
