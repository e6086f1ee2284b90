/- What these functions of the program compute, at every world: glosswright/glosswrightlaw3.HierarchyMeetLaws, glosswright/glosswrightlaw3.HierarchyJoinAbsorbs. -/
import Derived.Test.YthhkbhapfcfdjaaDoorOps
namespace Go.Proofs.YthhkbhapfcfdjaaDoor
open Go.RowKit

theorem two_in {l : List Ty} {fs : List Ft} (h0 : (hierFault l fs).1 = 0) {a b : Nat} (ha : a < l.length) (hb : b < l.length) : twoF l fs a b = (0, 0) := two_zero h0 (by omega) (by omega)
theorem hmeet_ok {A B : Option Addr} {c d : Nat} {l : List Ty} {fs : List Ft} {w : World} (hTab : TabIn w) (hT : TypesIn w A l) (hF : FeatsIn w B fs) (h0 : (hierFault l fs).1 = 0) {a b : Nat} (ha : a < l.length) (hb : b < l.length) : Calls Tryd.prog 11 #[.agg #[.slice A l.length c, .slice B fs.length d], .int .i64 a, .int .i64 b] w fun e w' => e = .returned (.tuple #[.int .i64 (meet l a b).1, .bool (meet l a b).2.1, .agg #[.int .i64 0, .int .i64 0]]) ∧ Bel w w' := by
  have h := hmeet_any A B c d l fs a b w hTab hT hF
  have e1 : hmeet l fs a b = ((meet l a b).1, (meet l a b).2.1) := by unfold hmeet; rw [two_in h0 ha hb, if_neg (fun h => h rfl)]; rfl
  rw [e1, two_in h0 ha hb] at h
  exact h
theorem hmeet_okc {A B : Option Addr} {c d : Nat} {l : List Ty} {fs : List Ft} {w : World} (hTab : TabIn w) (hT : TypesIn w A l) (hF : FeatsIn w B fs) (h0 : (hierFault l fs).1 = 0) {a b : Nat} (ha : a < l.length) (hb : b < l.length) : Calls Tryd.prog 11 #[.agg #[.slice A l.length c, .slice B fs.length d], .int .i64 b, .int .i64 a] w fun e w' => e = .returned (.tuple #[.int .i64 (meet l a b).1, .bool (meet l a b).2.1, .agg #[.int .i64 0, .int .i64 0]]) ∧ Bel w w' := by
  rw [← meet_comm l a b]; exact hmeet_ok hTab hT hF h0 hb ha
theorem hsub_ok {A B : Option Addr} {c d : Nat} {l : List Ty} {fs : List Ft} {w : World} (hTab : TabIn w) (hT : TypesIn w A l) (hF : FeatsIn w B fs) (h0 : (hierFault l fs).1 = 0) {a b : Nat} (ha : a < l.length) (hb : b < l.length) : Calls Tryd.prog 13 #[.agg #[.slice A l.length c, .slice B fs.length d], .int .i64 a, .int .i64 b] w fun e w' => e = .returned (.tuple #[.bool (sub l a b), .agg #[.int .i64 0, .int .i64 0]]) ∧ Bel w w' := by
  have h := hsub_any A B c d l fs a b w hTab hT hF
  have e1 : hsub l fs a b = sub l a b := by unfold hsub; rw [two_in h0 ha hb, if_neg (fun h => h rfl)]; rfl
  rw [e1, two_in h0 ha hb] at h
  exact h
theorem hjoin_ok {A B : Option Addr} {c d : Nat} {l : List Ty} {fs : List Ft} {w : World} (hTab : TabIn w) (hT : TypesIn w A l) (hF : FeatsIn w B fs) (h0 : (hierFault l fs).1 = 0) {a b : Nat} (ha : a < l.length) (hb : b < l.length) : Calls Tryd.prog 14 #[.agg #[.slice A l.length c, .slice B fs.length d], .int .i64 a, .int .i64 b] w fun e w' => (∃ A' cap, e = .returned (.tuple #[.slice A' (joinsK l a b l.length).length cap, .agg #[.int .i64 0, .int .i64 0]]) ∧ Own w' w.heap.size 3 1 A' (joinsK l a b l.length).length cap ((joinsK l a b l.length).map (Value.int .i64))) ∧ Bel w w' := by
  have h := hjoin_any A B c d l fs a b w hTab hT hF
  have e1 : hjoin l fs a b = joinsK l a b l.length := by unfold hjoin; rw [two_in h0 ha hb, if_neg (fun h => h rfl)]; rfl
  rw [e1, two_in h0 ha hb] at h
  exact h
theorem small_hf : (hierFault smallT smallF).1 = 0 := by rw [small_fault]
theorem small_meet35 : meet smallT 3 5 = (5, true, false) := by decide +kernel
theorem small_join45 : joinsK smallT 4 5 smallT.length = [3] := by decide +kernel
theorem small_sub43 : sub smallT 4 3 = true := by decide +kernel
theorem small_len : smallT.length = 15 := by decide +kernel
theorem small_meet {A B : Option Addr} {c d : Nat} {w : World} (hTab : TabIn w) (hT : TypesIn w A smallT) (hF : FeatsIn w B smallF) : Calls Tryd.prog 11 #[.agg #[.slice A 15 c, .slice B 5 d], .int .i64 3, .int .i64 5] w fun e w' => e = .returned (.tuple #[.int .i64 5, .bool true, .agg #[.int .i64 0, .int .i64 0]]) ∧ Bel w w' := by
  have h := hmeet_ok (c := c) (d := d) hTab hT hF small_hf (a := 3) (b := 5) (by rw [small_len]; decide) (by rw [small_len]; decide)
  rw [small_meet35] at h
  exact h
theorem small_sub {A B : Option Addr} {c d : Nat} {w : World} (hTab : TabIn w) (hT : TypesIn w A smallT) (hF : FeatsIn w B smallF) : Calls Tryd.prog 13 #[.agg #[.slice A 15 c, .slice B 5 d], .int .i64 4, .int .i64 3] w fun e w' => e = .returned (.tuple #[.bool true, .agg #[.int .i64 0, .int .i64 0]]) ∧ Bel w w' := by
  have h := hsub_ok (c := c) (d := d) hTab hT hF small_hf (a := 4) (b := 3) (by rw [small_len]; decide) (by rw [small_len]; decide)
  rw [small_sub43] at h
  exact h
theorem small_join {A B : Option Addr} {c d : Nat} {w : World} (hTab : TabIn w) (hT : TypesIn w A smallT) (hF : FeatsIn w B smallF) : Calls Tryd.prog 14 #[.agg #[.slice A 15 c, .slice B 5 d], .int .i64 4, .int .i64 5] w fun e w' => (∃ A' cap, e = .returned (.tuple #[.slice A' ([3] : List Int).length cap, .agg #[.int .i64 0, .int .i64 0]]) ∧ Own w' w.heap.size 3 1 A' ([3]).length cap (([3]).map (Value.int .i64))) ∧ Bel w w' := by
  have h := hjoin_ok (c := c) (d := d) hTab hT hF small_hf (a := 4) (b := 5) (by rw [small_len]; decide) (by rw [small_len]; decide)
  rw [small_join45] at h
  exact h

theorem fn11 : callable Tryd.prog 11 = true := by kernel_rfl
theorem fn12 : callable Tryd.prog 12 = true := by kernel_rfl
theorem fn13 : callable Tryd.prog 13 = true := by kernel_rfl
theorem fn14 : callable Tryd.prog 14 = true := by kernel_rfl
theorem fn15 : callable Tryd.prog 15 = true := by kernel_rfl
set_option maxHeartbeats 1000000 in
theorem law4_any (A B : Option Addr) (c d : Nat) (l : List Ty) (fs : List Ft) (cc : Int) (hcc : -9223372036854775808 ≤ cc ∧ cc ≤ 9223372036854775807) (a b : Int) (w : World) (hTab : TabIn w) (hl : l.length ≤ c) (hf : fs.length ≤ d) (hT : TypesIn w A l) (hF : FeatsIn w B fs) (ha : -9223372036854775808 ≤ a ∧ a ≤ 9223372036854775807) (hbb : -9223372036854775808 ≤ b ∧ b ≤ 9223372036854775807) : Calls Tryd.prog 4 #[.agg #[.slice A l.length c, .slice B fs.length d], .int .i64 a, .int .i64 b, .int .i64 cc] w fun e w' => e = .returned (.bool true) ∧ Bel w w' := by
  refine enter Tryd.func4 Tryd.ntmps4 rfl (Nat.le_of_ble_eq_true rfl) ?_
  have hB : Bel w w := Below.refl _ _
  refine c_seq ?_
  refine c_region ?_
  refine wl_bx (v := .agg #[_, _]) (cs := #[_, _]) rfl rfl (fun b4 w1 hb4 hs hr => ?_)
  have lo4 := Nat.le_trans (Bel.size hB) hr
  replace hB := hB.tr0 hs
  clear hs
  clear hr
  refine wl (r_as (v := .bool _) rfl) ?_
  refine x_nil ?_
  refine e_S ?_
  refine c_seq ?_
  refine c_seq ?_
  refine c_region ?_
  refine wl_cl fn9 (small_any _) rfl (fun e' w2 hr => ?_)
  obtain ⟨⟨As, cs, Bs, ds, xs, ys, zs, rfl, hTs, hFs⟩, hs⟩ := hr
  replace hs := Same.of_bel hs
  replace hB := hB.tr0 hs
  replace hb4 := hb4.tr0 hs
  clear hs
  refine ⟨_, rfl, ?_⟩
  refine wl (r_fdS (cs' := #[_, _]) Tryd.underlying36 rfl Tryd.underlying25 rfl sz25 rfl rfl) ?_
  refine wl_cl fn11 (small_meet (hTab.mono hB) hTs hFs) rfl (fun e' w3 hr => ?_)
  obtain ⟨rfl, hs⟩ := hr
  replace hs := Same.of_bel hs
  replace hB := hB.tr0 hs
  replace hb4 := hb4.tr0 hs
  clear hs
  refine ⟨_, rfl, ?_⟩
  refine wl (r_mv (v := .tuple _) rfl) ?_
  refine wl (r_ex (v := .int _ _) rfl rfl) ?_
  refine wl (r_ex (v := .bool _) rfl rfl) ?_
  refine wl (r_ex (v := .agg _) rfl rfl) ?_
  refine wl_al (cs := #[.int .i64 0, .int .i64 0]) ze27 rfl (fun b11 w4 hb11 hs hr => ?_)
  have or_b4_b11 : b4 < b11 := Nat.lt_of_lt_of_le hb4.lt hr
  have lo11 := Nat.le_trans (Bel.size hB) hr
  replace hB := hB.tr0 hs
  replace hb4 := hb4.tr0 hs
  clear hs
  clear hr
  refine wl (r_as (v := .int _ _) rfl) ?_
  refine wl (r_as (v := .bool _) rfl) ?_
  refine wl_stW hb11 rfl rfl sz27 rfl (by repeat (first | rfl | refine one_cons (by first | rfl | assumption) ?_)) (fun w5 hq hs => ?_)
  replace hB := hB.tr1 hs lo11
  replace hb4 := hb4.tr1 hs (by omega)
  clear hs
  replace hb11 := hq
  refine x_nil ?_
  refine e_S ?_
  refine c_seq ?_
  refine c_region ?_
  refine wl (r_mv (v := .bool _) rfl) ?_
  refine wl (r_not rfl) ?_
  refine wl (r_mv (v := .bool false) rfl) ?_
  refine wl_gd 35 rfl rfl ?_
  refine wl (r_mv (v := .int _ _) rfl) ?_
  refine wl_gd 35 rfl rfl ?_
  refine wl (r_neq rfl rfl) ?_
  refine wl (r_pf (v := .bool _) rfl rfl) ?_
  refine x_nil ?_
  refine e_S ?_
  refine c_ifd rfl (fun c38 => ?_) (fun c38 => ?_)
  · exact absurd rfl c38
  · skip
    refine c_skip ?_
    refine e_S ?_
    refine c_seq ?_
    refine c_seq ?_
    refine c_region ?_
    refine wl (r_ldS Tryd.underlying25 rfl rfl hb4.range0 sz25) ?_
    refine wl_cl fn10 (hierFault_any A B c d l fs _ hl hf (hT.mono hB) (hF.mono hB)) rfl (fun e' w6 hr => ?_)
    obtain ⟨rfl, hs⟩ := hr
    replace hs := Same.of_bel hs
    replace hB := hB.tr0 hs
    replace hb4 := hb4.tr0 hs
    replace hb11 := hb11.tr0 hs
    clear hs
    refine ⟨_, rfl, ?_⟩
    refine wl (r_fd1 (v := .int _ _) Tryd.underlying27 rfl Tryd.underlying3 rfl rfl rfl) ?_
    refine wl (r_neq rfl rfl) ?_
    refine x_nil ?_
    refine e_S ?_
    refine c_ifd rfl (fun c42 => ?_) (fun c42 => ?_)
    · skip
      refine c_seq ?_
      refine c_region ?_
      refine wl (r_as (v := .bool _) rfl) ?_
      refine x_nil ?_
      refine e_S ?_
      refine c_ret ?_
      refine e_Sr ?_
      refine fin1 (.inl rfl) rfl rfl ?_
      exact ⟨rfl, hB⟩
    · have h0 := Decidable.not_not.1 c42
      have hS := sound_of h0
      refine c_skip ?_
      refine e_S ?_
      refine c_seq ?_
      refine c_region ?_
      refine wl (r_fa Tryd.underlying25 sz22 (by decide) rfl rfl rfl) ?_
      refine wl (r_ld1 (v := .slice _ _ _) Tryd.underlying22 rfl rfl (hb4.cell rfl)) ?_
      refine wl (r_len Tryd.underlying22 rfl) ?_
      refine wl (r_as (v := .int _ _) rfl) ?_
      refine x_nil ?_
      refine e_S ?_
      refine c_seq ?_
      obtain ⟨x, hxl, hax⟩ : ∃ x : Nat, x < l.length ∧ modI a l.length = (x : Int) := ⟨_, modN_lt a hS.pos, modN_eq a hS.pos⟩
      obtain ⟨y, hyl, hay⟩ : ∃ x : Nat, x < l.length ∧ modI b l.length = (x : Int) := ⟨_, modN_lt b hS.pos, modN_eq b hS.pos⟩
      obtain ⟨z, hzl, haz⟩ : ∃ x : Nat, x < l.length ∧ modI cc l.length = (x : Int) := ⟨_, modN_lt cc hS.pos, modN_eq cc hS.pos⟩
      refine c_region ?_
      refine wl (r_mv (v := .int _ _) rfl) ?_
      refine wl (r_mv (v := .int _ _) rfl) ?_
      refine wl_cl fn12 (mod_any a l.length _ ha hS.pos hS.le) rfl (fun e' w7 hr => ?_)
      obtain ⟨rfl, hs⟩ := hr
      replace hs := Same.of_bel hs
      replace hB := hB.tr0 hs
      replace hb4 := hb4.tr0 hs
      replace hb11 := hb11.tr0 hs
      clear hs
      refine ⟨_, rfl, ?_⟩
      refine wl (r_mv (v := .int _ _) rfl) ?_
      refine wl (r_mv (v := .int _ _) rfl) ?_
      refine wl_cl fn12 (mod_any b l.length _ hbb hS.pos hS.le) rfl (fun e' w8 hr => ?_)
      obtain ⟨rfl, hs⟩ := hr
      replace hs := Same.of_bel hs
      replace hB := hB.tr0 hs
      replace hb4 := hb4.tr0 hs
      replace hb11 := hb11.tr0 hs
      clear hs
      refine ⟨_, rfl, ?_⟩
      refine wl (r_mv (v := .int _ _) rfl) ?_
      refine wl (r_mv (v := .int _ _) rfl) ?_
      refine wl_cl fn12 (mod_any cc l.length _ hcc hS.pos hS.le) rfl (fun e' w9 hr => ?_)
      obtain ⟨rfl, hs⟩ := hr
      replace hs := Same.of_bel hs
      replace hB := hB.tr0 hs
      replace hb4 := hb4.tr0 hs
      replace hb11 := hb11.tr0 hs
      clear hs
      refine ⟨_, rfl, ?_⟩
      refine wl (r_as (v := .int .i64 (x : Nat)) (congrArg (Value.int .i64) hax)) ?_
      refine wl (r_as (v := .int .i64 (y : Nat)) (congrArg (Value.int .i64) hay)) ?_
      refine wl (r_as (v := .int .i64 (z : Nat)) (congrArg (Value.int .i64) haz)) ?_
      refine x_nil ?_
      refine e_S ?_
      refine c_seq ?_
      refine c_region ?_
      refine wl (r_ldS Tryd.underlying25 rfl rfl hb4.range0 sz25) ?_
      refine wl (r_mv (v := .int _ _) rfl) ?_
      refine wl (r_mv (v := .int _ _) rfl) ?_
      refine wl_cl fn11 (hmeet_ok (c := c) (d := d) (hTab.mono hB) (hT.mono hB) (hF.mono hB) h0 hxl hyl) rfl (fun e' w10 hr => ?_)
      obtain ⟨rfl, hs⟩ := hr
      replace hs := Same.of_bel hs
      replace hB := hB.tr0 hs
      replace hb4 := hb4.tr0 hs
      replace hb11 := hb11.tr0 hs
      clear hs
      refine ⟨_, rfl, ?_⟩
      refine wl (r_mv (v := .tuple _) rfl) ?_
      refine wl (r_ex (v := .int _ _) rfl rfl) ?_
      refine wl (r_ex (v := .bool _) rfl rfl) ?_
      refine wl (r_ex (v := .agg _) rfl rfl) ?_
      refine wl_al (cs := #[.int .i64 0, .int .i64 0]) ze27 rfl (fun b15 w11 hb15 hs hr => ?_)
      have or_b4_b15 : b4 < b15 := Nat.lt_of_lt_of_le hb4.lt hr
      have or_b11_b15 : b11 < b15 := Nat.lt_of_lt_of_le hb11.lt hr
      have lo15 := Nat.le_trans (Bel.size hB) hr
      replace hB := hB.tr0 hs
      replace hb4 := hb4.tr0 hs
      replace hb11 := hb11.tr0 hs
      clear hs
      clear hr
      refine wl (r_as (v := .int _ _) rfl) ?_
      refine wl (r_as (v := .bool _) rfl) ?_
      refine wl_stW hb15 rfl rfl sz27 rfl (by repeat (first | rfl | refine one_cons (by first | rfl | assumption) ?_)) (fun w12 hq hs => ?_)
      replace hB := hB.tr1 hs lo15
      replace hb4 := hb4.tr1 hs (by omega)
      replace hb11 := hb11.tr1 hs (by omega)
      clear hs
      replace hb15 := hq
      refine x_nil ?_
      refine e_S ?_
      refine c_seq ?_
      refine c_region ?_
      refine wl (r_ldS Tryd.underlying25 rfl rfl hb4.range0 sz25) ?_
      refine wl (r_mv (v := .int _ _) rfl) ?_
      refine wl (r_mv (v := .int _ _) rfl) ?_
      refine wl_cl fn11 (hmeet_okc (c := c) (d := d) (hTab.mono hB) (hT.mono hB) (hF.mono hB) h0 hxl hyl) rfl (fun e' w13 hr => ?_)
      obtain ⟨rfl, hs⟩ := hr
      replace hs := Same.of_bel hs
      replace hB := hB.tr0 hs
      replace hb4 := hb4.tr0 hs
      replace hb11 := hb11.tr0 hs
      replace hb15 := hb15.tr0 hs
      clear hs
      refine ⟨_, rfl, ?_⟩
      refine wl (r_mv (v := .tuple _) rfl) ?_
      refine wl (r_ex (v := .int _ _) rfl rfl) ?_
      refine wl (r_ex (v := .bool _) rfl rfl) ?_
      refine wl (r_ex (v := .agg _) rfl rfl) ?_
      refine wl_al (cs := #[.int .i64 0, .int .i64 0]) ze27 rfl (fun b18 w14 hb18 hs hr => ?_)
      have or_b4_b18 : b4 < b18 := Nat.lt_of_lt_of_le hb4.lt hr
      have or_b11_b18 : b11 < b18 := Nat.lt_of_lt_of_le hb11.lt hr
      have or_b15_b18 : b15 < b18 := Nat.lt_of_lt_of_le hb15.lt hr
      have lo18 := Nat.le_trans (Bel.size hB) hr
      replace hB := hB.tr0 hs
      replace hb4 := hb4.tr0 hs
      replace hb11 := hb11.tr0 hs
      replace hb15 := hb15.tr0 hs
      clear hs
      clear hr
      refine wl (r_as (v := .int _ _) rfl) ?_
      refine wl (r_as (v := .bool _) rfl) ?_
      refine wl_stW hb18 rfl rfl sz27 rfl (by repeat (first | rfl | refine one_cons (by first | rfl | assumption) ?_)) (fun w15 hq hs => ?_)
      replace hB := hB.tr1 hs lo18
      replace hb4 := hb4.tr1 hs (by omega)
      replace hb11 := hb11.tr1 hs (by omega)
      replace hb15 := hb15.tr1 hs (by omega)
      clear hs
      replace hb18 := hq
      refine x_nil ?_
      refine e_S ?_
      refine c_seq ?_
      refine c_region ?_
      refine wl (r_ldS Tryd.underlying25 rfl rfl hb4.range0 sz25) ?_
      refine wl (r_mv (v := .int _ _) rfl) ?_
      refine wl (r_mv (v := .int _ _) rfl) ?_
      refine wl_cl fn13 (hsub_ok (c := c) (d := d) (hTab.mono hB) (hT.mono hB) (hF.mono hB) h0 hxl hyl) rfl (fun e' w16 hr => ?_)
      obtain ⟨rfl, hs⟩ := hr
      replace hs := Same.of_bel hs
      replace hB := hB.tr0 hs
      replace hb4 := hb4.tr0 hs
      replace hb11 := hb11.tr0 hs
      replace hb15 := hb15.tr0 hs
      replace hb18 := hb18.tr0 hs
      clear hs
      refine ⟨_, rfl, ?_⟩
      refine wl (r_mv (v := .tuple _) rfl) ?_
      refine wl (r_ex (v := .bool _) rfl rfl) ?_
      refine wl (r_ex (v := .agg _) rfl rfl) ?_
      refine wl_al (cs := #[.int .i64 0, .int .i64 0]) ze27 rfl (fun b20 w17 hb20 hs hr => ?_)
      have or_b4_b20 : b4 < b20 := Nat.lt_of_lt_of_le hb4.lt hr
      have or_b11_b20 : b11 < b20 := Nat.lt_of_lt_of_le hb11.lt hr
      have or_b15_b20 : b15 < b20 := Nat.lt_of_lt_of_le hb15.lt hr
      have or_b18_b20 : b18 < b20 := Nat.lt_of_lt_of_le hb18.lt hr
      have lo20 := Nat.le_trans (Bel.size hB) hr
      replace hB := hB.tr0 hs
      replace hb4 := hb4.tr0 hs
      replace hb11 := hb11.tr0 hs
      replace hb15 := hb15.tr0 hs
      replace hb18 := hb18.tr0 hs
      clear hs
      clear hr
      refine wl (r_as (v := .bool _) rfl) ?_
      refine wl_stW hb20 rfl rfl sz27 rfl (by repeat (first | rfl | refine one_cons (by first | rfl | assumption) ?_)) (fun w18 hq hs => ?_)
      replace hB := hB.tr1 hs lo20
      replace hb4 := hb4.tr1 hs (by omega)
      replace hb11 := hb11.tr1 hs (by omega)
      replace hb15 := hb15.tr1 hs (by omega)
      replace hb18 := hb18.tr1 hs (by omega)
      clear hs
      replace hb20 := hq
      refine x_nil ?_
      refine e_S ?_
      refine c_seq ?_
      refine c_seq ?_
      have hsm := sub_meet hS (b := y) hxl
      refine c_cut1 [78, 79, 80, 81, 82, 83, 84, 85, 86, 87, 88, 89, 90, 91, 92, 93, 94, 95, 96, 97, 98, 99, 100, 101, 102, 103, 104, 105, 106, 107, 108, 109, 110] 110 (.bool (decide (False))) (by simp [undef]) ?_ (fun gq => ?_)
      · refine c_region ?_
        refine wl (r_fa Tryd.underlying27 sz3 (by decide) rfl rfl rfl) ?_
        refine wl (r_ld1 (v := .int _ _) Tryd.underlying3 rfl rfl (hb15.cell rfl)) ?_
        refine wl (r_neq rfl rfl) ?_
        refine wl (r_mv (v := .bool false) rfl) ?_
        refine wl_gd 81 rfl rfl ?_
        refine wl (r_fa Tryd.underlying27 sz3 (by decide) rfl rfl rfl) ?_
        refine wl_gd 81 rfl rfl ?_
        refine wl (r_ld1 (v := .int _ _) Tryd.underlying3 rfl rfl (hb18.cell rfl)) ?_
        refine wl_gd 81 rfl rfl ?_
        refine wl (r_neq rfl rfl) ?_
        refine wl (r_pf (v := .bool _) rfl rfl) ?_
        refine wl (r_mv (v := .bool false) rfl) ?_
        refine wl_gd 86 rfl rfl ?_
        refine wl (r_fa Tryd.underlying27 sz3 (by decide) rfl rfl rfl) ?_
        refine wl_gd 86 rfl rfl ?_
        refine wl (r_ld1 (v := .int _ _) Tryd.underlying3 rfl rfl (hb20.cell rfl)) ?_
        refine wl_gd 86 rfl rfl ?_
        refine wl (r_neq rfl rfl) ?_
        refine wl (r_pf (v := .bool _) rfl rfl) ?_
        refine wl (r_mv (v := .bool false) rfl) ?_
        refine wl_gd 91 rfl rfl ?_
        refine wl (r_mv (v := .int _ _) rfl) ?_
        refine wl_gd 91 rfl rfl ?_
        refine wl (r_mv (v := .int _ _) rfl) ?_
        refine wl_gd 91 rfl rfl ?_
        refine wl (r_neq rfl rfl) ?_
        refine wl (r_pf (v := .bool _) rfl rfl) ?_
        refine wl (r_mv (v := .bool false) (congrArg Value.bool (decide_eq_false (fun h => h rfl)))) ?_
        refine wl_gd 96 rfl rfl ?_
        refine wl (r_mv (v := .bool _) rfl) ?_
        refine wl_gd 96 rfl rfl ?_
        refine wl (r_mv (v := .bool _) rfl) ?_
        refine wl_gd 96 rfl rfl ?_
        refine wl (r_neqB Tryd.underlying4 rfl rfl) ?_
        refine wl (r_pf (v := .bool _) rfl rfl) ?_
        refine wl (r_mv (v := .bool false) (congrArg Value.bool (by simp))) ?_
        refine wl_gd 101 rfl rfl ?_
        refine wl (r_mv (v := .bool _) rfl) ?_
        refine wl_gd 101 rfl rfl ?_
        refine wl (r_mv (v := .bool _) rfl) ?_
        refine wl_gd 101 rfl rfl ?_
        refine wl (r_mv (v := .bool _) rfl) ?_
        refine wl_cases 104 rfl (fun g104 => ?_) (fun g104 => ?_)
        · skip
          refine wl_gd 104 rfl rfl ?_
          refine wl (r_mv (v := .int _ _) rfl) ?_
          refine wl_gd 104 rfl rfl ?_
          refine wl (r_mv (v := .int _ _) rfl) ?_
          refine wl_gd 104 rfl rfl ?_
          refine wl (r_eql rfl rfl) ?_
          refine wl_gd 101 rfl rfl ?_
          refine wl (r_pt (v := .bool _) rfl rfl) ?_
          refine wl_gd 101 rfl rfl ?_
          refine wl (r_neqB Tryd.underlying4 rfl rfl) ?_
          refine wl (r_pf (v := .bool _) rfl rfl) ?_
          refine x_nil (e_R ⟨rfl, (by repeat (first | exact ag_refl | exact ag_ovr' | refine ag_upd rfl ?_ | refine ag_sub rfl ?_ | refine ag_kn (by assumption) ?_)), ?_⟩)
          show Value.bool _ = Value.bool _
          exact congrArg Value.bool (by first | (simp [hsm, g104]; done) | (simp [hsm, g104]; omega))
        · skip
          refine wlgn 104 rfl rfl rfl ?_
          refine wlgn 104 rfl rfl rfl ?_
          refine wlgn 104 rfl rfl rfl ?_
          refine wl_gd 101 rfl rfl ?_
          refine wl (r_pf (v := .bool _) rfl rfl) ?_
          refine wl_gd 101 rfl rfl ?_
          refine wl (r_neqB Tryd.underlying4 rfl rfl) ?_
          refine wl (r_pf (v := .bool _) rfl rfl) ?_
          refine x_nil (e_R ⟨rfl, (by repeat (first | exact ag_refl | exact ag_ovr' | refine ag_upd rfl ?_ | refine ag_sub rfl ?_ | refine ag_kn (by assumption) ?_)), ?_⟩)
          show Value.bool _ = Value.bool _
          exact congrArg Value.bool (by first | (simp [hsm, g104]; done) | (simp [hsm, g104]; omega))
      refine e_S ?_
      refine c_ifd rfl (fun c110 => ?_) (fun c110 => ?_)
      · exact c110.elim
      · skip
        refine c_skip ?_
        refine e_S ?_
        refine c_seq ?_
        refine c_region ?_
        refine wl (r_ldS Tryd.underlying25 rfl rfl hb4.range0 sz25) ?_
        refine wl (r_mv (v := .int _ _) rfl) ?_
        refine wl (r_mv (v := .int _ _) rfl) ?_
        refine wl_cl fn11 (hmeet_ok (c := c) (d := d) (hTab.mono hB) (hT.mono hB) (hF.mono hB) h0 hyl hzl) rfl (fun e' w19 hr => ?_)
        obtain ⟨rfl, hs⟩ := hr
        replace hs := Same.of_bel hs
        replace hB := hB.tr0 hs
        replace hb4 := hb4.tr0 hs
        replace hb11 := hb11.tr0 hs
        replace hb15 := hb15.tr0 hs
        replace hb18 := hb18.tr0 hs
        replace hb20 := hb20.tr0 hs
        clear hs
        refine ⟨_, rfl, ?_⟩
        refine wl (r_mv (v := .tuple _) rfl) ?_
        refine wl (r_ex (v := .int _ _) rfl rfl) ?_
        refine wl (r_ex (v := .bool _) rfl rfl) ?_
        refine wl (r_ex (v := .agg _) rfl rfl) ?_
        refine wl_al (cs := #[.int .i64 0, .int .i64 0]) ze27 rfl (fun b23 w20 hb23 hs hr => ?_)
        have or_b4_b23 : b4 < b23 := Nat.lt_of_lt_of_le hb4.lt hr
        have or_b11_b23 : b11 < b23 := Nat.lt_of_lt_of_le hb11.lt hr
        have or_b15_b23 : b15 < b23 := Nat.lt_of_lt_of_le hb15.lt hr
        have or_b18_b23 : b18 < b23 := Nat.lt_of_lt_of_le hb18.lt hr
        have or_b20_b23 : b20 < b23 := Nat.lt_of_lt_of_le hb20.lt hr
        have lo23 := Nat.le_trans (Bel.size hB) hr
        replace hB := hB.tr0 hs
        replace hb4 := hb4.tr0 hs
        replace hb11 := hb11.tr0 hs
        replace hb15 := hb15.tr0 hs
        replace hb18 := hb18.tr0 hs
        replace hb20 := hb20.tr0 hs
        clear hs
        clear hr
        refine wl (r_as (v := .int _ _) rfl) ?_
        refine wl (r_as (v := .bool _) rfl) ?_
        refine wl_stW hb23 rfl rfl sz27 rfl (by repeat (first | rfl | refine one_cons (by first | rfl | assumption) ?_)) (fun w21 hq hs => ?_)
        replace hB := hB.tr1 hs lo23
        replace hb4 := hb4.tr1 hs (by omega)
        replace hb11 := hb11.tr1 hs (by omega)
        replace hb15 := hb15.tr1 hs (by omega)
        replace hb18 := hb18.tr1 hs (by omega)
        replace hb20 := hb20.tr1 hs (by omega)
        clear hs
        replace hb23 := hq
        refine x_nil ?_
        refine e_S ?_
        refine c_seq ?_
        refine c_region ?_
        refine wl (r_as (v := .int _ _) rfl) ?_
        refine wl (r_as (v := .int _ _) rfl) ?_
        refine x_nil ?_
        refine e_S ?_
        refine c_seq ?_
        refine c_seq ?_
        refine c_region ?_
        refine wl (r_mv (v := .bool _) rfl) ?_
        refine x_nil ?_
        refine e_S ?_
        refine c_if rfl (fun c119 => ?_) (fun c119 => ?_)
        · have hm1 := (meet_spec hS.le c119).1
          refine c_region ?_
          refine wl (r_ldS Tryd.underlying25 rfl rfl hb4.range0 sz25) ?_
          refine wl (r_mv (v := .int _ _) rfl) ?_
          refine wl (r_mv (v := .int _ _) rfl) ?_
          refine wl_cl fn11 (hmeet_ok (c := c) (d := d) (hTab.mono hB) (hT.mono hB) (hF.mono hB) h0 hm1 hzl) rfl (fun e' w22 hr => ?_)
          obtain ⟨rfl, hs⟩ := hr
          replace hs := Same.of_bel hs
          replace hB := hB.tr0 hs
          replace hb4 := hb4.tr0 hs
          replace hb11 := hb11.tr0 hs
          replace hb15 := hb15.tr0 hs
          replace hb18 := hb18.tr0 hs
          replace hb20 := hb20.tr0 hs
          replace hb23 := hb23.tr0 hs
          clear hs
          refine ⟨_, rfl, ?_⟩
          refine wl (r_mv (v := .tuple _) rfl) ?_
          refine wl (r_ex (v := .int _ _) rfl rfl) ?_
          refine wl (r_ex (v := .bool _) rfl rfl) ?_
          refine wl (r_ex (v := .agg _) rfl rfl) ?_
          refine wl (r_as (v := .int _ _) rfl) ?_
          refine wl (r_as (v := .bool _) rfl) ?_
          refine x_nil ?_
          refine e_S ?_
          refine c_seq ?_
          refine c_seq ?_
          refine c_region ?_
          refine wl (r_mv (v := .bool _) rfl) ?_
          refine x_nil ?_
          refine e_S ?_
          refine c_if rfl (fun c128 => ?_) (fun c128 => ?_)
          · have hm2 := (meet_spec hS.le c128).1
            refine c_region ?_
            refine wl (r_ldS Tryd.underlying25 rfl rfl hb4.range0 sz25) ?_
            refine wl (r_mv (v := .int _ _) rfl) ?_
            refine wl (r_mv (v := .int _ _) rfl) ?_
            refine wl_cl fn11 (hmeet_ok (c := c) (d := d) (hTab.mono hB) (hT.mono hB) (hF.mono hB) h0 hxl hm2) rfl (fun e' w23 hr => ?_)
            obtain ⟨rfl, hs⟩ := hr
            replace hs := Same.of_bel hs
            replace hB := hB.tr0 hs
            replace hb4 := hb4.tr0 hs
            replace hb11 := hb11.tr0 hs
            replace hb15 := hb15.tr0 hs
            replace hb18 := hb18.tr0 hs
            replace hb20 := hb20.tr0 hs
            replace hb23 := hb23.tr0 hs
            clear hs
            refine ⟨_, rfl, ?_⟩
            refine wl (r_mv (v := .tuple _) rfl) ?_
            refine wl (r_ex (v := .int _ _) rfl rfl) ?_
            refine wl (r_ex (v := .bool _) rfl rfl) ?_
            refine wl (r_ex (v := .agg _) rfl rfl) ?_
            refine wl (r_as (v := .int _ _) rfl) ?_
            refine wl (r_as (v := .bool _) rfl) ?_
            refine x_nil ?_
            refine e_S ?_
            refine c_seq ?_
            have hA := meet_assoc hS hxl hyl hzl
            unfold meet3 meet3r at hA
            try rw [if_pos c119] at hA
            try rw [if_neg (Bool.eq_false_iff.1 c119)] at hA
            try rw [if_pos c128] at hA
            try rw [if_neg (Bool.eq_false_iff.1 c128)] at hA
            have hA1 := congrArg Prod.fst hA
            have hA2 := congrArg Prod.snd hA
            simp only at hA1 hA2
            refine c_region ?_
            refine wl (r_mv (v := .bool _) rfl) ?_
            refine wl (r_mv (v := .bool _) rfl) ?_
            refine wl (r_eqlB Tryd.underlying4 rfl rfl) ?_
            refine wl (r_mv (v := .bool true) (congrArg Value.bool (by first | (rw [hA2, c128]; rfl) | (rw [c119, c128]; rfl) | (rw [c119, ← hA2]; rfl) | (rw [hA2]; simp; done)))) ?_
            refine wl_gd 140 rfl rfl ?_
            refine wl (r_mv (v := .int _ _) rfl) ?_
            refine wl_gd 140 rfl rfl ?_
            refine wl (r_mv (v := .int _ _) rfl) ?_
            refine wl_gd 140 rfl rfl ?_
            refine wl (r_eql rfl rfl) ?_
            refine wl (r_pt (v := .bool _) rfl rfl) ?_
            refine wl (r_as (v := .bool _) rfl) ?_
            refine x_nil ?_
            refine e_S ?_
            refine c_ret ?_
            refine fin1 (.inl rfl) rfl rfl ?_
            refine ⟨?_, hB⟩
            exact ret_bool (decide_eq_true (by first | exact congrArg (fun n : Nat => (n : Int)) hA1 | rfl)).symm
          · skip
            refine c_skip ?_
            refine e_S ?_
            refine c_seq ?_
            have hA := meet_assoc hS hxl hyl hzl
            unfold meet3 meet3r at hA
            try rw [if_pos c119] at hA
            try rw [if_neg (Bool.eq_false_iff.1 c119)] at hA
            try rw [if_pos c128] at hA
            try rw [if_neg (Bool.eq_false_iff.1 c128)] at hA
            have hA1 := congrArg Prod.fst hA
            have hA2 := congrArg Prod.snd hA
            simp only at hA1 hA2
            refine c_region ?_
            refine wl (r_mv (v := .bool _) rfl) ?_
            refine wl (r_mv (v := .bool _) rfl) ?_
            refine wl (r_eqlB Tryd.underlying4 rfl rfl) ?_
            refine wl (r_mv (v := .bool true) (congrArg Value.bool (by first | (rw [hA2, c128]; rfl) | (rw [c119, c128]; rfl) | (rw [c119, ← hA2]; rfl) | (rw [hA2]; simp; done)))) ?_
            refine wl_gd 140 rfl rfl ?_
            refine wl (r_mv (v := .int _ _) rfl) ?_
            refine wl_gd 140 rfl rfl ?_
            refine wl (r_mv (v := .int _ _) rfl) ?_
            refine wl_gd 140 rfl rfl ?_
            refine wl (r_eql rfl rfl) ?_
            refine wl (r_pt (v := .bool _) rfl rfl) ?_
            refine wl (r_as (v := .bool _) rfl) ?_
            refine x_nil ?_
            refine e_S ?_
            refine c_ret ?_
            refine fin1 (.inl rfl) rfl rfl ?_
            refine ⟨?_, hB⟩
            exact ret_bool (decide_eq_true (by first | exact congrArg (fun n : Nat => (n : Int)) hA1 | rfl)).symm
        · skip
          refine c_skip ?_
          refine e_S ?_
          refine c_seq ?_
          refine c_seq ?_
          refine c_region ?_
          refine wl (r_mv (v := .bool _) rfl) ?_
          refine x_nil ?_
          refine e_S ?_
          refine c_if rfl (fun c128 => ?_) (fun c128 => ?_)
          · have hm2 := (meet_spec hS.le c128).1
            refine c_region ?_
            refine wl (r_ldS Tryd.underlying25 rfl rfl hb4.range0 sz25) ?_
            refine wl (r_mv (v := .int _ _) rfl) ?_
            refine wl (r_mv (v := .int _ _) rfl) ?_
            refine wl_cl fn11 (hmeet_ok (c := c) (d := d) (hTab.mono hB) (hT.mono hB) (hF.mono hB) h0 hxl hm2) rfl (fun e' w24 hr => ?_)
            obtain ⟨rfl, hs⟩ := hr
            replace hs := Same.of_bel hs
            replace hB := hB.tr0 hs
            replace hb4 := hb4.tr0 hs
            replace hb11 := hb11.tr0 hs
            replace hb15 := hb15.tr0 hs
            replace hb18 := hb18.tr0 hs
            replace hb20 := hb20.tr0 hs
            replace hb23 := hb23.tr0 hs
            clear hs
            refine ⟨_, rfl, ?_⟩
            refine wl (r_mv (v := .tuple _) rfl) ?_
            refine wl (r_ex (v := .int _ _) rfl rfl) ?_
            refine wl (r_ex (v := .bool _) rfl rfl) ?_
            refine wl (r_ex (v := .agg _) rfl rfl) ?_
            refine wl (r_as (v := .int _ _) rfl) ?_
            refine wl (r_as (v := .bool _) rfl) ?_
            refine x_nil ?_
            refine e_S ?_
            refine c_seq ?_
            have hA := meet_assoc hS hxl hyl hzl
            unfold meet3 meet3r at hA
            try rw [if_pos c119] at hA
            try rw [if_neg (Bool.eq_false_iff.1 c119)] at hA
            try rw [if_pos c128] at hA
            try rw [if_neg (Bool.eq_false_iff.1 c128)] at hA
            have hA1 := congrArg Prod.fst hA
            have hA2 := congrArg Prod.snd hA
            simp only at hA1 hA2
            refine c_region ?_
            refine wl (r_mv (v := .bool _) rfl) ?_
            refine wl (r_mv (v := .bool _) rfl) ?_
            refine wl (r_eqlB Tryd.underlying4 rfl rfl) ?_
            refine wl (r_mv (v := .bool true) (congrArg Value.bool (by first | (rw [hA2, c128]; rfl) | (rw [c119, c128]; rfl) | (rw [c119, ← hA2]; rfl) | (rw [hA2]; simp; done)))) ?_
            refine wl_gd 140 rfl rfl ?_
            refine wl (r_mv (v := .int _ _) rfl) ?_
            refine wl_gd 140 rfl rfl ?_
            refine wl (r_mv (v := .int _ _) rfl) ?_
            refine wl_gd 140 rfl rfl ?_
            refine wl (r_eql rfl rfl) ?_
            refine wl (r_pt (v := .bool _) rfl rfl) ?_
            refine wl (r_as (v := .bool _) rfl) ?_
            refine x_nil ?_
            refine e_S ?_
            refine c_ret ?_
            refine fin1 (.inl rfl) rfl rfl ?_
            refine ⟨?_, hB⟩
            exact ret_bool (decide_eq_true (by first | exact congrArg (fun n : Nat => (n : Int)) hA1 | rfl)).symm
          · skip
            refine c_skip ?_
            refine e_S ?_
            refine c_seq ?_
            have hA := meet_assoc hS hxl hyl hzl
            unfold meet3 meet3r at hA
            try rw [if_pos c119] at hA
            try rw [if_neg (Bool.eq_false_iff.1 c119)] at hA
            try rw [if_pos c128] at hA
            try rw [if_neg (Bool.eq_false_iff.1 c128)] at hA
            have hA1 := congrArg Prod.fst hA
            have hA2 := congrArg Prod.snd hA
            simp only at hA1 hA2
            refine c_region ?_
            refine wl (r_mv (v := .bool _) rfl) ?_
            refine wl (r_mv (v := .bool _) rfl) ?_
            refine wl (r_eqlB Tryd.underlying4 rfl rfl) ?_
            refine wl (r_mv (v := .bool true) (congrArg Value.bool (by first | (rw [hA2, c128]; rfl) | (rw [c119, c128]; rfl) | (rw [c119, ← hA2]; rfl) | (rw [hA2]; simp; done)))) ?_
            refine wl_gd 140 rfl rfl ?_
            refine wl (r_mv (v := .int _ _) rfl) ?_
            refine wl_gd 140 rfl rfl ?_
            refine wl (r_mv (v := .int _ _) rfl) ?_
            refine wl_gd 140 rfl rfl ?_
            refine wl (r_eql rfl rfl) ?_
            refine wl (r_pt (v := .bool _) rfl rfl) ?_
            refine wl (r_as (v := .bool _) rfl) ?_
            refine x_nil ?_
            refine e_S ?_
            refine c_ret ?_
            refine fin1 (.inl rfl) rfl rfl ?_
            refine ⟨?_, hB⟩
            exact ret_bool (decide_eq_true (by first | exact congrArg (fun n : Nat => (n : Int)) hA1 | rfl)).symm

set_option maxHeartbeats 1000000 in
theorem law5_any (A B : Option Addr) (c d : Nat) (l : List Ty) (fs : List Ft) (a b : Int) (w : World) (hTab : TabIn w) (hl : l.length ≤ c) (hf : fs.length ≤ d) (hT : TypesIn w A l) (hF : FeatsIn w B fs) (ha : -9223372036854775808 ≤ a ∧ a ≤ 9223372036854775807) (hbb : -9223372036854775808 ≤ b ∧ b ≤ 9223372036854775807) : Calls Tryd.prog 5 #[.agg #[.slice A l.length c, .slice B fs.length d], .int .i64 a, .int .i64 b] w fun e w' => e = .returned (.bool true) ∧ Bel w w' := by
  refine enter Tryd.func5 Tryd.ntmps5 rfl (Nat.le_of_ble_eq_true rfl) ?_
  have hB : Bel w w := Below.refl _ _
  refine c_seq ?_
  refine c_region ?_
  refine wl_bx (v := .agg #[_, _]) (cs := #[_, _]) rfl rfl (fun b3 w1 hb3 hs hr => ?_)
  have lo3 := Nat.le_trans (Bel.size hB) hr
  replace hB := hB.tr0 hs
  clear hs
  clear hr
  refine wl (r_as (v := .bool _) rfl) ?_
  refine x_nil ?_
  refine e_S ?_
  refine c_seq ?_
  refine c_seq ?_
  refine c_region ?_
  refine wl_cl fn9 (small_any _) rfl (fun e' w2 hr => ?_)
  obtain ⟨⟨As, cs, Bs, ds, xs, ys, zs, rfl, hTs, hFs⟩, hs⟩ := hr
  replace hs := Same.of_bel hs
  replace hB := hB.tr0 hs
  replace hb3 := hb3.tr0 hs
  clear hs
  refine ⟨_, rfl, ?_⟩
  refine wl (r_fdS (cs' := #[_, _]) Tryd.underlying36 rfl Tryd.underlying25 rfl sz25 rfl rfl) ?_
  have hbs := Bel.size hB
  refine wl_cl fn14 (small_join (hTab.mono hB) hTs hFs) rfl (fun e' w3 hr => ?_)
  obtain ⟨⟨AJ, capJ, rfl, hoJ⟩, hs⟩ := hr
  replace hs := Same.of_bel hs
  replace hB := hB.tr0 hs
  replace hb3 := hb3.tr0 hs
  clear hs
  refine ⟨_, rfl, ?_⟩
  refine wl (r_mv (v := .tuple _) rfl) ?_
  refine wl (r_ex (v := .slice _ _ _) rfl rfl) ?_
  refine wl (r_ex (v := .agg _) rfl rfl) ?_
  refine wl_al (cs := #[.int .i64 0, .int .i64 0]) ze27 rfl (fun b8 w4 hb8 hs hr => ?_)
  have or_b3_b8 : b3 < b8 := Nat.lt_of_lt_of_le hb3.lt hr
  have or_hoJ_b8 := fun g hg => Nat.lt_of_lt_of_le (hoJ.lt g hg).2 hr
  have lo8 := Nat.le_trans (Bel.size hB) hr
  replace hB := hB.tr0 hs
  replace hb3 := hb3.tr0 hs
  replace hoJ := hoJ.tr0 hs
  clear hs
  clear hr
  refine wl (r_as (v := .slice _ _ _) rfl) ?_
  refine wl_stW hb8 rfl rfl sz27 rfl (by repeat (first | rfl | refine one_cons (by first | rfl | assumption) ?_)) (fun w5 hq hs => ?_)
  replace hB := hB.tr1 hs lo8
  replace hb3 := hb3.tr1 hs (by omega)
  replace hoJ := hoJ.tr1 hs (fun g hg => by have := (hoJ.lt g hg).1; (try have := or_hoJ_b8 g hg); (try simp only [aL, List.mem_singleton] at hg); omega)
  clear hs
  replace hb8 := hq
  refine x_nil ?_
  refine e_S ?_
  refine c_seq ?_
  refine c_region ?_
  refine wl (r_mv (v := .slice _ _ _) rfl) ?_
  refine wl_bs (cs := #[_]) [(0, .int _ _)] rfl Tryd.underlying45 sz3 ze3 (by decide) (by decide) (by kernel_rfl) rfl (fun b20 w6 hb20 hs hr => ?_)
  have or_b3_b20 : b3 < b20 := Nat.lt_of_lt_of_le hb3.lt hr
  have or_hoJ_b20 := fun g hg => Nat.lt_of_lt_of_le (hoJ.lt g hg).2 hr
  have or_b8_b20 : b8 < b20 := Nat.lt_of_lt_of_le hb8.lt hr
  have lo20 := Nat.le_trans (Bel.size hB) hr
  replace hB := hB.tr0 hs
  replace hb3 := hb3.tr0 hs
  replace hoJ := hoJ.tr0 hs
  replace hb8 := hb8.tr0 hs
  clear hs
  clear hr
  refine wl_cl fn15 (equal_any _ _ _ _ [3] [3] _ (own_ints hoJ) (ints_of_blk [3] hb20 (by decide))) rfl (fun e' w7 hr => ?_)
  obtain ⟨rfl, hs⟩ := hr
  replace hs := Same.of_bel hs
  replace hB := hB.tr0 hs
  replace hb3 := hb3.tr0 hs
  replace hoJ := hoJ.tr0 hs
  replace hb8 := hb8.tr0 hs
  replace hb20 := hb20.tr0 hs
  clear hs
  refine ⟨_, rfl, ?_⟩
  refine wl (r_not rfl) ?_
  refine x_nil ?_
  refine e_S ?_
  refine c_if rfl (fun c22 => ?_) (fun c22 => ?_)
  · exact absurd c22 (by decide)
  · skip
    refine c_skip ?_
    refine e_S ?_
    refine c_seq ?_
    refine c_seq ?_
    refine c_region ?_
    refine wl (r_ldS Tryd.underlying25 rfl rfl hb3.range0 sz25) ?_
    refine wl_cl fn10 (hierFault_any A B c d l fs _ hl hf (hT.mono hB) (hF.mono hB)) rfl (fun e' w8 hr => ?_)
    obtain ⟨rfl, hs⟩ := hr
    replace hs := Same.of_bel hs
    replace hB := hB.tr0 hs
    replace hb3 := hb3.tr0 hs
    replace hoJ := hoJ.tr0 hs
    replace hb8 := hb8.tr0 hs
    replace hb20 := hb20.tr0 hs
    clear hs
    refine ⟨_, rfl, ?_⟩
    refine wl (r_fd1 (v := .int _ _) Tryd.underlying27 rfl Tryd.underlying3 rfl rfl rfl) ?_
    refine wl (r_neq rfl rfl) ?_
    refine x_nil ?_
    refine e_S ?_
    refine c_ifd rfl (fun c26 => ?_) (fun c26 => ?_)
    · skip
      refine c_seq ?_
      refine c_region ?_
      refine wl (r_as (v := .bool _) rfl) ?_
      refine x_nil ?_
      refine e_S ?_
      refine c_ret ?_
      refine e_Sr ?_
      refine fin1 (.inl rfl) rfl rfl ?_
      exact ⟨rfl, hB⟩
    · have h0 := Decidable.not_not.1 c26
      have hS := sound_of h0
      refine c_skip ?_
      refine e_S ?_
      refine c_seq ?_
      obtain ⟨x, hxl, hax⟩ : ∃ x : Nat, x < l.length ∧ modI a l.length = (x : Int) := ⟨_, modN_lt a hS.pos, modN_eq a hS.pos⟩
      obtain ⟨y, hyl, hay⟩ : ∃ x : Nat, x < l.length ∧ modI b l.length = (x : Int) := ⟨_, modN_lt b hS.pos, modN_eq b hS.pos⟩
      refine c_monoTO 10 [27, 28, 29, 30, 31, 32, 33, 34, 35, 36] (fun _ => false) (fun ix v wv => match ix with | 0 => v = .int .i64 a | 1 => v = .pointer (some ⟨b3, 0, none⟩) | 2 => v = .slice A l.length c | 3 => v = .int .i64 l.length | 4 => v = .int .i64 (modI a l.length) | 5 => v = .int .i64 b | 6 => v = .pointer (some ⟨b3, 0, none⟩) | 7 => v = .slice A l.length c | 8 => v = .int .i64 l.length | 9 => v = .int .i64 (modI b l.length) | _ => True) (by kernel_rfl) (by kernel_rfl) ?_ ?_ ?_
      · intro ix v wv wv2 h hs
        match ix, h with
        | 0, h => exact h
        | 1, h => exact h
        | 2, h => exact h
        | 3, h => exact h
        | 4, h => exact h
        | 5, h => exact h
        | 6, h => exact h
        | 7, h => exact h
        | 8, h => exact h
        | 9, h => exact h
        | _ + 10, h => exact trivial
      · intro ix o hix hoq gg wx hs hd hdis
        match ix, hix, hoq with
        | 0, _, hoq =>
          obtain rfl : _ = o := Option.some.inj hoq
          have hs0 := hs
          replace hB := hB.tr0 hs
          replace hb3 := hb3.tr0 hs
          replace hoJ := hoJ.tr0 hs
          replace hb8 := hb8.tr0 hs
          replace hb20 := hb20.tr0 hs
          clear hs
          refine os_rv (r_mv (v := .int _ _) rfl) ⟨Same.refl _ _, ?_, frsh_no⟩
          exact rfl
        | 1, _, hoq =>
          obtain rfl : _ = o := Option.some.inj hoq
          have hs0 := hs
          replace hB := hB.tr0 hs
          replace hb3 := hb3.tr0 hs
          replace hoJ := hoJ.tr0 hs
          replace hb8 := hb8.tr0 hs
          replace hb20 := hb20.tr0 hs
          clear hs
          refine os_rv (r_fa Tryd.underlying25 sz22 (by decide) rfl rfl rfl) ⟨Same.refl _ _, ?_, frsh_no⟩
          exact rfl
        | 2, _, hoq =>
          obtain rfl : _ = o := Option.some.inj hoq
          have hs0 := hs
          replace hB := hB.tr0 hs
          replace hb3 := hb3.tr0 hs
          replace hoJ := hoJ.tr0 hs
          replace hb8 := hb8.tr0 hs
          replace hb20 := hb20.tr0 hs
          clear hs
          have d1 : gg 28 = .pointer (some ⟨b3, 0, none⟩) := hd 1 (dep_of (by kernel_rfl))
          have e28 := d1
          refine os_know 28 (.pointer (some ⟨b3, 0, none⟩)) e28 (by simp [undef]) ?_
          refine os_rv (r_ld1 (v := .slice _ _ _) Tryd.underlying22 rfl rfl (hb3.cell rfl)) ⟨Same.refl _ _, ?_, frsh_no⟩
          exact rfl
        | 3, _, hoq =>
          obtain rfl : _ = o := Option.some.inj hoq
          have hs0 := hs
          replace hB := hB.tr0 hs
          replace hb3 := hb3.tr0 hs
          replace hoJ := hoJ.tr0 hs
          replace hb8 := hb8.tr0 hs
          replace hb20 := hb20.tr0 hs
          clear hs
          have d2 : gg 29 = .slice A l.length c := hd 2 (dep_of (by kernel_rfl))
          have e29 := d2
          refine os_know 29 (.slice A l.length c) e29 (by simp [undef]) ?_
          refine os_rv (r_len Tryd.underlying22 rfl) ⟨Same.refl _ _, ?_, frsh_no⟩
          exact rfl
        | 4, _, hoq =>
          obtain rfl : _ = o := Option.some.inj hoq
          have hs0 := hs
          replace hB := hB.tr0 hs
          replace hb3 := hb3.tr0 hs
          replace hoJ := hoJ.tr0 hs
          replace hb8 := hb8.tr0 hs
          replace hb20 := hb20.tr0 hs
          clear hs
          have d0 : gg 27 = .int .i64 a := hd 0 (dep_of (by kernel_rfl))
          have e27 := d0
          have d3 : gg 30 = .int .i64 l.length := hd 3 (dep_of (by kernel_rfl))
          have e30 := d3
          refine os_know 27 (.int .i64 a) e27 (by simp [undef]) ?_
          refine os_know 30 (.int .i64 l.length) e30 (by simp [undef]) ?_
          refine os_cl fn12 (mod_any a l.length wx ha hS.pos hS.le) rfl (fun e' w2 hr => ?_)
          obtain ⟨rfl, hs⟩ := hr
          exact ⟨_, rfl, Same.of_bel hs, rfl, frsh_no⟩
        | 5, _, hoq =>
          obtain rfl : _ = o := Option.some.inj hoq
          have hs0 := hs
          replace hB := hB.tr0 hs
          replace hb3 := hb3.tr0 hs
          replace hoJ := hoJ.tr0 hs
          replace hb8 := hb8.tr0 hs
          replace hb20 := hb20.tr0 hs
          clear hs
          refine os_rv (r_mv (v := .int _ _) rfl) ⟨Same.refl _ _, ?_, frsh_no⟩
          exact rfl
        | 6, _, hoq =>
          obtain rfl : _ = o := Option.some.inj hoq
          have hs0 := hs
          replace hB := hB.tr0 hs
          replace hb3 := hb3.tr0 hs
          replace hoJ := hoJ.tr0 hs
          replace hb8 := hb8.tr0 hs
          replace hb20 := hb20.tr0 hs
          clear hs
          refine os_rv (r_fa Tryd.underlying25 sz22 (by decide) rfl rfl rfl) ⟨Same.refl _ _, ?_, frsh_no⟩
          exact rfl
        | 7, _, hoq =>
          obtain rfl : _ = o := Option.some.inj hoq
          have hs0 := hs
          replace hB := hB.tr0 hs
          replace hb3 := hb3.tr0 hs
          replace hoJ := hoJ.tr0 hs
          replace hb8 := hb8.tr0 hs
          replace hb20 := hb20.tr0 hs
          clear hs
          have d6 : gg 33 = .pointer (some ⟨b3, 0, none⟩) := hd 6 (dep_of (by kernel_rfl))
          have e33 := d6
          refine os_know 33 (.pointer (some ⟨b3, 0, none⟩)) e33 (by simp [undef]) ?_
          refine os_rv (r_ld1 (v := .slice _ _ _) Tryd.underlying22 rfl rfl (hb3.cell rfl)) ⟨Same.refl _ _, ?_, frsh_no⟩
          exact rfl
        | 8, _, hoq =>
          obtain rfl : _ = o := Option.some.inj hoq
          have hs0 := hs
          replace hB := hB.tr0 hs
          replace hb3 := hb3.tr0 hs
          replace hoJ := hoJ.tr0 hs
          replace hb8 := hb8.tr0 hs
          replace hb20 := hb20.tr0 hs
          clear hs
          have d7 : gg 34 = .slice A l.length c := hd 7 (dep_of (by kernel_rfl))
          have e34 := d7
          refine os_know 34 (.slice A l.length c) e34 (by simp [undef]) ?_
          refine os_rv (r_len Tryd.underlying22 rfl) ⟨Same.refl _ _, ?_, frsh_no⟩
          exact rfl
        | 9, _, hoq =>
          obtain rfl : _ = o := Option.some.inj hoq
          have hs0 := hs
          replace hB := hB.tr0 hs
          replace hb3 := hb3.tr0 hs
          replace hoJ := hoJ.tr0 hs
          replace hb8 := hb8.tr0 hs
          replace hb20 := hb20.tr0 hs
          clear hs
          have d5 : gg 32 = .int .i64 b := hd 5 (dep_of (by kernel_rfl))
          have e32 := d5
          have d8 : gg 35 = .int .i64 l.length := hd 8 (dep_of (by kernel_rfl))
          have e35 := d8
          refine os_know 32 (.int .i64 b) e32 (by simp [undef]) ?_
          refine os_know 35 (.int .i64 l.length) e35 (by simp [undef]) ?_
          refine os_cl fn12 (mod_any b l.length wx hbb hS.pos hS.le) rfl (fun e' w2 hr => ?_)
          obtain ⟨rfl, hs⟩ := hr
          exact ⟨_, rfl, Same.of_bel hs, rfl, frsh_no⟩
        | _ + 10, hix, _ => exact absurd hix (by omega)
      · intro gg w9 hs hR hdis
        have hs0 := hs
        replace hB := hB.tr0 hs
        replace hb3 := hb3.tr0 hs
        replace hoJ := hoJ.tr0 hs
        replace hb8 := hb8.tr0 hs
        replace hb20 := hb20.tr0 hs
        clear hs
        have d4 : gg 31 = .int .i64 (modI a l.length) := hR 4 (by decide)
        have e31 := d4
        have d9 : gg 36 = .int .i64 (modI b l.length) := hR 9 (by decide)
        have e36 := d9
        refine wl_know 31 (.int .i64 (modI a l.length)) e31 (by simp [undef]) ?_
        refine wl_know 36 (.int .i64 (modI b l.length)) e36 (by simp [undef]) ?_
        refine wl (r_as (v := .int .i64 (x : Nat)) (congrArg (Value.int .i64) hax)) ?_
        refine wl (r_as (v := .int .i64 (y : Nat)) (congrArg (Value.int .i64) hay)) ?_
        refine x_nil ?_
        refine e_S ?_
        refine c_seq ?_
        refine c_region ?_
        refine wl (r_ldS Tryd.underlying25 rfl rfl hb3.range0 sz25) ?_
        refine wl (r_mv (v := .int _ _) rfl) ?_
        refine wl (r_mv (v := .int _ _) rfl) ?_
        refine wl_cl fn11 (hmeet_ok (c := c) (d := d) (hTab.mono hB) (hT.mono hB) (hF.mono hB) h0 hxl hyl) rfl (fun e' w10 hr => ?_)
        obtain ⟨rfl, hs⟩ := hr
        replace hs := Same.of_bel hs
        replace hB := hB.tr0 hs
        replace hb3 := hb3.tr0 hs
        replace hoJ := hoJ.tr0 hs
        replace hb8 := hb8.tr0 hs
        replace hb20 := hb20.tr0 hs
        clear hs
        refine ⟨_, rfl, ?_⟩
        refine wl (r_mv (v := .tuple _) rfl) ?_
        refine wl (r_ex (v := .int _ _) rfl rfl) ?_
        refine wl (r_ex (v := .bool _) rfl rfl) ?_
        refine wl (r_ex (v := .agg _) rfl rfl) ?_
        refine wl_al (cs := #[.int .i64 0, .int .i64 0]) ze27 rfl (fun b11 w11 hb11 hs hr => ?_)
        have or_b3_b11 : b3 < b11 := Nat.lt_of_lt_of_le hb3.lt hr
        have or_hoJ_b11 := fun g hg => Nat.lt_of_lt_of_le (hoJ.lt g hg).2 hr
        have or_b8_b11 : b8 < b11 := Nat.lt_of_lt_of_le hb8.lt hr
        have or_b20_b11 : b20 < b11 := Nat.lt_of_lt_of_le hb20.lt hr
        have lo11 := Nat.le_trans (Bel.size hB) hr
        replace hB := hB.tr0 hs
        replace hb3 := hb3.tr0 hs
        replace hoJ := hoJ.tr0 hs
        replace hb8 := hb8.tr0 hs
        replace hb20 := hb20.tr0 hs
        clear hs
        clear hr
        refine wl (r_as (v := .int _ _) rfl) ?_
        refine wl (r_as (v := .bool _) rfl) ?_
        refine wl_stW hb11 rfl rfl sz27 rfl (by repeat (first | rfl | refine one_cons (by first | rfl | assumption) ?_)) (fun w12 hq hs => ?_)
        replace hB := hB.tr1 hs lo11
        replace hb3 := hb3.tr1 hs (by omega)
        replace hoJ := hoJ.tr1 hs (fun g hg => by have := (hoJ.lt g hg).1; (try have := or_hoJ_b11 g hg); (try simp only [aL, List.mem_singleton] at hg); omega)
        replace hb8 := hb8.tr1 hs (by omega)
        replace hb20 := hb20.tr1 hs (by omega)
        clear hs
        replace hb11 := hq
        refine x_nil ?_
        refine e_S ?_
        refine c_seq ?_
        refine c_seq ?_
        refine c_region ?_
        refine wl (r_fa Tryd.underlying27 sz3 (by decide) rfl rfl rfl) ?_
        refine wl (r_ld1 (v := .int _ _) Tryd.underlying3 rfl rfl (hb11.cell rfl)) ?_
        refine wl (r_neq rfl rfl) ?_
        refine x_nil ?_
        refine e_S ?_
        refine c_ifd rfl (fun c47 => ?_) (fun c47 => ?_)
        · exact absurd rfl c47
        · skip
          refine c_skip ?_
          refine e_S ?_
          refine c_seq ?_
          refine c_seq ?_
          refine c_region ?_
          refine wl (r_mv (v := .bool _) rfl) ?_
          refine wl (r_not rfl) ?_
          refine x_nil ?_
          refine e_S ?_
          refine c_if rfl (fun c49 => ?_) (fun c49 => ?_)
          · skip
            refine c_seq ?_
            refine c_region ?_
            refine wl (r_as (v := .bool _) rfl) ?_
            refine x_nil ?_
            refine e_S ?_
            refine c_ret ?_
            refine e_Sr ?_
            refine fin1 (.inl rfl) rfl rfl ?_
            exact ⟨rfl, hB⟩
          · have hok : (meet l x y).2.1 = true := by simpa using c49
            have hml := (meet_spec hS.le hok).1
            have hjm := join_meet hS hxl hok
            refine c_skip ?_
            refine e_S ?_
            refine c_seq ?_
            refine c_region ?_
            refine wl (r_ldS Tryd.underlying25 rfl rfl hb3.range0 sz25) ?_
            refine wl (r_mv (v := .int _ _) rfl) ?_
            refine wl (r_mv (v := .int _ _) rfl) ?_
            have z11 := hb11.lt
            have hbs2 := Bel.size hB
            refine wl_cl fn14 (hjoin_ok (c := c) (d := d) (hTab.mono hB) (hT.mono hB) (hF.mono hB) h0 hxl hml) rfl (fun e' w13 hr => ?_)
            obtain ⟨⟨AK, capK, rfl, hoK⟩, hs⟩ := hr
            replace hs := Same.of_bel hs
            replace hB := hB.tr0 hs
            replace hb3 := hb3.tr0 hs
            replace hoJ := hoJ.tr0 hs
            replace hb8 := hb8.tr0 hs
            replace hb20 := hb20.tr0 hs
            replace hb11 := hb11.tr0 hs
            clear hs
            refine ⟨_, rfl, ?_⟩
            refine wl (r_mv (v := .tuple _) rfl) ?_
            refine wl (r_ex (v := .slice _ _ _) rfl rfl) ?_
            refine wl (r_ex (v := .agg _) rfl rfl) ?_
            refine wl (r_as (v := .slice _ _ _) rfl) ?_
            refine wl_stW hb11 rfl rfl sz27 rfl (by repeat (first | rfl | refine one_cons (by first | rfl | assumption) ?_)) (fun w14 hq hs => ?_)
            replace hB := hB.tr1 hs lo11
            replace hb3 := hb3.tr1 hs (by omega)
            replace hoJ := hoJ.tr1 hs (fun g hg => by have := (hoJ.lt g hg).1; (try have := or_hoJ_b11 g hg); (try simp only [aL, List.mem_singleton] at hg); omega)
            replace hb8 := hb8.tr1 hs (by omega)
            replace hb20 := hb20.tr1 hs (by omega)
            replace hoK := hoK.tr1 hs (fun g hg => by have := (hoK.lt g hg).1; (try have := or_hoK_b11 g hg); (try simp only [aL, List.mem_singleton] at hg); omega)
            clear hs
            replace hb11 := hq
            refine x_nil ?_
            refine e_S ?_
            refine c_seq ?_
            refine c_region ?_
            refine wl (r_fa Tryd.underlying27 sz3 (by decide) rfl rfl rfl) ?_
            refine wl (r_ld1 (v := .int _ _) Tryd.underlying3 rfl rfl (hb11.cell rfl)) ?_
            refine wl (r_eql rfl rfl) ?_
            refine wl (r_mv (v := .bool true) rfl) ?_
            refine wl_gd 60 rfl rfl ?_
            refine wl (r_mv (v := .slice _ _ _) rfl) ?_
            refine wl_gd 60 rfl rfl ?_
            refine wl (r_mv (v := .int _ _) rfl) ?_
            refine wl_gd 60 rfl rfl ?_
            refine wl_bs (cs := #[_]) [(0, .int _ _)] rfl Tryd.underlying45 sz3 ze3 (by decide) (by decide) (by kernel_rfl) rfl (fun b63 w15 hb63 hs hr => ?_)
            have or_b3_b63 : b3 < b63 := Nat.lt_of_lt_of_le hb3.lt hr
            have or_hoJ_b63 := fun g hg => Nat.lt_of_lt_of_le (hoJ.lt g hg).2 hr
            have or_b8_b63 : b8 < b63 := Nat.lt_of_lt_of_le hb8.lt hr
            have or_b20_b63 : b20 < b63 := Nat.lt_of_lt_of_le hb20.lt hr
            have or_b11_b63 : b11 < b63 := Nat.lt_of_lt_of_le hb11.lt hr
            have or_hoK_b63 := fun g hg => Nat.lt_of_lt_of_le (hoK.lt g hg).2 hr
            have lo63 := Nat.le_trans (Bel.size hB) hr
            replace hB := hB.tr0 hs
            replace hb3 := hb3.tr0 hs
            replace hoJ := hoJ.tr0 hs
            replace hb8 := hb8.tr0 hs
            replace hb20 := hb20.tr0 hs
            replace hb11 := hb11.tr0 hs
            replace hoK := hoK.tr0 hs
            clear hs
            clear hr
            refine wl_gd 60 rfl rfl ?_
            refine wl_cl fn15 (equal_any _ _ _ _ _ [(x : Int)] _ (own_ints hoK) (ints_of_blk [(x : Int)] hb63 (by simp [maxI]))) rfl (fun e' w16 hr => ?_)
            obtain ⟨rfl, hs⟩ := hr
            replace hs := Same.of_bel hs
            replace hB := hB.tr0 hs
            replace hb3 := hb3.tr0 hs
            replace hoJ := hoJ.tr0 hs
            replace hb8 := hb8.tr0 hs
            replace hb20 := hb20.tr0 hs
            replace hb11 := hb11.tr0 hs
            replace hoK := hoK.tr0 hs
            replace hb63 := hb63.tr0 hs
            clear hs
            refine ⟨_, rfl, ?_⟩
            refine wl (r_pt (v := .bool _) rfl rfl) ?_
            refine wl (r_as (v := .bool _) rfl) ?_
            refine x_nil ?_
            refine e_S ?_
            refine c_ret ?_
            refine fin1 (.inl rfl) rfl rfl ?_
            refine ⟨?_, hB⟩
            exact ret_bool (decide_eq_true hjm).symm
end Go.Proofs.YthhkbhapfcfdjaaDoor
