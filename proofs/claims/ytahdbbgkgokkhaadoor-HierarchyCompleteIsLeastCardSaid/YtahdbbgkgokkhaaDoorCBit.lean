/- What these functions of the program compute, at every world: math/bits.TrailingZeros64, math/bits.OnesCount64, math/bits.ReverseBytes64, math/bits.Reverse64, cmp.isNaN[int], cmp.isNaN[uint64], cmp.Compare[int], cmp.Compare[uint64]. -/
import Derived.Test.YtahdbbgkgokkhaaDoorRul
import Derived.Test.YtahdbbgkgokkhaaDoorMeet
namespace Go.Proofs.YtahdbbgkgokkhaaDoor
open Go.RowKit

theorem fn41 : callable Tryd.prog 41 = true := by kernel_rfl
theorem fn42 : callable Tryd.prog 42 = true := by kernel_rfl
theorem fn43 : callable Tryd.prog 43 = true := by kernel_rfl
theorem tz0_any (w : World) : Calls Tryd.prog 22 #[.int .u64 0] w fun e w' => e = .returned (.int .i64 64) ∧ w = w' := by
 refine enter Tryd.func22 Tryd.ntmps22 rfl (Nat.le_of_ble_eq_true rfl) ?_
 refine c_seq ?_
 refine c_region ?_
 refine wl (r_as (v := .int _ _) rfl) ?_
 refine x_nil ?_
 refine e_S ?_
 refine c_seq ?_
 refine c_seq ?_
 refine c_region ?_
 refine wl (r_mv (v := .int _ _) rfl) ?_
 refine wl (r_eql rfl rfl) ?_
 refine x_nil ?_
 refine e_S ?_
 refine c_ifd rfl (fun c4 => ?_) (fun c4 => ?_)
 ·
  refine c_seq ?_
  refine c_region ?_
  refine wl (r_as (v := .int _ _) rfl) ?_
  refine x_nil ?_
  refine e_S ?_
  refine c_ret ?_
  refine e_Sr ?_
  refine fin1 (.inl rfl) rfl rfl ?_
  exact ⟨rfl, rfl⟩
 ·
  exact absurd rfl c4

theorem ones_any (x : Nat) (w : World) (hx : x < 18446744073709551616) : Calls Tryd.prog 23 #[.int .u64 (x : Int)] w fun e w' => e = .returned (.int .i64 ((pop 64 x : Nat) : Int)) ∧ w = w' := by
 have h1 := hv1_lt x
 have h2 := hv2_lt x
 have h3 := o3_le x
 have h4 := o4_lt x
 have h5 := o5_lt x
 have h6 := o6_lt x
 refine enter Tryd.func23 Tryd.ntmps23 rfl (Nat.le_of_ble_eq_true rfl) ?_
 refine c_seq ?_
 refine c_region ?_
 refine wl (r_as (v := .int _ _) rfl) ?_
 refine x_nil ?_
 refine e_S ?_
 refine c_seq ?_
 refine c_region ?_
 refine wl (r_mv (v := .int _ _) rfl) ?_
 refine wl (r_shr (b := 1) rfl rfl (by decide) rfl) ?_
 refine wl (r_andU (b := M1) rfl rfl (sh_lt 1 hx) (by decide)) ?_
 refine wl (r_mv (v := .int _ _) rfl) ?_
 refine wl (r_andU (b := M1) rfl rfl hx (by decide)) ?_
 refine wl (r_addU (c := hv 1 M1 x) rfl rfl rfl h1) ?_
 refine wl (r_as (v := .int _ _) rfl) ?_
 refine x_nil ?_
 refine e_S ?_
 refine c_seq ?_
 refine c_region ?_
 refine wl (r_mv (v := .int _ _) rfl) ?_
 refine wl (r_shr (b := 2) rfl rfl (by decide) rfl) ?_
 refine wl (r_andU (b := M2) rfl rfl (sh_lt 2 h1) (by decide)) ?_
 refine wl (r_mv (v := .int _ _) rfl) ?_
 refine wl (r_andU (b := M2) rfl rfl h1 (by decide)) ?_
 refine wl (r_addU (c := hv 2 M2 (hv 1 M1 x)) rfl rfl rfl (by omega)) ?_
 refine wl (r_as (v := .int _ _) rfl) ?_
 refine x_nil ?_
 refine e_S ?_
 refine c_seq ?_
 refine c_region ?_
 refine wl (r_mv (v := .int _ _) rfl) ?_
 refine wl (r_shr (b := 4) (c := hv 2 M2 (hv 1 M1 x) >>> 4) rfl rfl (by decide) rfl) ?_
 refine wl (r_mv (v := .int _ _) rfl) ?_
 refine wl (r_addU rfl rfl rfl (by have := Nat.shiftRight_le (hv 2 M2 (hv 1 M1 x)) 4; omega)) ?_
 refine wl (r_andU (b := M4) rfl rfl (by have := Nat.shiftRight_le (hv 2 M2 (hv 1 M1 x)) 4; omega) (by decide)) ?_
 refine wl (r_as (v := .int _ _) rfl) ?_
 refine x_nil ?_
 refine e_S ?_
 refine c_seq ?_
 refine c_region ?_
 refine wl (r_mv (v := .int _ _) rfl) ?_
 refine wl (r_mv (v := .int _ _) rfl) ?_
 refine wl (r_shr (b := 8) (c := o3 x >>> 8) rfl rfl (by decide) rfl) ?_
 refine wl (r_addU (c := o4 x) rfl rfl rfl (by omega)) ?_
 refine wl (r_as (v := .int _ _) rfl) ?_
 refine x_nil ?_
 refine e_S ?_
 refine c_seq ?_
 refine c_region ?_
 refine wl (r_mv (v := .int _ _) rfl) ?_
 refine wl (r_mv (v := .int _ _) rfl) ?_
 refine wl (r_shr (b := 16) (c := o4 x >>> 16) rfl rfl (by decide) rfl) ?_
 refine wl (r_addU (c := o5 x) rfl rfl rfl (by omega)) ?_
 refine wl (r_as (v := .int _ _) rfl) ?_
 refine x_nil ?_
 refine e_S ?_
 refine c_seq ?_
 refine c_region ?_
 refine wl (r_mv (v := .int _ _) rfl) ?_
 refine wl (r_mv (v := .int _ _) rfl) ?_
 refine wl (r_shr (b := 32) (c := o5 x >>> 32) rfl rfl (by decide) rfl) ?_
 refine wl (r_addU (c := o6 x) rfl rfl rfl (by omega)) ?_
 refine wl (r_as (v := .int _ _) rfl) ?_
 refine x_nil ?_
 refine e_S ?_
 refine c_seq ?_
 refine c_region ?_
 refine wl (r_mv (v := .int _ _) rfl) ?_
 refine wl (r_cvI Tryd.underlying49 Tryd.underlying3 rfl (by omega)) ?_
 refine wl (r_andI rfl rfl h6) ?_
 refine wl (r_as (v := .int _ _) rfl) ?_
 refine x_nil ?_
 refine e_S ?_
 refine c_ret ?_
 refine fin1 (.inl rfl) rfl rfl ?_
 exact ⟨by rw [← o6_pop x]; rfl, rfl⟩

theorem revb_any (x : Nat) (w : World) (hx : x < 18446744073709551616) : Calls Tryd.prog 43 #[.int .u64 (x : Int)] w fun e w' => e = .returned (.int .u64 ((rbN x : Nat) : Int)) ∧ w = w' := by
 have h1 : swp 8 M8 x < 18446744073709551616 := swp_lt (by decide) (by decide)
 have h2 : swp 16 M16 (swp 8 M8 x) < 18446744073709551616 := swp_lt (by decide) (by decide)
 refine enter Tryd.func43 Tryd.ntmps43 rfl (Nat.le_of_ble_eq_true rfl) ?_
 refine c_seq ?_
 refine c_region ?_
 refine wl (r_as (v := .int _ _) rfl) ?_
 refine x_nil ?_
 refine e_S ?_
 refine c_seq ?_
 refine c_region ?_
 refine wl (r_mv (v := .int _ _) rfl) ?_
 refine wl (r_shr (b := 8) rfl rfl (by decide) rfl) ?_
 refine wl (r_andU (b := M8) rfl rfl (sh_lt 8 hx) (by decide)) ?_
 refine wl (r_mv (v := .int _ _) rfl) ?_
 refine wl (r_andU (b := M8) rfl rfl hx (by decide)) ?_
 refine wl (r_shlV (b := 8) rfl rfl (by decide) (sw_lt _ 8 (by decide)) rfl) ?_
 refine wl (r_orU rfl rfl (and_lt_right (by decide)) (sw_lt _ 8 (by decide))) ?_
 refine wl (r_as (v := .int .u64 ((swp 8 M8 x : Nat) : Int)) rfl) ?_
 refine x_nil ?_
 refine e_S ?_
 refine c_seq ?_
 refine c_region ?_
 refine wl (r_mv (v := .int _ _) rfl) ?_
 refine wl (r_shr (b := 16) rfl rfl (by decide) rfl) ?_
 refine wl (r_andU (b := M16) rfl rfl (sh_lt 16 h1) (by decide)) ?_
 refine wl (r_mv (v := .int _ _) rfl) ?_
 refine wl (r_andU (b := M16) rfl rfl h1 (by decide)) ?_
 refine wl (r_shlV (b := 16) rfl rfl (by decide) (sw_lt _ 16 (by decide)) rfl) ?_
 refine wl (r_orU rfl rfl (and_lt_right (by decide)) (sw_lt _ 16 (by decide))) ?_
 refine wl (r_as (v := .int .u64 ((swp 16 M16 (swp 8 M8 x) : Nat) : Int)) rfl) ?_
 refine x_nil ?_
 refine e_S ?_
 refine c_seq ?_
 refine c_region ?_
 refine wl (r_mv (v := .int _ _) rfl) ?_
 refine wl (r_shr (b := 32) (c := (swp 16 M16 (swp 8 M8 x)) >>> 32) rfl rfl (by decide) rfl) ?_
 refine wl (r_mv (v := .int _ _) rfl) ?_
 refine wl (r_shlW (b := 32) rfl rfl (by decide) rfl) ?_
 refine wl (r_orU rfl rfl (sh_lt 32 h2) (Nat.mod_lt _ (by decide))) ?_
 refine wl (r_as (v := .int _ _) rfl) ?_
 refine x_nil ?_
 refine e_S ?_
 refine c_ret ?_
 refine fin1 (.inl rfl) rfl rfl ?_
 exact ⟨rfl, rfl⟩

theorem rev_any (x : Nat) (w : World) (hx : x < 18446744073709551616) : Calls Tryd.prog 25 #[.int .u64 (x : Int)] w fun e w' => e = .returned (.int .u64 ((revN x : Nat) : Int)) ∧ w = w' := by
 have h1 : swp 1 M1 x < 18446744073709551616 := swp_lt (by decide) (by decide)
 have h2 : swp 2 M2 (swp 1 M1 x) < 18446744073709551616 := swp_lt (by decide) (by decide)
 have h4 : swp 4 M4 (swp 2 M2 (swp 1 M1 x)) < 18446744073709551616 := swp_lt (by decide) (by decide)
 refine enter Tryd.func25 Tryd.ntmps25 rfl (Nat.le_of_ble_eq_true rfl) ?_
 refine c_seq ?_
 refine c_region ?_
 refine wl (r_as (v := .int _ _) rfl) ?_
 refine x_nil ?_
 refine e_S ?_
 refine c_seq ?_
 refine c_region ?_
 refine wl (r_mv (v := .int _ _) rfl) ?_
 refine wl (r_shr (b := 1) rfl rfl (by decide) rfl) ?_
 refine wl (r_andU (b := M1) rfl rfl (sh_lt 1 hx) (by decide)) ?_
 refine wl (r_mv (v := .int _ _) rfl) ?_
 refine wl (r_andU (b := M1) rfl rfl hx (by decide)) ?_
 refine wl (r_shlV (b := 1) rfl rfl (by decide) (sw_lt _ 1 (by decide)) rfl) ?_
 refine wl (r_orU rfl rfl (and_lt_right (by decide)) (sw_lt _ 1 (by decide))) ?_
 refine wl (r_as (v := .int .u64 ((swp 1 M1 x : Nat) : Int)) rfl) ?_
 refine x_nil ?_
 refine e_S ?_
 refine c_seq ?_
 refine c_region ?_
 refine wl (r_mv (v := .int _ _) rfl) ?_
 refine wl (r_shr (b := 2) rfl rfl (by decide) rfl) ?_
 refine wl (r_andU (b := M2) rfl rfl (sh_lt 2 h1) (by decide)) ?_
 refine wl (r_mv (v := .int _ _) rfl) ?_
 refine wl (r_andU (b := M2) rfl rfl h1 (by decide)) ?_
 refine wl (r_shlV (b := 2) rfl rfl (by decide) (sw_lt _ 2 (by decide)) rfl) ?_
 refine wl (r_orU rfl rfl (and_lt_right (by decide)) (sw_lt _ 2 (by decide))) ?_
 refine wl (r_as (v := .int .u64 ((swp 2 M2 (swp 1 M1 x) : Nat) : Int)) rfl) ?_
 refine x_nil ?_
 refine e_S ?_
 refine c_seq ?_
 refine c_region ?_
 refine wl (r_mv (v := .int _ _) rfl) ?_
 refine wl (r_shr (b := 4) rfl rfl (by decide) rfl) ?_
 refine wl (r_andU (b := M4) rfl rfl (sh_lt 4 h2) (by decide)) ?_
 refine wl (r_mv (v := .int _ _) rfl) ?_
 refine wl (r_andU (b := M4) rfl rfl h2 (by decide)) ?_
 refine wl (r_shlV (b := 4) rfl rfl (by decide) (sw_lt _ 4 (by decide)) rfl) ?_
 refine wl (r_orU rfl rfl (and_lt_right (by decide)) (sw_lt _ 4 (by decide))) ?_
 refine wl (r_as (v := .int .u64 ((swp 4 M4 (swp 2 M2 (swp 1 M1 x)) : Nat) : Int)) rfl) ?_
 refine x_nil ?_
 refine e_S ?_
 refine c_seq ?_
 refine c_region ?_
 refine wl (r_mv (v := .int _ _) rfl) ?_
 refine wl_cl fn43 (revb_any _ _ h4) rfl (fun e' w1 hr => ?_)
 obtain ⟨rfl, rfl⟩ := hr
 refine ⟨_, rfl, ?_⟩
 refine wl (r_as (v := .int _ _) rfl) ?_
 refine x_nil ?_
 refine e_S ?_
 refine c_ret ?_
 refine fin1 (.inl rfl) rfl rfl ?_
 exact ⟨rfl, rfl⟩

theorem nani_any (a : Int) (w : World) : Calls Tryd.prog 41 #[.int .i64 a] w fun e w' => e = .returned (.bool false) ∧ w = w' := by
 refine enter Tryd.func41 Tryd.ntmps41 rfl (Nat.le_of_ble_eq_true rfl) ?_
 refine c_seq ?_
 refine c_region ?_
 refine wl (r_as (v := .bool _) rfl) ?_
 refine x_nil ?_
 refine e_S ?_
 refine c_seq ?_
 refine c_region ?_
 refine wl (r_mv (v := .int _ _) rfl) ?_
 refine wl (r_mv (v := .int _ _) rfl) ?_
 refine wl (r_neq rfl rfl) ?_
 refine wl (r_as (v := .bool _) rfl) ?_
 refine x_nil ?_
 refine e_S ?_
 refine c_ret ?_
 refine fin1 (.inl rfl) rfl rfl ?_
 exact ⟨ret_bool (decide_eq_false (fun h => h rfl)).symm, rfl⟩

theorem nanu_any (a : Int) (w : World) : Calls Tryd.prog 42 #[.int .u64 a] w fun e w' => e = .returned (.bool false) ∧ w = w' := by
 refine enter Tryd.func42 Tryd.ntmps42 rfl (Nat.le_of_ble_eq_true rfl) ?_
 refine c_seq ?_
 refine c_region ?_
 refine wl (r_as (v := .bool _) rfl) ?_
 refine x_nil ?_
 refine e_S ?_
 refine c_seq ?_
 refine c_region ?_
 refine wl (r_mv (v := .int _ _) rfl) ?_
 refine wl (r_mv (v := .int _ _) rfl) ?_
 refine wl (r_neq rfl rfl) ?_
 refine wl (r_as (v := .bool _) rfl) ?_
 refine x_nil ?_
 refine e_S ?_
 refine c_ret ?_
 refine fin1 (.inl rfl) rfl rfl ?_
 exact ⟨ret_bool (decide_eq_false (fun h => h rfl)).symm, rfl⟩

theorem cmpi_any (a b : Int) (w : World) : Calls Tryd.prog 21 #[.int .i64 a, .int .i64 b] w fun e w' => e = .returned (.int .i64 (cmpI a b)) ∧ w = w' := by
 refine enter Tryd.func21 Tryd.ntmps21 rfl (Nat.le_of_ble_eq_true rfl) ?_
 refine c_seq ?_
 refine c_region ?_
 refine wl (r_as (v := .int _ _) rfl) ?_
 refine x_nil ?_
 refine e_S ?_
 refine c_seq ?_
 refine c_region ?_
 refine wl (r_mv (v := .int _ _) rfl) ?_
 refine wl_cl fn41 (nani_any _ _) rfl (fun e' w1 hr => ?_)
 obtain ⟨rfl, rfl⟩ := hr
 refine ⟨_, rfl, ?_⟩
 refine wl (r_as (v := .bool _) rfl) ?_
 refine x_nil ?_
 refine e_S ?_
 refine c_seq ?_
 refine c_region ?_
 refine wl (r_mv (v := .int _ _) rfl) ?_
 refine wl_cl fn41 (nani_any _ _) rfl (fun e' w2 hr => ?_)
 obtain ⟨rfl, rfl⟩ := hr
 refine ⟨_, rfl, ?_⟩
 refine wl (r_as (v := .bool _) rfl) ?_
 refine x_nil ?_
 refine e_S ?_
 refine c_seq ?_
 refine c_seq ?_
 refine c_region ?_
 refine wl (r_mv (v := .bool _) rfl) ?_
 refine x_nil ?_
 refine e_S ?_
 refine c_if rfl (fun c11 => ?_) (fun c11 => ?_)
 ·
  exact absurd c11 (by decide)
 ·
  refine c_skip ?_
  refine e_S ?_
  refine c_seq ?_
  refine c_seq ?_
  refine c_region ?_
  refine wl (r_mv (v := .bool _) rfl) ?_
  refine x_nil ?_
  refine e_S ?_
  refine c_if rfl (fun c13 => ?_) (fun c13 => ?_)
  ·
   exact absurd c13 (by decide)
  ·
   refine c_skip ?_
   refine e_S ?_
   refine c_seq ?_
   refine c_seq ?_
   refine c_region ?_
   refine wl (r_mv (v := .int _ _) rfl) ?_
   refine wl (r_mv (v := .int _ _) rfl) ?_
   refine wl (r_lss rfl rfl) ?_
   refine x_nil ?_
   refine e_S ?_
   refine c_ifd rfl (fun c16 => ?_) (fun c16 => ?_)
   ·
    refine c_seq ?_
    refine c_region ?_
    refine wl (r_as (v := .int _ _) rfl) ?_
    refine x_nil ?_
    refine e_S ?_
    refine c_ret ?_
    refine e_Sr ?_
    refine fin1 (.inl rfl) rfl rfl ?_
    exact ⟨ret_int (by unfold cmpI; rw [if_pos c16]), rfl⟩
   ·
    refine c_skip ?_
    refine e_S ?_
    refine c_seq ?_
    refine c_seq ?_
    refine c_region ?_
    refine wl (r_mv (v := .int _ _) rfl) ?_
    refine wl (r_mv (v := .int _ _) rfl) ?_
    refine wl (r_gtr rfl rfl) ?_
    refine x_nil ?_
    refine e_S ?_
    refine c_ifd rfl (fun c19 => ?_) (fun c19 => ?_)
    ·
     refine c_seq ?_
     refine c_region ?_
     refine wl (r_as (v := .int _ _) rfl) ?_
     refine x_nil ?_
     refine e_S ?_
     refine c_ret ?_
     refine e_Sr ?_
     refine fin1 (.inl rfl) rfl rfl ?_
     exact ⟨ret_int (by unfold cmpI; rw [if_neg c16]; exact if_pos c19), rfl⟩
    ·
     refine c_skip ?_
     refine e_S ?_
     refine c_seq ?_
     refine c_region ?_
     refine wl (r_as (v := .int _ _) rfl) ?_
     refine x_nil ?_
     refine e_S ?_
     refine c_ret ?_
     refine fin1 (.inl rfl) rfl rfl ?_
     exact ⟨ret_int (by unfold cmpI; rw [if_neg c16]; exact if_neg c19), rfl⟩

theorem cmpu_any (a b : Int) (w : World) : Calls Tryd.prog 24 #[.int .u64 a, .int .u64 b] w fun e w' => e = .returned (.int .i64 (cmpI a b)) ∧ w = w' := by
 refine enter Tryd.func24 Tryd.ntmps24 rfl (Nat.le_of_ble_eq_true rfl) ?_
 refine c_seq ?_
 refine c_region ?_
 refine wl (r_as (v := .int _ _) rfl) ?_
 refine x_nil ?_
 refine e_S ?_
 refine c_seq ?_
 refine c_region ?_
 refine wl (r_mv (v := .int _ _) rfl) ?_
 refine wl_cl fn42 (nanu_any _ _) rfl (fun e' w1 hr => ?_)
 obtain ⟨rfl, rfl⟩ := hr
 refine ⟨_, rfl, ?_⟩
 refine wl (r_as (v := .bool _) rfl) ?_
 refine x_nil ?_
 refine e_S ?_
 refine c_seq ?_
 refine c_region ?_
 refine wl (r_mv (v := .int _ _) rfl) ?_
 refine wl_cl fn42 (nanu_any _ _) rfl (fun e' w2 hr => ?_)
 obtain ⟨rfl, rfl⟩ := hr
 refine ⟨_, rfl, ?_⟩
 refine wl (r_as (v := .bool _) rfl) ?_
 refine x_nil ?_
 refine e_S ?_
 refine c_seq ?_
 refine c_seq ?_
 refine c_region ?_
 refine wl (r_mv (v := .bool _) rfl) ?_
 refine x_nil ?_
 refine e_S ?_
 refine c_if rfl (fun c11 => ?_) (fun c11 => ?_)
 ·
  exact absurd c11 (by decide)
 ·
  refine c_skip ?_
  refine e_S ?_
  refine c_seq ?_
  refine c_seq ?_
  refine c_region ?_
  refine wl (r_mv (v := .bool _) rfl) ?_
  refine x_nil ?_
  refine e_S ?_
  refine c_if rfl (fun c13 => ?_) (fun c13 => ?_)
  ·
   exact absurd c13 (by decide)
  ·
   refine c_skip ?_
   refine e_S ?_
   refine c_seq ?_
   refine c_seq ?_
   refine c_region ?_
   refine wl (r_mv (v := .int _ _) rfl) ?_
   refine wl (r_mv (v := .int _ _) rfl) ?_
   refine wl (r_lss rfl rfl) ?_
   refine x_nil ?_
   refine e_S ?_
   refine c_ifd rfl (fun c16 => ?_) (fun c16 => ?_)
   ·
    refine c_seq ?_
    refine c_region ?_
    refine wl (r_as (v := .int _ _) rfl) ?_
    refine x_nil ?_
    refine e_S ?_
    refine c_ret ?_
    refine e_Sr ?_
    refine fin1 (.inl rfl) rfl rfl ?_
    exact ⟨ret_int (by unfold cmpI; rw [if_pos c16]), rfl⟩
   ·
    refine c_skip ?_
    refine e_S ?_
    refine c_seq ?_
    refine c_seq ?_
    refine c_region ?_
    refine wl (r_mv (v := .int _ _) rfl) ?_
    refine wl (r_mv (v := .int _ _) rfl) ?_
    refine wl (r_gtr rfl rfl) ?_
    refine x_nil ?_
    refine e_S ?_
    refine c_ifd rfl (fun c19 => ?_) (fun c19 => ?_)
    ·
     refine c_seq ?_
     refine c_region ?_
     refine wl (r_as (v := .int _ _) rfl) ?_
     refine x_nil ?_
     refine e_S ?_
     refine c_ret ?_
     refine e_Sr ?_
     refine fin1 (.inl rfl) rfl rfl ?_
     exact ⟨ret_int (by unfold cmpI; rw [if_neg c16]; exact if_pos c19), rfl⟩
    ·
     refine c_skip ?_
     refine e_S ?_
     refine c_seq ?_
     refine c_region ?_
     refine wl (r_as (v := .int _ _) rfl) ?_
     refine x_nil ?_
     refine e_S ?_
     refine c_ret ?_
     refine fin1 (.inl rfl) rfl rfl ?_
     exact ⟨ret_int (by unfold cmpI; rw [if_neg c16]; exact if_neg c19), rfl⟩

theorem tzA_any (x : Nat) (w : World) (hx : x < 18446744073709551616) (hTab : TabIn w) : Calls Tryd.prog 22 #[.int .u64 (x : Int)] w fun e w' => e = .returned (.int .i64 ((tz x : Nat) : Int)) ∧ w = w' := by
  by_cases h : x = 0
  · subst h; exact tz0_any w
  · exact tz_any x w h hx hTab
end Go.Proofs.YtahdbbgkgokkhaaDoor
