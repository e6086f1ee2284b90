/- What these functions of the program compute, at every world: glosswright/hierarchy.Complete$1. -/
import Derived.Test.YtahdbbgkgokkhaaDoorCBit
namespace Go.Proofs.YtahdbbgkgokkhaaDoor
open Go.RowKit

theorem fn21 : callable Tryd.prog 21 = true := by kernel_rfl
theorem fn22 : callable Tryd.prog 22 = true := by kernel_rfl
theorem fn23 : callable Tryd.prog 23 = true := by kernel_rfl
theorem fn24 : callable Tryd.prog 24 = true := by kernel_rfl
theorem fn25 : callable Tryd.prog 25 = true := by kernel_rfl
theorem setc_any (x y : Nat) (w : World) (hx : x < 18446744073709551616) (hy : y < 18446744073709551616) (hTab : TabIn w) : Calls Tryd.prog 20 #[.int .u64 (x : Int), .int .u64 (y : Int)] w fun e w' => e = .returned (.int .i64 (cmpU x y)) ∧ w = w' := by
 refine enter Tryd.func20 Tryd.ntmps20 rfl (Nat.le_of_ble_eq_true rfl) ?_
 refine c_seq ?_
 refine c_region ?_
 refine wl (r_as (v := .int _ _) rfl) ?_
 refine x_nil ?_
 refine e_S ?_
 refine c_seq ?_
 refine c_seq ?_
 refine c_region ?_
 refine wl (r_mv (v := .int _ _) rfl) ?_
 refine wl_cl fn22 (tzA_any x _ hx hTab) rfl (fun e' w1 hr => ?_)
 obtain ⟨rfl, rfl⟩ := hr
 refine ⟨_, rfl, ?_⟩
 refine wl (r_mv (v := .int _ _) rfl) ?_
 refine wl_cl fn22 (tzA_any y _ hy hTab) rfl (fun e' w2 hr => ?_)
 obtain ⟨rfl, rfl⟩ := hr
 refine ⟨_, rfl, ?_⟩
 refine wl_cl fn21 (cmpi_any _ _ _) rfl (fun e' w3 hr => ?_)
 obtain ⟨rfl, rfl⟩ := hr
 refine ⟨_, rfl, ?_⟩
 refine wl (r_as (v := .int _ _) rfl) ?_
 refine x_nil ?_
 refine e_S ?_
 refine c_seq ?_
 refine c_region ?_
 refine wl (r_mv (v := .int _ _) rfl) ?_
 refine wl (r_neq rfl rfl) ?_
 refine x_nil ?_
 refine e_S ?_
 refine c_ifd rfl (fun c13 => ?_) (fun c13 => ?_)
 ·
  refine c_seq ?_
  refine c_region ?_
  refine wl (r_mv (v := .int _ _) rfl) ?_
  refine wl (r_as (v := .int _ _) rfl) ?_
  refine x_nil ?_
  refine e_S ?_
  refine c_ret ?_
  refine e_Sr ?_
  refine fin1 (.inl rfl) rfl rfl ?_
  exact ⟨ret_int (by unfold cmpU; rw [if_pos c13]), rfl⟩
 ·
  refine c_skip ?_
  refine e_S ?_
  refine c_seq ?_
  refine c_seq ?_
  refine c_region ?_
  refine wl (r_mv (v := .int _ _) rfl) ?_
  refine wl_cl fn23 (ones_any y _ hy) rfl (fun e' w4 hr => ?_)
  obtain ⟨rfl, rfl⟩ := hr
  refine ⟨_, rfl, ?_⟩
  refine wl (r_mv (v := .int _ _) rfl) ?_
  refine wl_cl fn23 (ones_any x _ hx) rfl (fun e' w5 hr => ?_)
  obtain ⟨rfl, rfl⟩ := hr
  refine ⟨_, rfl, ?_⟩
  refine wl_cl fn21 (cmpi_any _ _ _) rfl (fun e' w6 hr => ?_)
  obtain ⟨rfl, rfl⟩ := hr
  refine ⟨_, rfl, ?_⟩
  refine wl (r_as (v := .int _ _) rfl) ?_
  refine x_nil ?_
  refine e_S ?_
  refine c_seq ?_
  refine c_region ?_
  refine wl (r_mv (v := .int _ _) rfl) ?_
  refine wl (r_neq rfl rfl) ?_
  refine x_nil ?_
  refine e_S ?_
  refine c_ifd rfl (fun c21 => ?_) (fun c21 => ?_)
  ·
   refine c_seq ?_
   refine c_region ?_
   refine wl (r_mv (v := .int _ _) rfl) ?_
   refine wl (r_as (v := .int _ _) rfl) ?_
   refine x_nil ?_
   refine e_S ?_
   refine c_ret ?_
   refine e_Sr ?_
   refine fin1 (.inl rfl) rfl rfl ?_
   exact ⟨ret_int (by unfold cmpU; rw [if_neg c13, if_pos c21]), rfl⟩
  ·
   refine c_skip ?_
   refine e_S ?_
   refine c_seq ?_
   refine c_region ?_
   refine wl (r_mv (v := .int _ _) rfl) ?_
   refine wl_cl fn25 (rev_any y _ hy) rfl (fun e' w7 hr => ?_)
   obtain ⟨rfl, rfl⟩ := hr
   refine ⟨_, rfl, ?_⟩
   refine wl (r_mv (v := .int _ _) rfl) ?_
   refine wl_cl fn25 (rev_any x _ hx) rfl (fun e' w8 hr => ?_)
   obtain ⟨rfl, rfl⟩ := hr
   refine ⟨_, rfl, ?_⟩
   refine wl_cl fn24 (cmpu_any _ _ _) rfl (fun e' w9 hr => ?_)
   obtain ⟨rfl, rfl⟩ := hr
   refine ⟨_, rfl, ?_⟩
   refine wl (r_as (v := .int _ _) rfl) ?_
   refine x_nil ?_
   refine e_S ?_
   refine c_ret ?_
   refine fin1 (.inl rfl) rfl rfl ?_
   exact ⟨ret_int (by unfold cmpU; rw [if_neg c13, if_neg c21]), rfl⟩
end Go.Proofs.YtahdbbgkgokkhaaDoor
