/- What these functions of the program compute, at every world: math/bits.TrailingZeros64. -/
import Derived.Test.YtahdbbgkgokkhaaDoorMask
namespace Go.Proofs.YtahdbbgkgokkhaaDoor
open Go.RowKit

theorem sz5_Meet : (Tryd.prog.info? 5).map (·.size) = some 1 := by kernel_rfl
theorem tz_any (x : Nat) (w : World) (h0 : x ≠ 0) (hx : x < 18446744073709551616) (hTab : TabIn w) : Calls Tryd.prog 22 #[.int .u64 x] w fun e w' => e = .returned (.int .i64 (Lib.ctz 64 x : Nat)) ∧ w = w' := by
 have hz := tzI_spec h0 hx
 have hgd := hTab.2 (tzI x) hz.1
 rw [hz.2] at hgd
 refine enter Tryd.func22 Tryd.ntmps22 rfl (Nat.le_of_ble_eq_true rfl) ?_
 refine c_seq ?_
 refine c_region ?_
 refine wl (r_as (v := .int _ _) rfl) ?_
 refine x_nil ?_
 refine e_S ?_
 refine c_seq ?_
 refine c_seq ?_
 refine c_region ?_
 refine wl (r_mv (v := .int _ _) rfl) ?_
 refine wl (r_eql rfl rfl) ?_
 refine x_nil ?_
 refine e_S ?_
 refine c_ifd rfl (fun c4 => ?_) (fun c4 => ?_)
 ·
  exact absurd c4 (by omega)
 ·
  refine c_skip ?_
  refine e_S ?_
  refine c_seq ?_
  refine c_region ?_
  refine wl (r_mv (v := .int _ _) rfl) ?_
  refine wl (r_mv (v := .int _ _) rfl) ?_
  refine wl (r_negU rfl (by omega) hx rfl) ?_
  refine wl (r_andU (b := 18446744073709551616 - x) rfl rfl hx (by omega)) ?_
  refine wl (r_mulU (b := 285870213051353865) rfl rfl rfl) ?_
  refine wl (r_shr (b := 58) rfl rfl (by decide) rfl) ?_
  refine wl (r_iaA (i := tzI x) Tryd.underlying80 sz5_Meet rfl rfl hz.1 rfl) ?_
  refine wl (r_ld1 (v := .int _ _) Tryd.underlying5 rfl rfl hgd) ?_
  refine wl (r_cvI Tryd.underlying5 Tryd.underlying3 rfl (by have := (ctz_eq h0 hx rfl).2; omega)) ?_
  refine wl (r_as (v := .int _ _) rfl) ?_
  refine x_nil ?_
  refine e_S ?_
  refine c_ret ?_
  refine fin1 (.inl rfl) rfl rfl ?_
  exact ⟨rfl, rfl⟩
end Go.Proofs.YtahdbbgkgokkhaaDoor
