/- What these functions of the program compute, at every world: math/bits.TrailingZeros64, (glosswright/hierarchy.Table).Meet, (glosswright/hierarchy.Table).Sub. -/
import Derived.Test.YteoncmfiiknfbaaDoorMask
namespace Go.Proofs.YteoncmfiiknfbaaDoor
open Go.RowKit

theorem fn65 : callable Tryd.prog 65 = true := by kernel_rfl
theorem sz101 : (Tryd.prog.info? 101).map (·.size) = some 1 := by kernel_rfl
theorem sz5_Meet : (Tryd.prog.info? 5).map (·.size) = some 1 := by kernel_rfl
theorem sz58 : (Tryd.prog.info? 58).map (·.size) = some 1 := by kernel_rfl
theorem tz_any (x : Nat) (w : World) (h0 : x ≠ 0) (hx : x < 18446744073709551616) (hTab : TabIn w) : Calls Tryd.prog 65 #[.int .u64 x] w fun e w' => e = .returned (.int .i64 (Lib.ctz 64 x : Nat)) ∧ w = w' := by
 have hz := tzI_spec h0 hx
 have hgd := hTab.2 (tzI x) hz.1
 rw [hz.2] at hgd
 refine enter Tryd.func65 Tryd.ntmps65 rfl (Nat.le_of_ble_eq_true rfl) ?_
 refine c_seq ?_
 refine c_region ?_
 refine wl (r_as (v := .int _ _) rfl) ?_
 refine x_nil ?_
 refine e_S ?_
 refine c_seq ?_
 refine c_seq ?_
 refine c_region ?_
 refine wl (r_mv (v := .int _ _) rfl) ?_
 refine wl (r_eql rfl rfl) ?_
 refine x_nil ?_
 refine e_S ?_
 refine c_ifd rfl (fun c4 => ?_) (fun c4 => ?_)
 ·
  exact absurd c4 (by omega)
 ·
  refine c_skip ?_
  refine e_S ?_
  refine c_seq ?_
  refine c_region ?_
  refine wl (r_mv (v := .int _ _) rfl) ?_
  refine wl (r_mv (v := .int _ _) rfl) ?_
  refine wl (r_negU rfl (by omega) hx rfl) ?_
  refine wl (r_andU (b := 18446744073709551616 - x) rfl rfl hx (by omega)) ?_
  refine wl (r_mulU (b := 285870213051353865) rfl rfl rfl) ?_
  refine wl (r_shr (b := 58) rfl rfl (by decide) rfl) ?_
  refine wl (r_iaA (i := tzI x) Tryd.underlying118 sz5_Meet rfl rfl hz.1 rfl) ?_
  refine wl (r_ld1 (v := .int _ _) Tryd.underlying5 rfl rfl hgd) ?_
  refine wl (r_cvI Tryd.underlying5 Tryd.underlying3 rfl (by have := (ctz_eq h0 hx rfl).2; omega)) ?_
  refine wl (r_as (v := .int _ _) rfl) ?_
  refine x_nil ?_
  refine e_S ?_
  refine c_ret ?_
  refine fin1 (.inl rfl) rfl rfl ?_
  exact ⟨rfl, rfl⟩

theorem meet_any (l : List Ty) (bu bd a b : Nat) (w : World) (hTab : TabIn w) (hI : TableIn w l bu bd) (_hv : VT l) (h60 : l.length ≤ 60) (ha : a < l.length) (hb : b < l.length) : Calls Tryd.prog 53 #[tabV l.length bu bd, .int .i64 a, .int .i64 b] w fun e w' => e = .returned (meetV (meet l a b)) ∧ Bel w w' := by
 have hca := downN_lt h60 a
 have hcb := downN_lt h60 b
 have hcc : commN l a b < 18446744073709551616 := mask_lt64 _ h60
 refine enter Tryd.func53 Tryd.ntmps53 rfl (Nat.le_of_ble_eq_true rfl) ?_
 have hB : Bel w w := Below.refl _ _
 refine c_seq ?_
 refine c_region ?_
 refine wl_bx (v := .agg #[_, _]) (cs := #[_, _]) rfl rfl (fun b3 w1 hb3 hs hr => ?_)
 have lo3 := Nat.le_trans (Bel.size hB) hr
 replace hB := hB.tr0 hs
 clear hs
 clear hr
 refine wl (r_as (v := .int _ _) rfl) ?_
 refine wl (r_as (v := .bool _) rfl) ?_
 refine wl (r_as (v := .bool _) rfl) ?_
 refine x_nil ?_
 refine e_S ?_
 refine c_seq ?_
 refine c_still (by kernel_rfl) (by kernel_rfl) (fun w2 hs => ?_)
 replace hB := hB.tr0 hs
 replace hb3 := hb3.tr0 hs
 clear hs
 refine ws (r_fa Tryd.underlying60 sz58 (by decide) rfl rfl rfl) ?_
 refine ws (r_ld1 (v := .slice _ _ _) Tryd.underlying58 rfl rfl (hb3.cell rfl)) ?_
 refine ws (r_mv (v := .int _ _) rfl) ?_
 refine ws (r_ia (i := a) Tryd.underlying58 sz101 rfl rfl (by omega) rfl) ?_
 refine ws (r_ld1 (v := .int _ _) Tryd.underlying101 rfl rfl ((hI.mono hB).down ha)) ?_
 refine ws (r_fa Tryd.underlying60 sz58 (by decide) rfl rfl rfl) ?_
 refine ws (r_ld1 (v := .slice _ _ _) Tryd.underlying58 rfl rfl (hb3.cell rfl)) ?_
 refine ws (r_mv (v := .int _ _) rfl) ?_
 refine ws (r_ia (i := b) Tryd.underlying58 sz101 rfl rfl (by omega) rfl) ?_
 refine ws (r_ld1 (v := .int _ _) Tryd.underlying101 rfl rfl ((hI.mono hB).down hb)) ?_
 refine ws (r_andU rfl rfl hca hcb) ?_
 refine ws (r_as (v := .int .u64 (commN l a b : Nat)) (congrArg (fun z : Nat => Value.int .u64 (z : Int)) (comm_and l a b))) ?_
 refine s_nil ?_
 refine e_S ?_
 refine c_seq ?_
 refine c_seq ?_
 refine c_region ?_
 refine wl (r_mv (v := .int _ _) rfl) ?_
 refine wl (r_eql rfl rfl) ?_
 refine x_nil ?_
 refine e_S ?_
 refine c_ifd rfl (fun c22 => ?_) (fun c22 => ?_)
 ·
  have hz0 : commN l a b = 0 := by omega
  refine c_seq ?_
  refine c_region ?_
  refine wl (r_as (v := .int _ _) rfl) ?_
  refine wl (r_as (v := .bool _) rfl) ?_
  refine wl (r_as (v := .bool _) rfl) ?_
  refine x_nil ?_
  refine e_S ?_
  refine c_ret ?_
  refine e_Sr ?_
  refine fin3 (.inl rfl) rfl rfl rfl rfl ?_
  exact ⟨ret_meet (by simp only [meet, if_pos hz0]), hB⟩
 ·
  have hne : commN l a b ≠ 0 := fun h => c22 (by rw [h]; rfl)
  have hz := ctz_mask h60 hne
  refine c_skip ?_
  refine e_S ?_
  refine c_seq ?_
  refine c_region ?_
  refine wl (r_mv (v := .int _ _) rfl) ?_
  refine wl_cl fn65 (tz_any _ _ hne hcc (hTab.mono hB)) rfl (fun e' w3 hr => ?_)
  obtain ⟨rfl, rfl⟩ := hr
  refine ⟨_, rfl, ?_⟩
  refine wl (r_as (v := .int _ _) rfl) ?_
  refine x_nil ?_
  refine e_S ?_
  refine c_seq ?_
  refine c_seq ?_
  refine c_region ?_
  refine wl (r_fa Tryd.underlying60 sz58 (by decide) rfl rfl rfl) ?_
  refine wl (r_ld1 (v := .slice _ _ _) Tryd.underlying58 rfl rfl (hb3.cell rfl)) ?_
  refine wl (r_mv (v := .int _ _) rfl) ?_
  refine wl (r_ia (i := Lib.ctz 64 (commN l a b)) Tryd.underlying58 sz101 rfl rfl hz.1 rfl) ?_
  refine wl (r_ld1 (v := .int _ _) Tryd.underlying101 rfl rfl ((hI.mono hB).down hz.1)) ?_
  refine wl (r_mv (v := .int _ _) rfl) ?_
  refine wl (r_neq rfl rfl) ?_
  refine x_nil ?_
  refine e_S ?_
  refine c_ifd rfl (fun c31 => ?_) (fun c31 => ?_)
  ·
   have hne2 : downN l (Lib.ctz 64 (commN l a b)) ≠ commN l a b := by omega
   refine c_seq ?_
   refine c_region ?_
   refine wl (r_as (v := .int _ _) rfl) ?_
   refine wl (r_as (v := .bool _) rfl) ?_
   refine wl (r_as (v := .bool _) rfl) ?_
   refine x_nil ?_
   refine e_S ?_
   refine c_ret ?_
   refine e_Sr ?_
   refine fin3 (.inl rfl) rfl rfl rfl rfl ?_
   exact ⟨ret_meet (by simp only [meet, if_neg hne, if_pos hne2]), hB⟩
  ·
   have heq : downN l (Lib.ctz 64 (commN l a b)) = commN l a b := by omega
   refine c_skip ?_
   refine e_S ?_
   refine c_seq ?_
   refine c_region ?_
   refine wl (r_mv (v := .int _ _) rfl) ?_
   refine wl (r_as (v := .int _ _) rfl) ?_
   refine wl (r_as (v := .bool _) rfl) ?_
   refine wl (r_as (v := .bool _) rfl) ?_
   refine x_nil ?_
   refine e_S ?_
   refine c_ret ?_
   refine fin3 (.inl rfl) rfl rfl rfl rfl ?_
   exact ⟨ret_meet (by simp only [meet, if_neg hne, heq, ne_eq, not_true_eq_false, if_false]), hB⟩

theorem tsub_any (l : List Ty) (bu bd a b : Nat) (w : World) (hI : TableIn w l bu bd) (h60 : l.length ≤ 60) (ha : a < l.length) (hb : b < l.length) : Calls Tryd.prog 56 #[tabV l.length bu bd, .int .i64 a, .int .i64 b] w fun e w' => e = .returned (.bool (sub l a b)) ∧ Bel w w' := by
 have hca := upN_lt h60 a
 refine enter Tryd.func56 Tryd.ntmps56 rfl (Nat.le_of_ble_eq_true rfl) ?_
 have hB : Bel w w := Below.refl _ _
 refine c_seq ?_
 refine c_region ?_
 refine wl_bx (v := .agg #[_, _]) (cs := #[_, _]) rfl rfl (fun b3 w1 hb3 hs hr => ?_)
 have lo3 := Nat.le_trans (Bel.size hB) hr
 replace hB := hB.tr0 hs
 clear hs
 clear hr
 refine wl (r_as (v := .bool _) rfl) ?_
 refine x_nil ?_
 refine e_S ?_
 refine c_seq ?_
 refine c_region ?_
 refine wl (r_fa Tryd.underlying60 sz58 (by decide) rfl rfl rfl) ?_
 refine wl (r_ld1 (v := .slice _ _ _) Tryd.underlying58 rfl rfl (hb3.cell rfl)) ?_
 refine wl (r_mv (v := .int _ _) rfl) ?_
 refine wl (r_ia (i := a) Tryd.underlying58 sz101 rfl rfl (by omega) rfl) ?_
 refine wl (r_ld1 (v := .int _ _) Tryd.underlying101 rfl rfl ((hI.mono hB).up ha)) ?_
 refine wl (r_mv (v := .int _ _) rfl) ?_
 refine wl (r_shr (b := b) rfl rfl (by omega) rfl) ?_
 refine wl (r_andU (b := 1) rfl rfl (Nat.lt_of_le_of_lt (Nat.shiftRight_le _ _) hca) (by decide)) ?_
 refine wl (r_eql rfl rfl) ?_
 refine wl (r_as (v := .bool _) rfl) ?_
 refine x_nil ?_
 refine e_S ?_
 refine c_ret ?_
 refine fin1 (.inl rfl) rfl rfl ?_
 refine ⟨ret_bool ?_, hB⟩
 have h1 := shift_bit (upN l a) b
 unfold upN at h1
 rw [mask_bit] at h1
 simp only [hb, decide_true, Bool.true_and] at h1
 rw [← h1]
 exact decide_eq_decide.2 (by unfold upN; omega)
end Go.Proofs.YteoncmfiiknfbaaDoor
