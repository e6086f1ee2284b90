/- What these functions of the program compute, at every world: slices.Grow[[]int,int], slices.Concat[[]int,int]. -/
import Derived.Test.YtdegobbnidddjaaDoorMat
import Derived.Test.YtdegobbnidddjaaDoorGAt
namespace Go.Proofs.YtdegobbnidddjaaDoor
open Go.RowKit

theorem fn42 : callable Tryd.prog 42 = true := by kernel_rfl
theorem grow_any (k : Nat) (w : World) (hk : k ≤ 17592186044416) : Calls Tryd.prog 42 #[.slice none 0 0, .int .i64 k] w fun e w' => (∃ A cap, e = .returned (.slice A 0 cap) ∧ Own w' w.heap.size 3 1 A 0 cap []) ∧ Bel w w' := by
  refine enter Tryd.func42 Tryd.ntmps42 rfl (Nat.le_of_ble_eq_true rfl) ?_
  have hB : Bel w w := Below.refl _ _
  refine c_seq ?_
  refine c_region ?_
  refine wl (r_as (v := .slice _ _ _) rfl) ?_
  refine x_nil ?_
  refine e_S ?_
  refine c_seq ?_
  refine c_seq ?_
  refine c_region ?_
  refine wl (r_mv (v := .int _ _) rfl) ?_
  refine wl (r_lss rfl rfl) ?_
  refine x_nil ?_
  refine e_S ?_
  refine c_ifd rfl (fun c6 => ?_) (fun c6 => ?_)
  · exact absurd c6 (by omega)
  · skip
    refine c_skip ?_
    refine e_S ?_
    refine c_seq ?_
    refine c_seq ?_
    refine c_region ?_
    refine wl (r_mv (v := .int _ _) rfl) ?_
    refine wl (r_mv (v := .slice _ _ _) rfl) ?_
    refine wl (r_cap Tryd.underlying52 rfl) ?_
    refine wl (r_mv (v := .slice _ _ _) rfl) ?_
    refine wl (r_len Tryd.underlying52 rfl) ?_
    refine wl (r_sub rfl rfl rfl (by decide)) ?_
    refine wl (r_sub (c := k) rfl rfl (by omega) (by omega)) ?_
    refine wl (r_as (v := .int _ _) rfl) ?_
    refine x_nil ?_
    refine e_S ?_
    refine c_seq ?_
    refine c_region ?_
    refine wl (r_mv (v := .int _ _) rfl) ?_
    refine wl (r_gtr rfl rfl) ?_
    refine x_nil ?_
    refine e_S ?_
    refine c_ifd rfl (fun c16 => ?_) (fun c16 => ?_)
    · have hpos : 0 < k := by omega
      refine c_region ?_
      refine wl (r_mv (v := .slice _ _ _) rfl) ?_
      refine wl (r_mv (v := .slice _ _ _) rfl) ?_
      refine wl (r_cap Tryd.underlying52 rfl) ?_
      refine wl (r_slH (h := 0) Tryd.underlying52 sz3 rfl rfl (by omega)) ?_
      refine wl (r_mv (v := .int _ _) rfl) ?_
      refine wl_appZ Tryd.underlying52 Tryd.underlying3 in3 rfl hpos (by decide) (by omega) (by omega) rfl rfl (fun b22 cap22 w22 ho22 hs22 hg22 hge hle => ?_)
      have hB2 : Bel w w22 := hB.tr0 hs22
      refine wl (r_mv (v := .slice _ _ _) rfl) ?_
      refine wl (r_len Tryd.underlying52 rfl) ?_
      refine wl (r_slH (h := 0) Tryd.underlying52 sz3 rfl rfl (by omega)) ?_
      refine wl (r_as (v := .slice _ _ _) rfl) ?_
      refine x_nil ?_
      refine e_S ?_
      refine c_seq ?_
      refine c_region ?_
      refine wl (r_mv (v := .slice _ _ _) rfl) ?_
      refine wl (r_as (v := .slice _ _ _) rfl) ?_
      refine x_nil ?_
      refine e_S ?_
      refine c_ret ?_
      refine fin1 (.inl rfl) rfl rfl ?_
      first
        | exact ⟨⟨_, _, rfl, ho22⟩, hB2⟩
        | exact ⟨⟨none, 0, rfl, Own.nil _ _ _ _⟩, hB⟩
    · skip
      refine c_skip ?_
      refine e_S ?_
      refine c_seq ?_
      refine c_region ?_
      refine wl (r_mv (v := .slice _ _ _) rfl) ?_
      refine wl (r_as (v := .slice _ _ _) rfl) ?_
      refine x_nil ?_
      refine e_S ?_
      refine c_ret ?_
      refine fin1 (.inl rfl) rfl rfl ?_
      first
        | exact ⟨⟨_, _, rfl, ho22⟩, hB2⟩
        | exact ⟨⟨none, 0, rfl, Own.nil _ _ _ _⟩, hB⟩

theorem conc_any (A : Option Addr) (c : Nat) (L : List (List Int)) (w : World) (hM : MatIn w A L) (hl : L.length ≤ 1000) (hs : L.flatten.length ≤ 17592186044416) : Calls Tryd.prog 27 #[.slice A L.length c] w fun e w' => (∃ A' cap', e = .returned (.slice A' L.flatten.length cap') ∧ IntsIn w' A' L.flatten) ∧ Bel w w' := by
  refine enter Tryd.func27 Tryd.ntmps27 rfl (Nat.le_of_ble_eq_true rfl) ?_
  have hB : Bel w w := Below.refl _ _
  refine c_seq ?_
  refine c_region ?_
  refine wl (r_as (v := .slice _ _ _) rfl) ?_
  refine x_nil ?_
  refine e_S ?_
  refine c_seq ?_
  refine c_region ?_
  refine wl (r_as (v := .int _ _) rfl) ?_
  refine x_nil ?_
  refine e_S ?_
  refine c_seq ?_
  refine c_seq ?_
  refine c_region ?_
  refine wl (r_mv (v := .slice _ _ _) rfl) ?_
  refine wl (r_len Tryd.underlying48 rfl) ?_
  refine wl (r_mv (v := .int _ _) rfl) ?_
  refine x_nil ?_
  refine e_S ?_
  refine c_block ?_
  refine c_loopS [3, 5, 11, 12, 13, 14, 15, 16, 17, 18, 19, 20, 21, 22] (fun m g w' => ∃ k : Nat, k ≤ L.length ∧ m = L.length - k ∧ g 11 = .int .i64 k ∧ g 3 = .int .i64 (sumL L k) ∧ Bel w w') (L.length) ?_ (fun m g3 w1 hI => ?_)
  · exact ⟨0, Nat.zero_le _, rfl, rfl, rfl, hB⟩
  obtain ⟨k, hk, hm, h11, h3, hB⟩ := hI
  refine c_know 11 (.int .i64 k) h11 (by simp [undef]) ?_
  refine c_know 3 (.int .i64 (sumL L k)) h3 (by simp [undef]) ?_
  refine c_seq ?_
  refine c_region ?_
  refine wl (r_lss rfl rfl) ?_
  refine x_nil ?_
  refine e_S ?_
  refine c_seq ?_
  refine c_ifd rfl (fun c12 => ?_) (fun c12 => ?_)
  · have hlt : k < L.length := by omega
    obtain ⟨mb, mo, MA, mc, rfl, hmr, hmi⟩ := hM.at_ hB hlt
    have hss := sum_succ hlt
    have hsl := sum_le L (k + 1)
    refine c_skip ?_
    refine e_S ?_
    refine c_seq ?_
    refine c_block ?_
    refine c_seq ?_
    refine c_region ?_
    refine wl (r_ia (i := k) Tryd.underlying48 sz52 rfl rfl (by omega) rfl) ?_
    refine wl (r_ld1 (v := .slice _ _ _) Tryd.underlying52 rfl rfl hmr) ?_
    refine wl (r_as (v := .slice _ _ _) rfl) ?_
    refine x_nil ?_
    refine e_S ?_
    refine c_seq ?_
    refine c_region ?_
    refine wl (r_mv (v := .int _ _) rfl) ?_
    refine wl (r_mv (v := .slice _ _ _) rfl) ?_
    refine wl (r_len Tryd.underlying52 rfl) ?_
    refine wl (r_add (c := (sumL L (k + 1) : Nat)) rfl rfl (by omega) (by omega)) ?_
    refine wl (r_as (v := .int _ _) rfl) ?_
    refine x_nil ?_
    refine e_S ?_
    refine c_seq ?_
    refine c_region ?_
    refine wl (r_mv (v := .int _ _) rfl) ?_
    refine wl (r_lss rfl rfl) ?_
    refine x_nil ?_
    refine e_S ?_
    refine c_ifd rfl (fun c20 => ?_) (fun c20 => ?_)
    · exact absurd c20 (by omega)
    · skip
      refine c_skip ?_
      refine e_B ?_
      refine e_S ?_
      refine c_region ?_
      refine wl (r_add rfl rfl rfl (by omega)) ?_
      refine wl (r_mv (v := .int _ _) rfl) ?_
      refine x_nil ?_
      refine e_LS (L.length - (k + 1)) (by omega) (by repeat (first | exact ag_refl | exact ag_ovr' | refine ag_upd rfl ?_ | refine ag_sub rfl ?_ | refine ag_kn (by assumption) ?_)) ?_
      exact ⟨k + 1, by omega, rfl, rfl, rfl, hB⟩
  · have hke : sumL L k = L.flatten.length := by unfold sumL; rw [sum_all (by omega)]
    obtain ⟨bz, hbz⟩ : ∃ z, z = w1.heap.size := ⟨_, rfl⟩
    refine c_exit ?_
    refine e_Sx ?_
    refine e_LSx ?_
    refine e_Bx ?_
    refine e_S ?_
    refine c_seq ?_
    refine c_region ?_
    refine wl (r_mv (v := .int _ _) rfl) ?_
    have hbs := Bel.size hB
    refine wl_cl fn42 (grow_any (sumL L k) _ (by omega)) rfl (fun e' w2 hr => ?_)
    obtain ⟨⟨A6, cap6, rfl, ho6⟩, hs⟩ := hr
    replace hs := Same.of_bel hs
    replace hB := hB.tr0 hs
    clear hs
    replace ho6 := ho6.low hbs
    refine ⟨_, rfl, ?_⟩
    refine wl (r_as (v := .slice _ _ _) rfl) ?_
    refine x_nil ?_
    refine e_S ?_
    refine c_seq ?_
    refine c_seq ?_
    refine c_region ?_
    refine wl (r_mv (v := .slice _ _ _) rfl) ?_
    refine wl (r_len Tryd.underlying48 rfl) ?_
    refine wl (r_mv (v := .int _ _) rfl) ?_
    refine x_nil ?_
    refine e_S ?_
    refine c_block ?_
    refine c_loopS [6, 8, 27, 28, 29, 30, 31, 32, 33, 34] (fun m g w' => ∃ (k cap6 : Nat) (A6 : Option Addr), k ≤ L.length ∧ m = L.length - k ∧ g 27 = .int .i64 k ∧ g 6 = .slice A6 (L.take k).flatten.length cap6 ∧ Bel w w' ∧ Own w' w.heap.size 3 1 A6 (L.take k).flatten.length cap6 (iV (L.take k).flatten)) (L.length) ?_ (fun m g11 w3 hI => ?_)
    · exact ⟨0, cap6, A6, Nat.zero_le _, rfl, rfl, rfl, hB, ho6⟩
    obtain ⟨k, cap6, A6, hk, hm, h27, h6, hB, ho6⟩ := hI
    refine c_know 27 (.int .i64 k) h27 (by simp [undef]) ?_
    refine c_know 6 (.slice A6 (L.take k).flatten.length cap6) h6 (by simp [undef]) ?_
    refine c_seq ?_
    refine c_region ?_
    refine wl (r_lss rfl rfl) ?_
    refine x_nil ?_
    refine e_S ?_
    refine c_seq ?_
    refine c_ifd rfl (fun c28 => ?_) (fun c28 => ?_)
    · have hlt : k < L.length := by omega
      obtain ⟨mb, mo, MA, mc, rfl, hmr, hmi⟩ := hM.at_ hB hlt
      have hss := sum_succ hlt
      have hsl := sum_le L (k + 1)
      have hsk : (L.take k).flatten.length = sumL L k := rfl
      refine c_skip ?_
      refine e_S ?_
      refine c_seq ?_
      refine c_block ?_
      refine c_seq ?_
      refine c_region ?_
      refine wl (r_ia (i := k) Tryd.underlying48 sz52 rfl rfl (by omega) rfl) ?_
      refine wl (r_ld1 (v := .slice _ _ _) Tryd.underlying52 rfl rfl hmr) ?_
      refine wl (r_as (v := .slice _ _ _) rfl) ?_
      refine x_nil ?_
      refine e_S ?_
      refine c_region ?_
      refine wl (r_mv (v := .slice _ _ _) rfl) ?_
      refine wl (r_mv (v := .slice _ _ _) rfl) ?_
      have hbb := Bel.size hB
      refine wl_appL (e := 3) (news := iV (L[k]'hlt)) Tryd.underlying52 in3 rfl (by decide) ho6 rfl rfl (hmi.mono hB).news (by simp [iV]) (iV_one _) (by omega) (by omega) hbb (fun AN capN wN hoN hsN hgN => ?_)
      have hBN : Bel w wN := hB.tr hsN (fun g hg => (ho6.lt g hg).1)
      replace hoN : Own wN w.heap.size 3 1 AN (L.take (k + 1)).flatten.length capN (iV (L.take (k + 1)).flatten) := by
        rw [flat_succ hlt, List.length_append]
        unfold iV at hoN ⊢
        rw [List.map_append]; exact hoN
      refine wl (r_as (v := .slice _ _ _) rfl) ?_
      refine x_nil ?_
      refine e_B ?_
      refine e_S ?_
      refine c_region ?_
      refine wl (r_add rfl rfl rfl (by omega)) ?_
      refine wl (r_mv (v := .int _ _) rfl) ?_
      refine x_nil ?_
      refine e_LS (L.length - (k + 1)) (by omega) (by repeat (first | exact ag_refl | exact ag_ovr' | refine ag_upd rfl ?_ | refine ag_sub rfl ?_ | refine ag_kn (by assumption) ?_)) ?_
      refine ⟨k + 1, _, _, by omega, rfl, rfl, ?_, hBN, hoN⟩
      rw [flat_succ hlt, List.length_append]; rfl
    · have hke : (L.take k).flatten = L.flatten := sum_all (by omega)
      refine c_exit ?_
      refine e_Sx ?_
      refine e_LSx ?_
      refine e_Bx ?_
      refine e_S ?_
      refine c_seq ?_
      refine c_region ?_
      refine wl (r_mv (v := .slice _ _ _) rfl) ?_
      refine wl (r_as (v := .slice _ _ _) rfl) ?_
      refine x_nil ?_
      refine e_S ?_
      refine c_ret ?_
      refine fin1 (.inl rfl) rfl rfl ?_
      refine ⟨⟨A6, cap6, ?_, ?_⟩, hB⟩
      · show Ending.returned (.slice A6 (L.take k).flatten.length cap6) = _
        rw [hke]
      · rw [hke] at ho6
        exact own_ints ho6
end Go.Proofs.YtdegobbnidddjaaDoor
