/- What these functions of the program compute, at every world: slices.Equal[[]int,int]. -/
import Derived.Test.YtahdbbgkgokkhaaDoorTypesFault
namespace Go.Proofs.YtahdbbgkgokkhaaDoor
open Go.RowKit


theorem ieq_any (A B : Option Addr) (c d : Nat) (xs ys : List Int) (w : World) (hX : IntsIn w A xs) (hY : IntsIn w B ys) : Calls Tryd.prog 30 #[.slice A xs.length c, .slice B ys.length d] w fun e w' => e = .returned (.bool (decide (xs = ys))) ∧ Bel w w' := by
 have hmx := hX.1
 unfold maxI at hmx
 refine enter Tryd.func30 Tryd.ntmps30 rfl (Nat.le_of_ble_eq_true rfl) ?_
 have hB : Bel w w := Below.refl _ _
 refine c_seq ?_
 refine c_region ?_
 refine wl (r_as (v := .bool _) rfl) ?_
 refine x_nil ?_
 refine e_S ?_
 refine c_seq ?_
 refine c_seq ?_
 refine c_region ?_
 refine wl (r_mv (v := .slice _ _ _) rfl) ?_
 refine wl (r_len Tryd.underlying33 rfl) ?_
 refine wl (r_mv (v := .slice _ _ _) rfl) ?_
 refine wl (r_len Tryd.underlying33 rfl) ?_
 refine wl (r_neq rfl rfl) ?_
 refine x_nil ?_
 refine e_S ?_
 refine c_ifd rfl (fun c10 => ?_) (fun c10 => ?_)
 ·
  have hne : ¬ xs = ys := fun e => c10 (by rw [e])
  refine c_seq ?_
  refine c_region ?_
  refine wl (r_as (v := .bool _) rfl) ?_
  refine x_nil ?_
  refine e_S ?_
  refine c_ret ?_
  refine e_Sr ?_
  refine fin1 (.inl rfl) rfl rfl ?_
  exact ⟨ret_bool (decide_eq_false hne), hB⟩
 ·
  have hle : xs.length = ys.length := by omega
  refine c_skip ?_
  refine e_S ?_
  refine c_seq ?_
  refine c_seq ?_
  refine c_region ?_
  refine wl (r_mv (v := .slice _ _ _) rfl) ?_
  refine wl (r_len Tryd.underlying33 rfl) ?_
  refine wl (r_mv (v := .int _ _) rfl) ?_
  refine x_nil ?_
  refine e_S ?_
  refine c_block ?_
  refine c_loopS [4, 5, 13, 14, 15, 16, 17, 18, 19, 20, 21, 22, 23, 24, 25] (fun m g w' => ∃ k : Nat, k ≤ xs.length ∧ m = xs.length - k ∧ g 13 = .int .i64 k ∧ Bel w w' ∧ (∀ j (hj : j < xs.length) (hj2 : j < ys.length), j < k → xs[j] = ys[j])) (xs.length) ?_ (fun m g4 w1 hI => ?_)
  ·
   exact ⟨0, Nat.zero_le _, rfl, rfl, hB, fun j _ _ h => by omega⟩
  obtain ⟨k, hk, hm, h13, hB, hall⟩ := hI
  refine c_know 13 (.int .i64 k) h13 (by simp [undef]) ?_
  refine c_seq ?_
  refine c_region ?_
  refine wl (r_lss rfl rfl) ?_
  refine x_nil ?_
  refine e_S ?_
  refine c_seq ?_
  refine c_ifd rfl (fun c14 => ?_) (fun c14 => ?_)
  ·
   have hlt : k < xs.length := by omega
   have hlt2 : k < ys.length := by omega
   obtain ⟨xb, xo, rfl, hxb, hxc⟩ := hX.at_ hlt
   obtain ⟨yb, yo, rfl, hyb, hyc⟩ := hY.at_ hlt2
   refine c_skip ?_
   refine e_S ?_
   refine c_seq ?_
   refine c_block ?_
   refine c_seq ?_
   refine c_region ?_
   refine wl (r_mv (v := .int _ _) rfl) ?_
   refine wl (r_as (v := .int _ _) rfl) ?_
   refine x_nil ?_
   refine e_S ?_
   refine c_seq ?_
   refine c_still (by kernel_rfl) (by kernel_rfl) (fun w2 hs => ?_)
   replace hB := hB.tr0 hs
   clear hs
   refine ws (r_mv (v := .slice _ _ _) rfl) ?_
   refine ws (r_mv (v := .int _ _) rfl) ?_
   refine ws (r_ia (i := k) Tryd.underlying33 sz3 rfl rfl (by omega) rfl) ?_
   refine ws (r_ld1 (v := .int _ _) Tryd.underlying3 rfl rfl (hB.cell hxb hxc)) ?_
   refine ws (r_mv (v := .slice _ _ _) rfl) ?_
   refine ws (r_mv (v := .int _ _) rfl) ?_
   refine ws (r_ia (i := k) Tryd.underlying33 sz3 rfl rfl (by omega) rfl) ?_
   refine ws (r_ld1 (v := .int _ _) Tryd.underlying3 rfl rfl (hB.cell hyb hyc)) ?_
   refine ws (r_neq rfl rfl) ?_
   refine s_nil ?_
   refine e_S ?_
   refine c_ifd rfl (fun c24 => ?_) (fun c24 => ?_)
   ·
    have hne : ¬ xs = ys := fun e => c24 (by simp only [e])
    refine c_seq ?_
    refine c_region ?_
    refine wl (r_as (v := .bool _) rfl) ?_
    refine x_nil ?_
    refine e_S ?_
    refine c_ret ?_
    refine e_Br ?_
    refine e_Sr ?_
    refine e_LSr ?_
    refine e_Br ?_
    refine e_Sr ?_
    refine fin1 (.inl rfl) rfl rfl ?_
    exact ⟨ret_bool (decide_eq_false hne), hB⟩
   ·
    refine c_skip ?_
    refine e_B ?_
    refine e_S ?_
    refine c_region ?_
    refine wl (r_add rfl rfl rfl (by omega)) ?_
    refine wl (r_mv (v := .int _ _) rfl) ?_
    refine x_nil ?_
    refine e_LS (xs.length - (k + 1)) (by omega) (by repeat (first | exact ag_refl | exact ag_ovr' | refine ag_upd rfl ?_ | refine ag_sub rfl ?_ | refine ag_kn (by assumption) ?_)) ?_
    exact ⟨k + 1, by omega, rfl, rfl, hB, fun j hj hj2 h => by
      by_cases e : j = k
      · subst e; exact Decidable.not_not.1 c24
      · exact hall j hj hj2 (by omega)⟩
  ·
   have heq : xs = ys := List.ext_getElem hle (fun j h1 h2 => hall j h1 h2 (by omega))
   refine c_exit ?_
   refine e_Sx ?_
   refine e_LSx ?_
   refine e_Bx ?_
   refine e_S ?_
   refine c_seq ?_
   refine c_region ?_
   refine wl (r_as (v := .bool _) rfl) ?_
   refine x_nil ?_
   refine e_S ?_
   refine c_ret ?_
   refine fin1 (.inl rfl) rfl rfl ?_
   exact ⟨ret_bool (decide_eq_true heq), hB⟩
end Go.Proofs.YtahdbbgkgokkhaaDoor
