/- What these functions of the program compute, at every world: slices.Index[[]bool,bool], slices.Contains[[]bool,bool]. -/
import Derived.Test.YtahdbbgkgokkhaaDoorTables
namespace Go.Proofs.YtahdbbgkgokkhaaDoor
open Go.RowKit

theorem fn29 : callable Tryd.prog 29 = true := by kernel_rfl
theorem sz4_CBi : (Tryd.prog.info? 4).map (·.size) = some 1 := by kernel_rfl
theorem index_any (b n : Nat) (mk : Nat → Bool) (w : World) (hb : Blk w b 4 (row n (fun x => .bool (mk x)))) (hn : n ≤ 1000) : Calls Tryd.prog 29 #[.slice (some ⟨b, 0, none⟩) n n, .bool false] w fun e w' => (∃ r, e = .returned (.int .i64 r) ∧ ((r = -1 ∧ ∀ i, i < n → mk i = true) ∨ ∃ k : Nat, r = k ∧ k < n ∧ mk k = false ∧ ∀ i, i < k → mk i = true)) ∧ Bel w w' := by
 refine enter Tryd.func29 Tryd.ntmps29 rfl (Nat.le_of_ble_eq_true rfl) ?_
 have hB : Bel w w := Below.refl _ _
 refine c_seq ?_
 refine c_region ?_
 refine wl (r_as (v := .int _ _) rfl) ?_
 refine x_nil ?_
 refine e_S ?_
 refine c_seq ?_
 refine c_seq ?_
 refine c_region ?_
 refine wl (r_mv (v := .slice _ _ _) rfl) ?_
 refine wl (r_len Tryd.underlying37 rfl) ?_
 refine wl (r_mv (v := .int _ _) rfl) ?_
 refine x_nil ?_
 refine e_S ?_
 refine c_block ?_
 refine c_loopS [4, 5, 8, 9, 10, 11, 12, 13, 14, 15, 16, 17, 18] (fun m g w' => ∃ k : Nat, k ≤ n ∧ m = n - k ∧ g 8 = .int .i64 k ∧ Bel w w' ∧ ∀ i, i < k → mk i = true) (n) ?_ (fun m g2 w1 hI => ?_)
 ·
  exact ⟨0, Nat.zero_le _, rfl, rfl, hB, fun i hi => by omega⟩
 obtain ⟨k, hk, hm, h8, hB, hA⟩ := hI
 refine c_know 8 (.int .i64 k) h8 (by simp [undef]) ?_
 refine c_seq ?_
 refine c_region ?_
 refine wl (r_lss rfl rfl) ?_
 refine x_nil ?_
 refine e_S ?_
 refine c_seq ?_
 refine c_ifd rfl (fun c9 => ?_) (fun c9 => ?_)
 ·
  have hlt : k < n := by omega
  refine c_skip ?_
  refine e_S ?_
  refine c_seq ?_
  refine c_block ?_
  refine c_seq ?_
  refine c_region ?_
  refine wl (r_mv (v := .int _ _) rfl) ?_
  refine wl (r_as (v := .int _ _) rfl) ?_
  refine x_nil ?_
  refine e_S ?_
  refine c_seq ?_
  refine c_region ?_
  refine wl (r_mv (v := .bool _) rfl) ?_
  refine wl (r_mv (v := .slice _ _ _) rfl) ?_
  refine wl (r_mv (v := .int _ _) rfl) ?_
  refine wl (r_ia (i := k) Tryd.underlying37 sz4_CBi rfl rfl (by omega) rfl) ?_
  refine wl (r_ld1 (v := .bool _) Tryd.underlying4 rfl rfl ((hb.bel hB).cell (row_get hlt))) ?_
  refine wl (r_eqlB Tryd.underlying4 rfl rfl) ?_
  refine x_nil ?_
  refine e_S ?_
  refine c_if rfl (fun c16 => ?_) (fun c16 => ?_)
  ·
   have hmk : mk k = false := by simpa using c16
   refine c_seq ?_
   refine c_region ?_
   refine wl (r_mv (v := .int _ _) rfl) ?_
   refine wl (r_as (v := .int _ _) rfl) ?_
   refine x_nil ?_
   refine e_S ?_
   refine c_ret ?_
   refine e_Br ?_
   refine e_Sr ?_
   refine e_LSr ?_
   refine e_Br ?_
   refine e_Sr ?_
   refine fin1 (.inl rfl) rfl rfl ?_
   exact ⟨⟨_, rfl, .inr ⟨k, rfl, hlt, hmk, hA⟩⟩, hB⟩
  ·
   refine c_skip ?_
   refine e_B ?_
   refine e_S ?_
   refine c_region ?_
   refine wl (r_add rfl rfl rfl (by omega)) ?_
   refine wl (r_mv (v := .int _ _) rfl) ?_
   refine x_nil ?_
   refine e_LS (n - (k + 1)) (by omega) (by repeat (first | exact ag_refl | exact ag_ovr' | refine ag_upd rfl ?_ | refine ag_sub rfl ?_ | refine ag_kn (by assumption) ?_)) ?_
   exact ⟨k + 1, by omega, rfl, rfl, hB, fun i hi => by
     by_cases e : i = k
     · subst e; simpa using c16
     · exact hA i (by omega)⟩
 ·
  have hke : k = n := by omega
  subst hke
  refine c_exit ?_
  refine e_Sx ?_
  refine e_LSx ?_
  refine e_Bx ?_
  refine e_S ?_
  refine c_seq ?_
  refine c_region ?_
  refine wl (r_as (v := .int _ _) rfl) ?_
  refine x_nil ?_
  refine e_S ?_
  refine c_ret ?_
  refine fin1 (.inl rfl) rfl rfl ?_
  exact ⟨⟨_, rfl, .inl ⟨rfl, hA⟩⟩, hB⟩

theorem bct_any (b n : Nat) (mk : Nat → Bool) (w : World) (hb : Blk w b 4 (row n (fun x => .bool (mk x)))) (hn : n ≤ 1000) (hall : ∀ i, i < n → mk i = true) : Calls Tryd.prog 11 #[.slice (some ⟨b, 0, none⟩) n n, .bool false] w fun e w' => e = .returned (.bool false) ∧ Bel w w' := by
 refine enter Tryd.func11 Tryd.ntmps11 rfl (Nat.le_of_ble_eq_true rfl) ?_
 have hB : Bel w w := Below.refl _ _
 refine c_seq ?_
 refine c_region ?_
 refine wl (r_as (v := .bool _) rfl) ?_
 refine x_nil ?_
 refine e_S ?_
 refine c_seq ?_
 refine c_region ?_
 refine wl (r_mv (v := .slice _ _ _) rfl) ?_
 refine wl (r_mv (v := .bool _) rfl) ?_
 refine wl_cl fn29 (index_any b n mk _ hb hn) rfl (fun e' w1 hr => ?_)
 obtain ⟨⟨r, rfl, hr⟩, hs⟩ := hr
 replace hs := Same.of_bel hs
 replace hB := hB.tr0 hs
 clear hs
 obtain rfl : r = -1 := by
   rcases hr with ⟨h, _⟩ | ⟨k, _, h2, h3, _⟩
   · exact h
   · rw [hall k h2] at h3; cases h3
 refine ⟨_, rfl, ?_⟩
 refine wl (r_geq rfl rfl) ?_
 refine wl (r_as (v := .bool _) rfl) ?_
 refine x_nil ?_
 refine e_S ?_
 refine c_ret ?_
 refine fin1 (.inl rfl) rfl rfl ?_
 exact ⟨rfl, hB⟩
end Go.Proofs.YtahdbbgkgokkhaaDoor
