/- What these functions of the program compute, at every world: glosswright/hierarchy.meetOf, slices.Index[[]uint64,uint64], slices.Contains[[]uint64,uint64]. -/
import Derived.Test.YtahdbbgkgokkhaaDoorCSet
import Derived.Test.YtahdbbgkgokkhaaDoorCrw
namespace Go.Proofs.YtahdbbgkgokkhaaDoor
open Go.RowKit

theorem fn38 : callable Tryd.prog 38 = true := by kernel_rfl
theorem sz49_CMo : (Tryd.prog.info? 49).map (·.size) = some 1 := by kernel_rfl
theorem mof_any {A B : Option Addr} {n m c d i : Nat} {S0 ds : List Nat} (w : World) (hS : UIn w A S0) (hD : UIn w B ds) (hn : S0.length = n) (hm : ds.length = m) (hi : i < n + m) : Calls Tryd.prog 16 #[.slice A n c, .slice B m d, .int .i64 (i : Nat)] w fun e w' => e = .returned (uV ((S0 ++ ds).getD i 0)) ∧ w = w' := by
 subst hn hm
 have hs1 := hS.1
 have hs2 := hD.1
 unfold maxI at hs1 hs2
 refine enter Tryd.func16 Tryd.ntmps16 rfl (Nat.le_of_ble_eq_true rfl) ?_
 refine c_seq ?_
 refine c_region ?_
 refine wl (r_as (v := .int _ _) rfl) ?_
 refine x_nil ?_
 refine e_S ?_
 refine c_seq ?_
 refine c_seq ?_
 refine c_region ?_
 refine wl (r_mv (v := .int _ _) rfl) ?_
 refine wl (r_mv (v := .slice _ _ _) rfl) ?_
 refine wl (r_len Tryd.underlying45 rfl) ?_
 refine wl (r_lss rfl rfl) ?_
 refine x_nil ?_
 refine e_S ?_
 refine c_ifd rfl (fun c10 => ?_) (fun c10 => ?_)
 ·
  have hlt : i < S0.length := by omega
  obtain ⟨sb, so, rfl, hsb, hsc⟩ := hS.at_ hlt
  refine c_seq ?_
  refine c_region ?_
  refine wl (r_mv (v := .slice _ _ _) rfl) ?_
  refine wl (r_mv (v := .int _ _) rfl) ?_
  refine wl (r_ia (i := i) Tryd.underlying45 sz49_CMo rfl rfl hlt rfl) ?_
  refine wl (r_ld1 (v := .int .u64 _) Tryd.underlying49 rfl rfl hsc) ?_
  refine wl (r_as (v := .int _ _) rfl) ?_
  refine x_nil ?_
  refine e_S ?_
  refine c_ret ?_
  refine e_Sr ?_
  refine fin1 (.inl rfl) rfl rfl ?_
  exact ⟨by rw [getD_app hlt]; rfl, rfl⟩
 ·
  have hge : S0.length ≤ i := by omega
  have hlt2 : i - S0.length < ds.length := by omega
  obtain ⟨sb, so, rfl, hsb, hsc⟩ := hD.at_ hlt2
  refine c_skip ?_
  refine e_S ?_
  refine c_seq ?_
  refine c_region ?_
  refine wl (r_mv (v := .slice _ _ _) rfl) ?_
  refine wl (r_mv (v := .int _ _) rfl) ?_
  refine wl (r_mv (v := .slice _ _ _) rfl) ?_
  refine wl (r_len Tryd.underlying45 rfl) ?_
  refine wl (r_sub (c := ((i - S0.length : Nat) : Int)) rfl rfl (by omega) (by omega)) ?_
  refine wl (r_ia (i := i - S0.length) Tryd.underlying45 sz49_CMo rfl rfl hlt2 rfl) ?_
  refine wl (r_ld1 (v := .int .u64 _) Tryd.underlying49 rfl rfl hsc) ?_
  refine wl (r_as (v := .int _ _) rfl) ?_
  refine x_nil ?_
  refine e_S ?_
  refine c_ret ?_
  refine fin1 (.inl rfl) rfl rfl ?_
  exact ⟨by rw [getD_app2 hge hlt2]; rfl, rfl⟩

theorem uix_any {A : Option Addr} {n c x : Nat} {xs : List Nat} (w : World) (hX : UIn w A xs) (hn : xs.length = n) : Calls Tryd.prog 38 #[.slice A n c, .int .u64 (x : Int)] w fun e w' => (∃ r : Int, e = .returned (.int .i64 r) ∧ (0 ≤ r ↔ x ∈ xs)) ∧ w = w' := by
 subst hn
 have hmx := hX.1
 unfold maxI at hmx
 refine enter Tryd.func38 Tryd.ntmps38 rfl (Nat.le_of_ble_eq_true rfl) ?_
 refine c_seq ?_
 refine c_region ?_
 refine wl (r_as (v := .int _ _) rfl) ?_
 refine x_nil ?_
 refine e_S ?_
 refine c_seq ?_
 refine c_seq ?_
 refine c_region ?_
 refine wl (r_mv (v := .slice _ _ _) rfl) ?_
 refine wl (r_len Tryd.underlying45 rfl) ?_
 refine wl (r_mv (v := .int _ _) rfl) ?_
 refine x_nil ?_
 refine e_S ?_
 refine c_block ?_
 refine c_loopS [4, 5, 8, 9, 10, 11, 12, 13, 14, 15, 16, 17, 18] (fun m g w' => ∃ j : Nat, j ≤ xs.length ∧ m = xs.length - j ∧ g 8 = .int .i64 j ∧ w = w' ∧ (∀ j' (hj : j' < xs.length), j' < j → ¬ x = xs[j'])) (xs.length) ?_ (fun m g2 w1 hI => ?_)
 ·
  exact ⟨0, Nat.zero_le _, rfl, rfl, rfl, fun j _ h => by omega⟩
 obtain ⟨j, hj, hm, h8, rfl, hall⟩ := hI
 refine c_know 8 (.int .i64 j) h8 (by simp [undef]) ?_
 refine c_seq ?_
 refine c_region ?_
 refine wl (r_lss rfl rfl) ?_
 refine x_nil ?_
 refine e_S ?_
 refine c_seq ?_
 refine c_ifd rfl (fun c9 => ?_) (fun c9 => ?_)
 ·
  have hjl : j < xs.length := by omega
  obtain ⟨lb, lof, rfl, hlb, hlr⟩ := hX.at_ hjl
  refine c_skip ?_
  refine e_S ?_
  refine c_seq ?_
  refine c_block ?_
  refine c_seq ?_
  refine c_region ?_
  refine wl (r_mv (v := .int _ _) rfl) ?_
  refine wl (r_as (v := .int _ _) rfl) ?_
  refine x_nil ?_
  refine e_S ?_
  refine c_seq ?_
  refine c_region ?_
  refine wl (r_mv (v := .int _ _) rfl) ?_
  refine wl (r_mv (v := .slice _ _ _) rfl) ?_
  refine wl (r_mv (v := .int _ _) rfl) ?_
  refine wl (r_ia (i := j) Tryd.underlying45 sz49_CMo rfl rfl (by omega) rfl) ?_
  refine wl (r_ld1 (v := .int .u64 _) Tryd.underlying49 rfl rfl hlr) ?_
  refine wl (r_eql rfl rfl) ?_
  refine x_nil ?_
  refine e_S ?_
  refine c_ifd rfl (fun c16 => ?_) (fun c16 => ?_)
  ·
   refine c_seq ?_
   refine c_region ?_
   refine wl (r_mv (v := .int _ _) rfl) ?_
   refine wl (r_as (v := .int _ _) rfl) ?_
   refine x_nil ?_
   refine e_S ?_
   refine c_ret ?_
   refine e_Br ?_
   refine e_Sr ?_
   refine e_LSr ?_
   refine e_Br ?_
   refine e_Sr ?_
   refine fin1 (.inl rfl) rfl rfl ?_
   exact ⟨⟨_, rfl, ⟨fun _ => (show x = xs[j] by omega) ▸ List.getElem_mem hjl, fun _ => by omega⟩⟩, rfl⟩
  ·
   refine c_skip ?_
   refine e_B ?_
   refine e_S ?_
   refine c_region ?_
   refine wl (r_add rfl rfl rfl (by omega)) ?_
   refine wl (r_mv (v := .int _ _) rfl) ?_
   refine x_nil ?_
   refine e_LS (xs.length - (j + 1)) (by omega) (by repeat (first | exact ag_refl | exact ag_ovr' | refine ag_upd rfl ?_ | refine ag_sub rfl ?_ | refine ag_kn (by assumption) ?_)) ?_
   exact ⟨j + 1, by omega, rfl, rfl, rfl, fun j' hj' h => by
     by_cases e : j' = j
     · subst e; omega
     · exact hall j' hj' (by omega)⟩
 ·
  have hje : j = xs.length := by omega
  subst hje
  refine c_exit ?_
  refine e_Sx ?_
  refine e_LSx ?_
  refine e_Bx ?_
  refine e_S ?_
  refine c_seq ?_
  refine c_region ?_
  refine wl (r_as (v := .int _ _) rfl) ?_
  refine x_nil ?_
  refine e_S ?_
  refine c_ret ?_
  refine fin1 (.inl rfl) rfl rfl ?_
  exact ⟨⟨_, rfl, ⟨fun h => absurd h (by decide), fun h => by
    obtain ⟨k, hk, e⟩ := List.mem_iff_getElem.1 h
    exact absurd e.symm (hall k hk hk)⟩⟩, rfl⟩

theorem uct_any {A : Option Addr} {n c x : Nat} {xs : List Nat} (w : World) (hX : UIn w A xs) (hn : xs.length = n) : Calls Tryd.prog 17 #[.slice A n c, .int .u64 (x : Int)] w fun e w' => e = .returned (.bool (decide (x ∈ xs))) ∧ w = w' := by
 refine enter Tryd.func17 Tryd.ntmps17 rfl (Nat.le_of_ble_eq_true rfl) ?_
 refine c_seq ?_
 refine c_region ?_
 refine wl (r_as (v := .bool _) rfl) ?_
 refine x_nil ?_
 refine e_S ?_
 refine c_seq ?_
 refine c_region ?_
 refine wl (r_mv (v := .slice _ _ _) rfl) ?_
 refine wl (r_mv (v := .int _ _) rfl) ?_
 refine wl_cl fn38 (uix_any _ hX hn) rfl (fun e' w1 hr => ?_)
 obtain ⟨⟨r, rfl, hr⟩, rfl⟩ := hr
 refine ⟨_, rfl, ?_⟩
 refine wl (r_geq rfl rfl) ?_
 refine wl (r_as (v := .bool _) rfl) ?_
 refine x_nil ?_
 refine e_S ?_
 refine c_ret ?_
 refine fin1 (.inl rfl) rfl rfl ?_
 exact ⟨ret_bool (decide_eq_decide.2 hr.symm), rfl⟩
end Go.Proofs.YtahdbbgkgokkhaaDoor
