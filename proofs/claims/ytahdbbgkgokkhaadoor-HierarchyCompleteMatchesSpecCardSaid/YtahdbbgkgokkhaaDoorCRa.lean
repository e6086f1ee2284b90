/- What these functions of the program compute, at every world: slices.Index[[]int,int], slices.Contains[[]int,int], glosswright/glosswrightref4.common, glosswright/glosswrightref4.find, glosswright/glosswrightref4.used, slices.Compare[[]int,int]. -/
import Derived.Test.YtahdbbgkgokkhaaDoorRcm
import Derived.Test.YtahdbbgkgokkhaaDoorNIeq
import Derived.Test.YtahdbbgkgokkhaaDoorCBit
import Derived.Test.YtahdbbgkgokkhaaDoorName
namespace Go.Proofs.YtahdbbgkgokkhaaDoor
open Go.RowKit

theorem fn21_CRa : callable Tryd.prog 21 = true := by kernel_rfl
theorem fn30_CRa : callable Tryd.prog 30 = true := by kernel_rfl
theorem fn45 : callable Tryd.prog 45 = true := by kernel_rfl
theorem fn59 : callable Tryd.prog 59 = true := by kernel_rfl
theorem in3_CRa : (Tryd.prog.info? 3).map (fun i => (i.zero, i.size, i.bytes)) = some (some (.int .i64 0), 1, 8) := by kernel_rfl
theorem iix_any {A : Option Addr} {c : Nat} {x : Int} {xs : List Int} (w : World) (hX : IntsIn w A xs) : Calls Tryd.prog 59 #[.slice A xs.length c, .int .i64 x] w fun e w' => (∃ r : Int, e = .returned (.int .i64 r) ∧ (0 ≤ r ↔ x ∈ xs)) ∧ w = w' := by
 have hmx := hX.1
 unfold maxI at hmx
 refine enter Tryd.func59 Tryd.ntmps59 rfl (Nat.le_of_ble_eq_true rfl) ?_
 refine c_seq ?_
 refine c_region ?_
 refine wl (r_as (v := .int _ _) rfl) ?_
 refine x_nil ?_
 refine e_S ?_
 refine c_seq ?_
 refine c_seq ?_
 refine c_region ?_
 refine wl (r_mv (v := .slice _ _ _) rfl) ?_
 refine wl (r_len Tryd.underlying33 rfl) ?_
 refine wl (r_mv (v := .int _ _) rfl) ?_
 refine x_nil ?_
 refine e_S ?_
 refine c_block ?_
 refine c_loopS [4, 5, 8, 9, 10, 11, 12, 13, 14, 15, 16, 17, 18] (fun m g w' => ∃ j : Nat, j ≤ xs.length ∧ m = xs.length - j ∧ g 8 = .int .i64 j ∧ w = w' ∧ (∀ j' (hj : j' < xs.length), j' < j → ¬ x = xs[j'])) (xs.length) ?_ (fun m g2 w1 hI => ?_)
 ·
  exact ⟨0, Nat.zero_le _, rfl, rfl, rfl, fun j _ h => by omega⟩
 obtain ⟨j, hj, hm, h8, rfl, hall⟩ := hI
 refine c_know 8 (.int .i64 j) h8 (by simp [undef]) ?_
 refine c_seq ?_
 refine c_region ?_
 refine wl (r_lss rfl rfl) ?_
 refine x_nil ?_
 refine e_S ?_
 refine c_seq ?_
 refine c_ifd rfl (fun c9 => ?_) (fun c9 => ?_)
 ·
  have hjl : j < xs.length := by omega
  obtain ⟨lb, lof, rfl, hlb, hlr⟩ := hX.at_ hjl
  refine c_skip ?_
  refine e_S ?_
  refine c_seq ?_
  refine c_block ?_
  refine c_seq ?_
  refine c_region ?_
  refine wl (r_mv (v := .int _ _) rfl) ?_
  refine wl (r_as (v := .int _ _) rfl) ?_
  refine x_nil ?_
  refine e_S ?_
  refine c_seq ?_
  refine c_region ?_
  refine wl (r_mv (v := .int _ _) rfl) ?_
  refine wl (r_mv (v := .slice _ _ _) rfl) ?_
  refine wl (r_mv (v := .int _ _) rfl) ?_
  refine wl (r_ia (i := j) Tryd.underlying33 sz3 rfl rfl (by omega) rfl) ?_
  refine wl (r_ld1 (v := .int _ _) Tryd.underlying3 rfl rfl hlr) ?_
  refine wl (r_eql rfl rfl) ?_
  refine x_nil ?_
  refine e_S ?_
  refine c_ifd rfl (fun c16 => ?_) (fun c16 => ?_)
  ·
   refine c_seq ?_
   refine c_region ?_
   refine wl (r_mv (v := .int _ _) rfl) ?_
   refine wl (r_as (v := .int _ _) rfl) ?_
   refine x_nil ?_
   refine e_S ?_
   refine c_ret ?_
   refine e_Br ?_
   refine e_Sr ?_
   refine e_LSr ?_
   refine e_Br ?_
   refine e_Sr ?_
   refine fin1 (.inl rfl) rfl rfl ?_
   exact ⟨⟨_, rfl, ⟨fun _ => c16 ▸ List.getElem_mem hjl, fun _ => by omega⟩⟩, rfl⟩
  ·
   refine c_skip ?_
   refine e_B ?_
   refine e_S ?_
   refine c_region ?_
   refine wl (r_add rfl rfl rfl (by omega)) ?_
   refine wl (r_mv (v := .int _ _) rfl) ?_
   refine x_nil ?_
   refine e_LS (xs.length - (j + 1)) (by omega) (by repeat (first | exact ag_refl | exact ag_ovr' | refine ag_upd rfl ?_ | refine ag_sub rfl ?_ | refine ag_kn (by assumption) ?_)) ?_
   exact ⟨j + 1, by omega, rfl, rfl, rfl, fun j' hj' h => by
     by_cases e : j' = j
     · subst e; exact c16
     · exact hall j' hj' (by omega)⟩
 ·
  have hje : j = xs.length := by omega
  subst hje
  refine c_exit ?_
  refine e_Sx ?_
  refine e_LSx ?_
  refine e_Bx ?_
  refine e_S ?_
  refine c_seq ?_
  refine c_region ?_
  refine wl (r_as (v := .int _ _) rfl) ?_
  refine x_nil ?_
  refine e_S ?_
  refine c_ret ?_
  refine fin1 (.inl rfl) rfl rfl ?_
  exact ⟨⟨_, rfl, ⟨fun h => absurd h (by decide), fun h => by
    obtain ⟨k, hk, e⟩ := List.mem_iff_getElem.1 h
    exact absurd e.symm (hall k hk hk)⟩⟩, rfl⟩

theorem ict_any {A : Option Addr} {c : Nat} {x : Int} {xs : List Int} (w : World) (hX : IntsIn w A xs) : Calls Tryd.prog 45 #[.slice A xs.length c, .int .i64 x] w fun e w' => e = .returned (.bool (decide (x ∈ xs))) ∧ w = w' := by
 refine enter Tryd.func45 Tryd.ntmps45 rfl (Nat.le_of_ble_eq_true rfl) ?_
 refine c_seq ?_
 refine c_region ?_
 refine wl (r_as (v := .bool _) rfl) ?_
 refine x_nil ?_
 refine e_S ?_
 refine c_seq ?_
 refine c_region ?_
 refine wl (r_mv (v := .slice _ _ _) rfl) ?_
 refine wl (r_mv (v := .int _ _) rfl) ?_
 refine wl_cl fn59 (iix_any _ hX) rfl (fun e' w1 hr => ?_)
 obtain ⟨⟨r, rfl, hr⟩, rfl⟩ := hr
 refine ⟨_, rfl, ?_⟩
 refine wl (r_geq rfl rfl) ?_
 refine wl (r_as (v := .bool _) rfl) ?_
 refine x_nil ?_
 refine e_S ?_
 refine c_ret ?_
 refine fin1 (.inl rfl) rfl rfl ?_
 exact ⟨ret_bool (decide_eq_decide.2 hr.symm), rfl⟩

theorem com_any {A B : Option Addr} {c d : Nat} {xs ys : List Int} (w : World) (hX : IntsIn w A xs) (hY : IntsIn w B ys) (hl : xs.length ≤ 1000) : Calls Tryd.prog 31 #[.slice A xs.length c, .slice B ys.length d] w fun e w' => (∃ A' c', e = .returned (.slice A' (xs.filter (fun z => decide (z ∈ ys))).length c') ∧ Own w' w.heap.size 3 1 A' (xs.filter (fun z => decide (z ∈ ys))).length c' ((xs.filter (fun z => decide (z ∈ ys))).map (Value.int .i64))) ∧ Bel w w' := by
 refine enter Tryd.func31 Tryd.ntmps31 rfl (Nat.le_of_ble_eq_true rfl) ?_
 have hB : Bel w w := Below.refl _ _
 refine c_seq ?_
 refine c_region ?_
 refine wl (r_as (v := .slice _ _ _) rfl) ?_
 refine x_nil ?_
 refine e_S ?_
 refine c_seq ?_
 refine c_region ?_
 refine wl (r_as (v := .slice _ _ _) rfl) ?_
 refine x_nil ?_
 refine e_S ?_
 refine c_seq ?_
 refine c_seq ?_
 refine c_region ?_
 refine wl (r_mv (v := .slice _ _ _) rfl) ?_
 refine wl (r_len Tryd.underlying33 rfl) ?_
 refine wl (r_mv (v := .int _ _) rfl) ?_
 refine x_nil ?_
 refine e_S ?_
 refine c_block ?_
 refine c_loopS [5, 7, 10, 11, 12, 13, 14, 15, 16, 17, 18, 19, 20, 21] (fun m g w' => ∃ (k : Nat) (A5 : Option Addr) (c5 : Nat) (zs : List Int), k ≤ xs.length ∧ m = xs.length - k ∧ g 10 = .int .i64 k ∧ g 5 = .slice A5 zs.length c5 ∧ zs = (xs.take k).filter (fun z => decide (z ∈ ys)) ∧ zs.length ≤ k ∧ Bel w w' ∧ Own w' w.heap.size 3 1 A5 (zs).length c5 ((zs).map (Value.int .i64))) (xs.length) ?_ (fun m g3 w1 hI => ?_)
 ·
  exact ⟨0, none, 0, [], Nat.zero_le _, rfl, rfl, rfl, rfl, Nat.zero_le _, hB, Own.nil _ _ _ _⟩
 obtain ⟨k, A5, c5, zs, hk, hm, h10, h5, hz, hzk, hB, ho⟩ := hI
 refine c_know 10 (.int .i64 k) h10 (by simp [undef]) ?_
 refine c_know 5 (.slice A5 zs.length c5) h5 (by simp [undef]) ?_
 refine c_seq ?_
 refine c_region ?_
 refine wl (r_lss rfl rfl) ?_
 refine x_nil ?_
 refine e_S ?_
 refine c_seq ?_
 refine c_ifd rfl (fun c11 => ?_) (fun c11 => ?_)
 ·
  have hlt : k < xs.length := by omega
  obtain ⟨xb, xo, rfl, hxb, hxc⟩ := hX.at_ hlt
  refine c_skip ?_
  refine e_S ?_
  refine c_seq ?_
  refine c_block ?_
  refine c_seq ?_
  refine c_region ?_
  refine wl (r_ia (i := k) Tryd.underlying33 sz3 rfl rfl hlt rfl) ?_
  refine wl (r_ld1 (v := .int _ _) Tryd.underlying3 rfl rfl (hB.cell hxb hxc)) ?_
  refine wl (r_as (v := .int _ _) rfl) ?_
  refine x_nil ?_
  refine e_S ?_
  refine c_seq ?_
  refine c_region ?_
  refine wl (r_mv (v := .slice _ _ _) rfl) ?_
  refine wl (r_mv (v := .int _ _) rfl) ?_
  refine wl_cl fn45 (ict_any _ (hY.mono hB)) rfl (fun e' w2 hr => ?_)
  obtain ⟨rfl, rfl⟩ := hr
  refine ⟨_, rfl, ?_⟩
  refine x_nil ?_
  refine e_S ?_
  refine c_if rfl (fun c16 => ?_) (fun c16 => ?_)
  ·
   refine c_region ?_
   refine wl (r_mv (v := .slice _ _ _) rfl) ?_
   refine wl (r_mv (v := .int _ _) rfl) ?_
   refine wl_bs (cs := #[_]) [(0, .int _ _)] rfl Tryd.underlying33 sz3 ze3 (by decide) (by decide) (by kernel_rfl) rfl (fun b19 w3 hb19 hs hr => ?_)
   have or_ho_b19 := fun g hg => Nat.lt_of_lt_of_le (ho.lt g hg).2 hr
   have lo19 := Nat.le_trans (Bel.size hB) hr
   replace hB := hB.tr0 hs
   replace ho := ho.tr0 hs
   clear hs
   clear hr
   refine wl_app Tryd.underlying33 in3_CRa rfl (by decide) ho hb19 rfl rfl rfl (by repeat (first | rfl | refine one_cons (by first | rfl | assumption) ?_)) (by decide) (by omega) (by omega) (Bel.size hB) (fun g20 cap20 w4 ho20 hs hg => ?_)
   replace hB := hB.tr hs (fun g hg => Nat.le_trans (Nat.le_refl _) (ho.lt g hg).1)
   refine wl (r_as (v := .slice _ _ _) rfl) ?_
   refine x_nil ?_
   refine e_B ?_
   refine e_S ?_
   refine c_region ?_
   refine wl (r_add rfl rfl rfl (by omega)) ?_
   refine wl (r_mv (v := .int _ _) rfl) ?_
   refine x_nil ?_
   refine e_LS (xs.length - (k + 1)) (by omega) (by repeat (first | exact ag_refl | exact ag_ovr' | refine ag_upd rfl ?_ | refine ag_sub rfl ?_ | refine ag_kn (by assumption) ?_)) ?_
   first
     | exact ⟨k + 1, _, _, zs ++ [xs[k]'hlt], by omega, rfl, rfl, sl_snoc _ _ _ _, by rw [take_snoc xs hlt, List.filter_append, ← hz]; simp [of_decide_eq_true c16], by rw [List.length_append]; simp only [List.length_cons, List.length_nil]; omega, hB, own_snoc ho20⟩
     | exact ⟨k + 1, A5, c5, zs, by omega, rfl, rfl, rfl, by rw [take_snoc xs hlt, List.filter_append, ← hz]; simp [of_decide_eq_false c16], by omega, hB, ho⟩
  ·
   refine c_skip ?_
   refine e_B ?_
   refine e_S ?_
   refine c_region ?_
   refine wl (r_add rfl rfl rfl (by omega)) ?_
   refine wl (r_mv (v := .int _ _) rfl) ?_
   refine x_nil ?_
   refine e_LS (xs.length - (k + 1)) (by omega) (by repeat (first | exact ag_refl | exact ag_ovr' | refine ag_upd rfl ?_ | refine ag_sub rfl ?_ | refine ag_kn (by assumption) ?_)) ?_
   first
     | exact ⟨k + 1, _, _, zs ++ [xs[k]'hlt], by omega, rfl, rfl, sl_snoc _ _ _ _, by rw [take_snoc xs hlt, List.filter_append, ← hz]; simp [of_decide_eq_true c16], by rw [List.length_append]; simp only [List.length_cons, List.length_nil]; omega, hB, own_snoc ho20⟩
     | exact ⟨k + 1, A5, c5, zs, by omega, rfl, rfl, rfl, by rw [take_snoc xs hlt, List.filter_append, ← hz]; simp [of_decide_eq_false c16], by omega, hB, ho⟩
 ·
  have hke : k = xs.length := by omega
  rw [hke, List.take_length] at hz
  refine c_exit ?_
  refine e_Sx ?_
  refine e_LSx ?_
  refine e_Bx ?_
  refine e_S ?_
  refine c_seq ?_
  refine c_region ?_
  refine wl (r_mv (v := .slice _ _ _) rfl) ?_
  refine wl (r_as (v := .slice _ _ _) rfl) ?_
  refine x_nil ?_
  refine e_S ?_
  refine c_ret ?_
  refine fin1 (.inl rfl) rfl rfl ?_
  exact ⟨⟨A5, c5, by rw [← hz]; rfl, by rw [← hz]; exact ho⟩, hB⟩

theorem fnd_any {A B : Option Addr} {n c d x : Nat} {S0 : List Nat} (w : World) (hM : MatIn w A (msL S0)) (hn : S0.length = n) (hX : IntsIn w B (lsI x)) (hb : ∀ y ∈ S0, y < 18446744073709551616) (hx : x < 18446744073709551616) : Calls Tryd.prog 32 #[.slice A n c, .slice B (lsI x).length d] w fun e w' => (∃ r : Int, e = .returned (.int .i64 r) ∧ (0 ≤ r ↔ x ∈ S0)) ∧ Bel w w' := by
 subst hn
 have hmx := hM.1
 rw [msL_len] at hmx
 unfold maxI at hmx
 refine enter Tryd.func32 Tryd.ntmps32 rfl (Nat.le_of_ble_eq_true rfl) ?_
 have hB : Bel w w := Below.refl _ _
 refine c_seq ?_
 refine c_region ?_
 refine wl (r_as (v := .int _ _) rfl) ?_
 refine x_nil ?_
 refine e_S ?_
 refine c_seq ?_
 refine c_seq ?_
 refine c_region ?_
 refine wl (r_mv (v := .slice _ _ _) rfl) ?_
 refine wl (r_len Tryd.underlying67 rfl) ?_
 refine wl (r_mv (v := .int _ _) rfl) ?_
 refine x_nil ?_
 refine e_S ?_
 refine c_block ?_
 refine c_loopS [4, 5, 6, 9, 10, 11, 12, 13, 14, 15, 16, 17, 18] (fun m g w' => ∃ j : Nat, j ≤ S0.length ∧ m = S0.length - j ∧ g 9 = .int .i64 j ∧ Bel w w' ∧ (∀ j' (hj : j' < S0.length), j' < j → ¬ x = S0[j'])) (S0.length) ?_ (fun m g2 w1 hI => ?_)
 ·
  exact ⟨0, Nat.zero_le _, rfl, rfl, hB, fun j _ h => by omega⟩
 obtain ⟨j, hj, hm, h9, hB, hall⟩ := hI
 refine c_know 9 (.int .i64 j) h9 (by simp [undef]) ?_
 refine c_seq ?_
 refine c_region ?_
 refine wl (r_lss rfl rfl) ?_
 refine x_nil ?_
 refine e_S ?_
 refine c_seq ?_
 refine c_ifd rfl (fun c10 => ?_) (fun c10 => ?_)
 ·
  have hjl : j < S0.length := by omega
  obtain ⟨lb, lof, A9, c9, rfl, hlr, hI9⟩ := hM.at_ hB (show j < (msL S0).length by rw [msL_len]; exact hjl)
  rw [msL_get] at hlr hI9
  refine c_skip ?_
  refine e_S ?_
  refine c_seq ?_
  refine c_block ?_
  refine c_seq ?_
  refine c_region ?_
  refine wl (r_mv (v := .int _ _) rfl) ?_
  refine wl (r_ia (i := j) Tryd.underlying67 sz33 rfl rfl hjl rfl) ?_
  refine wl (r_ld1 (v := .slice _ _ _) Tryd.underlying33 rfl rfl hlr) ?_
  refine wl (r_as (v := .int _ _) rfl) ?_
  refine wl (r_as (v := .slice _ _ _) rfl) ?_
  refine x_nil ?_
  refine e_S ?_
  refine c_seq ?_
  refine c_region ?_
  refine wl (r_mv (v := .slice _ _ _) rfl) ?_
  refine wl (r_mv (v := .slice _ _ _) rfl) ?_
  refine wl_cl fn30_CRa (ieq_any _ _ _ _ _ _ _ (hX.mono hB) (hI9.mono hB)) rfl (fun e' w2 hr => ?_)
  obtain ⟨rfl, hs⟩ := hr
  replace hs := Same.of_bel hs
  replace hB := hB.tr0 hs
  clear hs
  refine ⟨_, rfl, ?_⟩
  refine x_nil ?_
  refine e_S ?_
  refine c_if rfl (fun c16 => ?_) (fun c16 => ?_)
  ·
   refine c_seq ?_
   refine c_region ?_
   refine wl (r_mv (v := .int _ _) rfl) ?_
   refine wl (r_as (v := .int _ _) rfl) ?_
   refine x_nil ?_
   refine e_S ?_
   refine c_ret ?_
   refine e_Br ?_
   refine e_Sr ?_
   refine e_LSr ?_
   refine e_Br ?_
   refine e_Sr ?_
   refine fin1 (.inl rfl) rfl rfl ?_
   exact ⟨⟨_, rfl, ⟨fun _ => by rw [lsI_inj hx (getD_lt hb hjl) (of_decide_eq_true c16)]; exact getD_mem hjl, fun _ => by omega⟩⟩, hB⟩
  ·
   refine c_skip ?_
   refine e_B ?_
   refine e_S ?_
   refine c_region ?_
   refine wl (r_add rfl rfl rfl (by omega)) ?_
   refine wl (r_mv (v := .int _ _) rfl) ?_
   refine x_nil ?_
   refine e_LS (S0.length - (j + 1)) (by omega) (by repeat (first | exact ag_refl | exact ag_ovr' | refine ag_upd rfl ?_ | refine ag_sub rfl ?_ | refine ag_kn (by assumption) ?_)) ?_
   exact ⟨j + 1, by omega, rfl, rfl, hB, fun j' hj' h e => by
     by_cases e2 : j' = j
     · subst e2; exact absurd (show lsI x = lsI (S0.getD j' 0) by rw [e]; simp [List.getD, hj']) (of_decide_eq_false c16)
     · exact hall j' hj' (by omega) e⟩
 ·
  have hje : j = S0.length := by omega
  subst hje
  refine c_exit ?_
  refine e_Sx ?_
  refine e_LSx ?_
  refine e_Bx ?_
  refine e_S ?_
  refine c_seq ?_
  refine c_region ?_
  refine wl (r_as (v := .int _ _) rfl) ?_
  refine x_nil ?_
  refine e_S ?_
  refine c_ret ?_
  refine fin1 (.inl rfl) rfl rfl ?_
  exact ⟨⟨_, rfl, ⟨fun h => absurd h (by decide), fun h => by
    obtain ⟨k, hk, e⟩ := List.mem_iff_getElem.1 h
    exact absurd e.symm (hall k hk hk)⟩⟩, hB⟩

theorem usd_any {A : Option Addr} {c : Nat} {l : List Ty} {s : ByteArray} (w : World) (hT : TypesIn w A l) : Calls Tryd.prog 36 #[.slice A l.length c, .string s] w fun e w' => e = .returned (.bool (seen (l.map (·.name)) s)) ∧ Bel w w' := by
 have hmx := hT.1
 unfold maxI at hmx
 refine enter Tryd.func36 Tryd.ntmps36 rfl (Nat.le_of_ble_eq_true rfl) ?_
 have hB : Bel w w := Below.refl _ _
 refine c_seq ?_
 refine c_region ?_
 refine wl (r_as (v := .bool _) rfl) ?_
 refine x_nil ?_
 refine e_S ?_
 refine c_seq ?_
 refine c_seq ?_
 refine c_region ?_
 refine wl (r_mv (v := .slice _ _ _) rfl) ?_
 refine wl (r_len Tryd.underlying22 rfl) ?_
 refine wl (r_mv (v := .int _ _) rfl) ?_
 refine x_nil ?_
 refine e_S ?_
 refine c_block ?_
 refine c_loopS [4, 6, 9, 10, 11, 12, 13, 14, 15, 16, 17] (fun m g w' => ∃ j : Nat, j ≤ l.length ∧ m = l.length - j ∧ g 9 = .int .i64 j ∧ seen ((l.take j).map (·.name)) s = false ∧ Bel w w') (l.length) ?_ (fun m g2 w1 hI => ?_)
 ·
  exact ⟨0, Nat.zero_le _, rfl, rfl, rfl, hB⟩
 obtain ⟨j, hj, hm, h9, hse, hB⟩ := hI
 refine c_know 9 (.int .i64 j) h9 (by simp [undef]) ?_
 refine c_seq ?_
 refine c_region ?_
 refine wl (r_lss rfl rfl) ?_
 refine x_nil ?_
 refine e_S ?_
 refine c_seq ?_
 refine c_ifd rfl (fun c10 => ?_) (fun c10 => ?_)
 ·
  have hjl : j < l.length := by omega
  obtain ⟨tb, to, A9, c9, rfl, htb, htr, _⟩ := hT.at_ hB hjl
  refine c_skip ?_
  refine e_S ?_
  refine c_seq ?_
  refine c_block ?_
  refine c_seq ?_
  refine c_region ?_
  refine wl (r_ia (i := j) Tryd.underlying22 sz35 rfl rfl hjl rfl) ?_
  refine wl (r_ldS Tryd.underlying35 rfl rfl htr sz35) ?_
  refine wl_al (cs := #[.string ⟨#[]⟩, .slice none 0 0]) ze35 rfl (fun b6 w2 hb6 hs hr => ?_)
  have lo6 := Nat.le_trans (Bel.size hB) hr
  replace hB := hB.tr0 hs
  clear hs
  clear hr
  refine wl_stW hb6 rfl rfl sz35 rfl (by repeat (first | rfl | refine one_cons (by first | rfl | assumption) ?_)) (fun w3 hq hs => ?_)
  replace hB := hB.tr1 hs lo6
  clear hs
  replace hb6 := hq
  refine x_nil ?_
  refine e_S ?_
  refine c_seq ?_
  refine c_region ?_
  refine wl (r_fa Tryd.underlying35 sz9 (by decide) rfl rfl rfl) ?_
  refine wl (r_ld1 (v := .string _) Tryd.underlying9 rfl rfl (hb6.cell rfl)) ?_
  refine wl (r_mv (v := .string _) rfl) ?_
  refine wl (r_eqlS rfl rfl) ?_
  refine x_nil ?_
  refine e_S ?_
  refine c_ifd rfl (fun c16 => ?_) (fun c16 => ?_)
  ·
   refine c_seq ?_
   refine c_region ?_
   refine wl (r_as (v := .bool _) rfl) ?_
   refine x_nil ?_
   refine e_S ?_
   refine c_ret ?_
   refine e_Br ?_
   refine e_Sr ?_
   refine e_LSr ?_
   refine e_Br ?_
   refine e_Sr ?_
   refine fin1 (.inl rfl) rfl rfl ?_
   exact ⟨ret_bool (by simp only [seen, List.any_eq_true, decide_eq_true_eq, List.mem_map]; exact ⟨_, ⟨_, List.getElem_mem hjl, rfl⟩, c16⟩), hB⟩
  ·
   refine c_skip ?_
   refine e_B ?_
   refine e_S ?_
   refine c_region ?_
   refine wl (r_add rfl rfl rfl (by omega)) ?_
   refine wl (r_mv (v := .int _ _) rfl) ?_
   refine x_nil ?_
   refine e_LS (l.length - (j + 1)) (by omega) (by repeat (first | exact ag_refl | exact ag_ovr' | refine ag_upd rfl ?_ | refine ag_sub rfl ?_ | refine ag_kn (by assumption) ?_)) ?_
   exact ⟨j + 1, by omega, rfl, rfl, by rw [take_snoc l hjl, List.map_append, List.map_cons, List.map_nil, seen_snoc, hse]; simp [c16], hB⟩
 ·
  have hje : j = l.length := by omega
  rw [hje, List.take_length] at hse
  refine c_exit ?_
  refine e_Sx ?_
  refine e_LSx ?_
  refine e_Bx ?_
  refine e_S ?_
  refine c_seq ?_
  refine c_region ?_
  refine wl (r_as (v := .bool _) rfl) ?_
  refine x_nil ?_
  refine e_S ?_
  refine c_ret ?_
  refine fin1 (.inl rfl) rfl rfl ?_
  exact ⟨ret_bool hse, hB⟩

theorem scmp_any (A B : Option Addr) (c d : Nat) (xs ys : List Int) (w : World) (hA : IntsIn w A xs) (hY : IntsIn w B ys) : Calls Tryd.prog 33 #[.slice A xs.length c, .slice B ys.length d] w fun e w' => e = .returned (.int .i64 (cmpJ xs ys)) ∧ w = w' := by
 have hxl := hA.1
 have hyl := hY.1
 unfold maxI at hxl hyl
 refine enter Tryd.func33 Tryd.ntmps33 rfl (Nat.le_of_ble_eq_true rfl) ?_
 refine c_seq ?_
 refine c_region ?_
 refine wl (r_as (v := .int _ _) rfl) ?_
 refine x_nil ?_
 refine e_S ?_
 refine c_seq ?_
 refine c_seq ?_
 refine c_region ?_
 refine wl (r_mv (v := .slice _ _ _) rfl) ?_
 refine wl (r_len Tryd.underlying33 rfl) ?_
 refine wl (r_mv (v := .int _ _) rfl) ?_
 refine x_nil ?_
 refine e_S ?_
 refine c_block ?_
 refine c_loopS [4, 5, 6, 7, 8, 11, 12, 13, 14, 15, 16, 17, 18, 19, 20, 21, 22, 23, 24, 25, 26, 27, 28, 29, 30] (fun m g w' => ∃ k : Nat, k ≤ xs.length ∧ k ≤ ys.length ∧ m = xs.length - k ∧ g 11 = .int .i64 k ∧ w = w' ∧ cmpJ xs ys = cmpJ (xs.drop k) (ys.drop k)) (xs.length) ?_ (fun m g2 w1 hI => ?_)
 ·
  exact ⟨0, Nat.zero_le _, Nat.zero_le _, rfl, rfl, rfl, rfl⟩
 obtain ⟨k, hk, hky, hm, h11, rfl, hR⟩ := hI
 refine c_know 11 (.int .i64 k) h11 (by simp [undef]) ?_
 refine c_seq ?_
 refine c_region ?_
 refine wl (r_lss rfl rfl) ?_
 refine x_nil ?_
 refine e_S ?_
 refine c_seq ?_
 refine c_ifd rfl (fun c12 => ?_) (fun c12 => ?_)
 ·
  have hlt : k < xs.length := by omega
  obtain ⟨xb, xo, rfl, hxb, hxc⟩ := hA.2 (by rintro rfl; simp at hlt)
  rw [List.drop_eq_getElem_cons hlt] at hR
  refine c_skip ?_
  refine e_S ?_
  refine c_seq ?_
  refine c_block ?_
  refine c_seq ?_
  refine c_region ?_
  refine wl (r_mv (v := .int _ _) rfl) ?_
  refine wl (r_ia (i := k) Tryd.underlying33 sz3 rfl rfl (by omega) rfl) ?_
  refine wl (r_ld1 (v := .int _ _) Tryd.underlying3 rfl rfl (hxc k hlt)) ?_
  refine wl (r_as (v := .int _ _) rfl) ?_
  refine wl (r_as (v := .int _ _) rfl) ?_
  refine x_nil ?_
  refine e_S ?_
  refine c_seq ?_
  refine c_seq ?_
  refine c_region ?_
  refine wl (r_mv (v := .int _ _) rfl) ?_
  refine wl (r_mv (v := .slice _ _ _) rfl) ?_
  refine wl (r_len Tryd.underlying33 rfl) ?_
  refine wl (r_geq rfl rfl) ?_
  refine x_nil ?_
  refine e_S ?_
  refine c_ifd rfl (fun c19 => ?_) (fun c19 => ?_)
  ·
   have hye : ys.drop k = [] := List.drop_eq_nil_of_le (by omega)
   rw [hye, cmpJ] at hR
   refine c_seq ?_
   refine c_region ?_
   refine wl (r_as (v := .int _ _) rfl) ?_
   refine x_nil ?_
   refine e_S ?_
   refine c_ret ?_
   refine e_Sr ?_
   refine e_Br ?_
   refine e_Sr ?_
   refine e_LSr ?_
   refine e_Br ?_
   refine e_Sr ?_
   refine fin1 (.inl rfl) rfl rfl ?_
   exact ⟨by rw [hR]; rfl, rfl⟩
  ·
   have hlt2 : k < ys.length := by omega
   obtain ⟨yb, yo, rfl, hyb, hyc⟩ := hY.2 (by rintro rfl; simp at hlt2)
   rw [List.drop_eq_getElem_cons hlt2, cmpJ] at hR
   refine c_skip ?_
   refine e_S ?_
   refine c_seq ?_
   refine c_region ?_
   refine wl (r_mv (v := .slice _ _ _) rfl) ?_
   refine wl (r_mv (v := .int _ _) rfl) ?_
   refine wl (r_ia (i := k) Tryd.underlying33 sz3 rfl rfl (by omega) rfl) ?_
   refine wl (r_ld1 (v := .int _ _) Tryd.underlying3 rfl rfl (hyc k hlt2)) ?_
   refine wl (r_as (v := .int _ _) rfl) ?_
   refine x_nil ?_
   refine e_S ?_
   refine c_seq ?_
   refine c_region ?_
   refine wl (r_mv (v := .int _ _) rfl) ?_
   refine wl (r_mv (v := .int _ _) rfl) ?_
   refine wl_cl fn21_CRa (cmpi_any _ _ _) rfl (fun e' w2 hr => ?_)
   obtain ⟨rfl, rfl⟩ := hr
   refine ⟨_, rfl, ?_⟩
   refine wl (r_as (v := .int _ _) rfl) ?_
   refine x_nil ?_
   refine e_S ?_
   refine c_seq ?_
   refine c_region ?_
   refine wl (r_mv (v := .int _ _) rfl) ?_
   refine wl (r_neq rfl rfl) ?_
   refine x_nil ?_
   refine e_S ?_
   refine c_ifd rfl (fun c28 => ?_) (fun c28 => ?_)
   ·
    rw [if_neg (show ¬ cmpI _ _ = 0 from c28)] at hR
    refine c_seq ?_
    refine c_region ?_
    refine wl (r_mv (v := .int _ _) rfl) ?_
    refine wl (r_as (v := .int _ _) rfl) ?_
    refine x_nil ?_
    refine e_S ?_
    refine c_ret ?_
    refine e_Br ?_
    refine e_Sr ?_
    refine e_LSr ?_
    refine e_Br ?_
    refine e_Sr ?_
    refine fin1 (.inl rfl) rfl rfl ?_
    exact ⟨by rw [hR]; rfl, rfl⟩
   ·
    rw [if_pos (show cmpI _ _ = 0 from Classical.not_not.1 c28)] at hR
    refine c_skip ?_
    refine e_B ?_
    refine e_S ?_
    refine c_region ?_
    refine wl (r_add rfl rfl rfl (by omega)) ?_
    refine wl (r_mv (v := .int _ _) rfl) ?_
    refine x_nil ?_
    refine e_LS (xs.length - (k + 1)) (by omega) (by repeat (first | exact ag_refl | exact ag_ovr' | refine ag_upd rfl ?_ | refine ag_sub rfl ?_ | refine ag_kn (by assumption) ?_)) ?_
    exact ⟨k + 1, by omega, by omega, rfl, rfl, rfl, hR⟩
 ·
  have hke : k = xs.length := by omega
  rw [hke, List.drop_length] at hR
  refine c_exit ?_
  refine e_Sx ?_
  refine e_LSx ?_
  refine e_Bx ?_
  refine e_S ?_
  refine c_seq ?_
  refine c_seq ?_
  refine c_region ?_
  refine wl (r_mv (v := .slice _ _ _) rfl) ?_
  refine wl (r_len Tryd.underlying33 rfl) ?_
  refine wl (r_mv (v := .slice _ _ _) rfl) ?_
  refine wl (r_len Tryd.underlying33 rfl) ?_
  refine wl (r_lss rfl rfl) ?_
  refine x_nil ?_
  refine e_S ?_
  refine c_ifd rfl (fun c35 => ?_) (fun c35 => ?_)
  ·
   have hye : 0 < (ys.drop k).length := by rw [List.length_drop]; omega
   have hRe : cmpJ xs ys = -1 := by
     rw [hke] at hye
     rw [hR]
     cases e : ys.drop xs.length with
     | nil => rw [e] at hye; simp at hye
     | cons a r => rfl
   refine c_seq ?_
   refine c_region ?_
   refine wl (r_as (v := .int _ _) rfl) ?_
   refine x_nil ?_
   refine e_S ?_
   refine c_ret ?_
   refine e_Sr ?_
   refine fin1 (.inl rfl) rfl rfl ?_
   exact ⟨by rw [hRe]; rfl, rfl⟩
  ·
   have hye : ys.drop xs.length = [] := List.drop_eq_nil_of_le (by omega)
   have hRe : cmpJ xs ys = 0 := by rw [hR, hye]; rfl
   refine c_skip ?_
   refine e_S ?_
   refine c_seq ?_
   refine c_region ?_
   refine wl (r_as (v := .int _ _) rfl) ?_
   refine x_nil ?_
   refine e_S ?_
   refine c_ret ?_
   refine fin1 (.inl rfl) rfl rfl ?_
   exact ⟨by rw [hRe]; rfl, rfl⟩
end Go.Proofs.YtahdbbgkgokkhaaDoor
