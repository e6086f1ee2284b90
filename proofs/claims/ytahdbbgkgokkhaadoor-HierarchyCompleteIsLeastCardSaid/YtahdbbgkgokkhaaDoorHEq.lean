/- What these functions of the program compute, at every world: glosswright/glosswrightequal.Types. -/
import Derived.Test.YtahdbbgkgokkhaaDoorEqs
import Derived.Test.YtahdbbgkgokkhaaDoorNIeq
namespace Go.Proofs.YtahdbbgkgokkhaaDoor
open Go.RowKit

theorem fn30 : callable Tryd.prog 30 = true := by kernel_rfl
set_option maxHeartbeats 1000000 in
theorem teq_any (A B : Option Addr) (c d : Nat) (xs ys : List Ty) (w : World) (hX : TypesIn w A xs) (hY : TypesIn w B ys) : Calls Tryd.prog 12 #[.slice A xs.length c, .slice B ys.length d] w fun e w' => (∃ b, e = .returned (.bool b) ∧ (b = true ↔ xs = ys)) ∧ Bel w w' := by
 have hmx := hX.1
 unfold maxI at hmx
 refine enter Tryd.func12 Tryd.ntmps12 rfl (Nat.le_of_ble_eq_true rfl) ?_
 have hB : Bel w w := Below.refl _ _
 refine c_seq ?_
 refine c_region ?_
 refine wl (r_as (v := .bool _) rfl) ?_
 refine x_nil ?_
 refine e_S ?_
 refine c_seq ?_
 refine c_seq ?_
 refine c_region ?_
 refine wl (r_mv (v := .slice _ _ _) rfl) ?_
 refine wl (r_len Tryd.underlying22 rfl) ?_
 refine wl (r_mv (v := .slice _ _ _) rfl) ?_
 refine wl (r_len Tryd.underlying22 rfl) ?_
 refine wl (r_neq rfl rfl) ?_
 refine x_nil ?_
 refine e_S ?_
 refine c_ifd rfl (fun c10 => ?_) (fun c10 => ?_)
 ·
  refine c_seq ?_
  refine c_region ?_
  refine wl (r_as (v := .bool _) rfl) ?_
  refine x_nil ?_
  refine e_S ?_
  refine c_ret ?_
  refine e_Sr ?_
  refine fin1 (.inl rfl) rfl rfl ?_
  exact ⟨⟨false, rfl, ⟨fun h => Bool.noConfusion h, fun h => absurd (by rw [h]) c10⟩⟩, hB⟩
 ·
  refine c_skip ?_
  refine e_S ?_
  refine c_seq ?_
  refine c_seq ?_
  refine c_region ?_
  refine wl (r_mv (v := .slice _ _ _) rfl) ?_
  refine wl (r_len Tryd.underlying22 rfl) ?_
  refine wl (r_mv (v := .int _ _) rfl) ?_
  refine x_nil ?_
  refine e_S ?_
  refine c_block ?_
  refine c_loopS [4, 5, 13, 14, 15, 16, 17, 18, 19, 20, 21, 22, 23, 24, 25, 26, 27, 28, 29, 30, 31, 32, 33, 34, 35, 36, 37, 38, 39, 40, 41] (fun m g w' => ∃ k : Nat, k ≤ xs.length ∧ m = xs.length - k ∧ g 13 = .int .i64 k ∧ Bel w w' ∧ xs.take k = ys.take k) (xs.length) ?_ (fun m g4 w1 hI => ?_)
  ·
   exact ⟨0, Nat.zero_le _, rfl, rfl, hB, rfl⟩
  obtain ⟨k, hk, hm, h13, hB, hE⟩ := hI
  refine c_know 13 (.int .i64 k) h13 (by simp [undef]) ?_
  refine c_seq ?_
  refine c_region ?_
  refine wl (r_lss rfl rfl) ?_
  refine x_nil ?_
  refine e_S ?_
  refine c_seq ?_
  refine c_ifd rfl (fun c14 => ?_) (fun c14 => ?_)
  ·
   have hlt : k < xs.length := by omega
   have hly : k < ys.length := by omega
   obtain ⟨ab, ao, LA, la, rfl, hab, har, haln⟩ := hX.at_ (Below.refl _ _ : Bel w w) hlt
   obtain ⟨bb, bo, LB, lb, rfl, hbb, hbr, hbln⟩ := hY.at_ (Below.refl _ _ : Bel w w) hly
   refine c_skip ?_
   refine e_S ?_
   refine c_seq ?_
   refine c_block ?_
   refine c_seq ?_
   refine c_region ?_
   refine wl (r_mv (v := .int _ _) rfl) ?_
   refine wl (r_as (v := .int _ _) rfl) ?_
   refine x_nil ?_
   refine e_S ?_
   refine c_seq ?_
   refine c_cutS [16, 17, 18, 19, 20, 21, 22, 23, 24, 25, 26, 27, 28, 29, 30, 31, 32, 33, 34, 35, 36, 37, 38, 39, 40] (fun g w' => g 40 = .bool (decide ((xs[k]'hlt).name ≠ (ys[k]'hly).name) || !decide ((xs[k]'hlt).par = (ys[k]'hly).par)) ∧ Same [] w1 w') ?_ (fun g6 w2 hI => ?_)
   ·
    refine c_held [] [0, 1, 2, 3, 4, 5, 6, 7, 8, 9, 10, 11, 12, 13, 14, 15, 16, 17, 18, 19, 20, 21, 22, 23, 24] rfl (fun w3 hs => ?_)
    have hs0 := hs
    replace hB := hB.tr0 hs
    clear hs
    refine hl rfl (fun _ => r_mv (v := .slice _ _ _) rfl) ?_
    refine hl rfl (fun _ => r_mv (v := .int _ _) rfl) ?_
    refine hl rfl (fun _ => r_ia (i := k) Tryd.underlying22 sz35 rfl rfl (by omega) rfl) ?_
    refine hl rfl (fun _ => r_fa Tryd.underlying35 sz9 (by decide) rfl rfl rfl) ?_
    refine hl1 (v := .string _) rfl Tryd.underlying9 rfl rfl (hB.cell hab (har 0 _ rfl)) ?_
    refine hl rfl (fun _ => r_mv (v := .slice _ _ _) rfl) ?_
    refine hl rfl (fun _ => r_mv (v := .int _ _) rfl) ?_
    refine hl rfl (fun _ => r_ia (i := k) Tryd.underlying22 sz35 rfl rfl (by omega) rfl) ?_
    refine hl rfl (fun _ => r_fa Tryd.underlying35 sz9 (by decide) rfl rfl rfl) ?_
    refine hl1 (v := .string _) rfl Tryd.underlying9 rfl rfl (hB.cell hbb (hbr 0 _ rfl)) ?_
    refine hl rfl (fun _ => r_neqS rfl rfl) ?_
    refine hl rfl (fun _ => r_mv (v := .bool _) rfl) ?_
    refine h_casesd 27 rfl (fun g27 => ?_) (fun g27 => ?_)
    ·
     refine hsk 27 rfl rfl rfl ?_
     refine hsk 27 rfl rfl rfl ?_
     refine hsk 27 rfl rfl rfl ?_
     refine hsk 27 rfl rfl rfl ?_
     refine hsk 27 rfl rfl rfl ?_
     refine hsk 27 rfl rfl rfl ?_
     refine hsk 27 rfl rfl rfl ?_
     refine hsk 27 rfl rfl rfl ?_
     refine hsk 27 rfl rfl rfl ?_
     refine hsk 27 rfl rfl rfl ?_
     refine hsk 27 rfl rfl rfl ?_
     refine hsk 27 rfl rfl rfl ?_
     refine hl rfl (fun _ => r_pt (v := .bool _) rfl rfl) ?_
     refine h_end ?_
     refine e_R ⟨(by repeat (first | exact ag_refl | exact ag_ovr' | refine ag_upd rfl ?_ | refine ag_sub rfl ?_ | refine ag_kn (by assumption) ?_)), ?_, hs0⟩
     show Value.bool _ = Value.bool _
     exact congrArg Value.bool (by simp [g27])
    ·
     refine hg 27 rfl rfl rfl (fun _ _ => r_mv (v := .slice _ _ _) rfl) ?_
     refine hg 27 rfl rfl rfl (fun _ _ => r_mv (v := .int _ _) rfl) ?_
     refine hg 27 rfl rfl rfl (fun _ _ => r_ia (i := k) Tryd.underlying22 sz35 rfl rfl (by omega) rfl) ?_
     refine hg 27 rfl rfl rfl (fun _ _ => r_fa Tryd.underlying35 sz33 (by decide) rfl rfl rfl) ?_
     refine hg1 (v := .slice _ _ _) 27 rfl rfl rfl Tryd.underlying33 rfl rfl (hB.cell hab (har 1 _ rfl)) ?_
     refine hg 27 rfl rfl rfl (fun _ _ => r_mv (v := .slice _ _ _) rfl) ?_
     refine hg 27 rfl rfl rfl (fun _ _ => r_mv (v := .int _ _) rfl) ?_
     refine hg 27 rfl rfl rfl (fun _ _ => r_ia (i := k) Tryd.underlying22 sz35 rfl rfl (by omega) rfl) ?_
     refine hg 27 rfl rfl rfl (fun _ _ => r_fa Tryd.underlying35 sz33 (by decide) rfl rfl rfl) ?_
     refine hg1 (v := .slice _ _ _) 27 rfl rfl rfl Tryd.underlying33 rfl rfl (hB.cell hbb (hbr 1 _ rfl)) ?_
     refine h1 rfl ?_
     refine wl_gd 27 rfl rfl ?_
     refine wl_cl fn30 (ieq_any _ _ _ _ _ _ w3 (haln.mono hB) (hbln.mono hB)) rfl (fun e' w4 hr => ?_)
     obtain ⟨rfl, hs⟩ := hr
     replace hs := Same.of_bel hs
     have hsH22 := hs
     replace hB := hB.tr0 hs
     replace hs0 := hs0.trans hs
     clear hs
     refine ⟨_, rfl, ?_⟩
     refine x_nil ?_
     refine e_H0 hsH22 ?_
     refine hg 27 rfl rfl rfl (fun _ _ => r_notd rfl) ?_
     refine hl rfl (fun _ => r_pf (v := .bool _) rfl rfl) ?_
     refine h_end ?_
     refine e_R ⟨(by repeat (first | exact ag_refl | exact ag_ovr' | refine ag_upd rfl ?_ | refine ag_sub rfl ?_ | refine ag_kn (by assumption) ?_)), ?_, hs0⟩
     show Value.bool _ = Value.bool _
     exact congrArg Value.bool (by simp [g27])
   obtain ⟨h40, hs⟩ := hI
   replace hB := hB.tr0 hs
   clear hs
   refine e_know 40 (.bool (decide ((xs[k]'hlt).name ≠ (ys[k]'hly).name) || !decide ((xs[k]'hlt).par = (ys[k]'hly).par))) h40 (by simp [undef]) ?_
   refine e_S ?_
   refine c_if rfl (fun c40 => ?_) (fun c40 => ?_)
   ·
    refine c_seq ?_
    refine c_region ?_
    refine wl (r_as (v := .bool _) rfl) ?_
    refine x_nil ?_
    refine e_S ?_
    refine c_ret ?_
    refine e_Br ?_
    refine e_Sr ?_
    refine e_LSr ?_
    refine e_Br ?_
    refine e_Sr ?_
    refine fin1 (.inl rfl) rfl rfl ?_
    exact ⟨⟨false, rfl, ⟨fun h => Bool.noConfusion h, fun h => by
      subst h
      simp at c40⟩⟩, hB⟩
   ·
    have hx : xs[k]'hlt = ys[k]'hly := by
      simp only [Bool.or_eq_false_iff, decide_eq_false_iff_not, Bool.not_eq_false', decide_eq_true_eq] at c40
      exact ty_ext (Decidable.not_not.1 c40.1) c40.2
    refine c_skip ?_
    refine e_B ?_
    refine e_S ?_
    refine c_region ?_
    refine wl (r_add rfl rfl rfl (by omega)) ?_
    refine wl (r_mv (v := .int _ _) rfl) ?_
    refine x_nil ?_
    refine e_LS (xs.length - (k + 1)) (by omega) (by repeat (first | exact ag_refl | exact ag_ovr' | refine ag_upd rfl ?_ | refine ag_sub rfl ?_ | refine ag_kn (by assumption) ?_)) ?_
    exact ⟨k + 1, by omega, rfl, rfl, hB, by rw [List.take_succ_eq_append_getElem hlt, List.take_succ_eq_append_getElem hly, hE, hx]⟩
  ·
   have hek : k = xs.length := by omega
   have hfin : xs = ys := by
     rw [hek] at hE
     have e2 : ys.take xs.length = ys := List.take_of_length_le (by omega)
     rw [List.take_length, e2] at hE; exact hE
   refine c_exit ?_
   refine e_Sx ?_
   refine e_LSx ?_
   refine e_Bx ?_
   refine e_S ?_
   refine c_seq ?_
   refine c_region ?_
   refine wl (r_as (v := .bool _) rfl) ?_
   refine x_nil ?_
   refine e_S ?_
   refine c_ret ?_
   refine fin1 (.inl rfl) rfl rfl ?_
   exact ⟨⟨true, rfl, ⟨fun _ => hfin, fun _ => rfl⟩⟩, hB⟩
end Go.Proofs.YtahdbbgkgokkhaaDoor
