/- What these functions of the program compute, at every world: cmp.isNaN[int], cmp.Compare[int], glosswright/graph.Target$1, slices.BinarySearchFunc[[]glosswright/api.Link,glosswright/api.Link,int]. -/
import Derived.Test.YteoncmfiiknfbaaDoorPath
namespace Go.Proofs.YteoncmfiiknfbaaDoor
open Go.RowKit

theorem r_cvU {P : Program} {n : Nat} {f : Fr} {w : World} {dst : Option Tmp} {gd : Option (Nat × Bool)} {ty : TypeId} {pos : String} {af : Array Edge} {x : Operand} {k' : IntKind} {a : Int} {t t' : TypeId} {dd : TypeDesc} (hs : P.underlying t = some dd) (hd : P.underlying t' = some (.int .u64)) (hx : ev n f x = .int k' a) (ha : 0 ≤ a ∧ a ≤ 18446744073709551615) :
    RV P n f w ⟨dst, .convert t t' x, ty, pos, af, gd⟩ (.int .u64 a) w := by
  have := IntWalk.u64_in a ha
  simp [RV, execOp, hx, convert, run_underlying hs, run_underlying hd, Conv.intToInt, this]
def cmpI (a b : Int) : Int := if a < b then -1 else if b < a then 1 else 0
theorem cmpI_lt {a b : Int} : cmpI a b < 0 ↔ a < b := by unfold cmpI; split <;> (try split) <;> omega
theorem cmpI_eq {a b : Int} : cmpI a b = 0 ↔ a = b := by unfold cmpI; split <;> (try split) <;> omega

theorem fn60 : callable Tryd.prog 60 = true := by kernel_rfl
theorem fn67 : callable Tryd.prog 67 = true := by kernel_rfl
theorem fn70 : callable Tryd.prog 70 = true := by kernel_rfl
theorem sz3_GSearch : (Tryd.prog.info? 3).map (·.size) = some 1 := by kernel_rfl
theorem sz74_GSearch : (Tryd.prog.info? 74).map (·.size) = some 2 := by kernel_rfl
theorem nan_any (a : Int) (w : World) : Calls Tryd.prog 70 #[.int .i64 a] w fun e w' => e = .returned (.bool false) ∧ Bel w w' := by
 refine enter Tryd.func70 Tryd.ntmps70 rfl (Nat.le_of_ble_eq_true rfl) ?_
 have hB : Bel w w := Below.refl _ _
 refine c_seq ?_
 refine c_region ?_
 refine wl (r_as (v := .bool _) rfl) ?_
 refine x_nil ?_
 refine e_S ?_
 refine c_seq ?_
 refine c_region ?_
 refine wl (r_mv (v := .int _ _) rfl) ?_
 refine wl (r_mv (v := .int _ _) rfl) ?_
 refine wl (r_neq rfl rfl) ?_
 refine wl (r_as (v := .bool _) rfl) ?_
 refine x_nil ?_
 refine e_S ?_
 refine c_ret ?_
 refine fin1 (.inl rfl) rfl rfl ?_
 exact ⟨ret_bool (decide_eq_false (fun h => h rfl)).symm, hB⟩

theorem compare_any (a b : Int) (w : World) : Calls Tryd.prog 60 #[.int .i64 a, .int .i64 b] w fun e w' => e = .returned (.int .i64 (cmpI a b)) ∧ Bel w w' := by
 refine enter Tryd.func60 Tryd.ntmps60 rfl (Nat.le_of_ble_eq_true rfl) ?_
 have hB : Bel w w := Below.refl _ _
 refine c_seq ?_
 refine c_region ?_
 refine wl (r_as (v := .int _ _) rfl) ?_
 refine x_nil ?_
 refine e_S ?_
 refine c_seq ?_
 refine c_region ?_
 refine wl (r_mv (v := .int _ _) rfl) ?_
 refine wl_cl fn70 (nan_any _ _) rfl (fun e' w1 hr => ?_)
 obtain ⟨rfl, hs⟩ := hr
 replace hs := Same.of_bel hs
 replace hB := hB.tr0 hs
 clear hs
 refine ⟨_, rfl, ?_⟩
 refine wl (r_as (v := .bool _) rfl) ?_
 refine x_nil ?_
 refine e_S ?_
 refine c_seq ?_
 refine c_region ?_
 refine wl (r_mv (v := .int _ _) rfl) ?_
 refine wl_cl fn70 (nan_any _ _) rfl (fun e' w2 hr => ?_)
 obtain ⟨rfl, hs⟩ := hr
 replace hs := Same.of_bel hs
 replace hB := hB.tr0 hs
 clear hs
 refine ⟨_, rfl, ?_⟩
 refine wl (r_as (v := .bool _) rfl) ?_
 refine x_nil ?_
 refine e_S ?_
 refine c_seq ?_
 refine c_seq ?_
 refine c_region ?_
 refine wl (r_mv (v := .bool _) rfl) ?_
 refine x_nil ?_
 refine e_S ?_
 refine c_if rfl (fun c11 => ?_) (fun c11 => ?_)
 ·
  exact absurd c11 (by decide)
 ·
  refine c_skip ?_
  refine e_S ?_
  refine c_seq ?_
  refine c_seq ?_
  refine c_region ?_
  refine wl (r_mv (v := .bool _) rfl) ?_
  refine x_nil ?_
  refine e_S ?_
  refine c_if rfl (fun c13 => ?_) (fun c13 => ?_)
  ·
   exact absurd c13 (by decide)
  ·
   refine c_skip ?_
   refine e_S ?_
   refine c_seq ?_
   refine c_seq ?_
   refine c_region ?_
   refine wl (r_mv (v := .int _ _) rfl) ?_
   refine wl (r_mv (v := .int _ _) rfl) ?_
   refine wl (r_lss rfl rfl) ?_
   refine x_nil ?_
   refine e_S ?_
   refine c_ifd rfl (fun c16 => ?_) (fun c16 => ?_)
   ·
    refine c_seq ?_
    refine c_region ?_
    refine wl (r_as (v := .int _ _) rfl) ?_
    refine x_nil ?_
    refine e_S ?_
    refine c_ret ?_
    refine e_Sr ?_
    refine fin1 (.inl rfl) rfl rfl ?_
    exact ⟨ret_int (by unfold cmpI; rw [if_pos c16]), hB⟩
   ·
    refine c_skip ?_
    refine e_S ?_
    refine c_seq ?_
    refine c_seq ?_
    refine c_region ?_
    refine wl (r_mv (v := .int _ _) rfl) ?_
    refine wl (r_mv (v := .int _ _) rfl) ?_
    refine wl (r_gtr rfl rfl) ?_
    refine x_nil ?_
    refine e_S ?_
    refine c_ifd rfl (fun c19 => ?_) (fun c19 => ?_)
    ·
     refine c_seq ?_
     refine c_region ?_
     refine wl (r_as (v := .int _ _) rfl) ?_
     refine x_nil ?_
     refine e_S ?_
     refine c_ret ?_
     refine e_Sr ?_
     refine fin1 (.inl rfl) rfl rfl ?_
     exact ⟨ret_int (by unfold cmpI; rw [if_neg c16]; exact if_pos c19), hB⟩
    ·
     refine c_skip ?_
     refine e_S ?_
     refine c_seq ?_
     refine c_region ?_
     refine wl (r_as (v := .int _ _) rfl) ?_
     refine x_nil ?_
     refine e_S ?_
     refine c_ret ?_
     refine fin1 (.inl rfl) rfl rfl ?_
     exact ⟨ret_int (by unfold cmpI; rw [if_neg c16]; exact if_neg c19), hB⟩

theorem tcl_any (a b f : Int) (w : World) : Calls Tryd.prog 67 #[.agg #[.int .i64 a, .int .i64 b], .int .i64 f] w fun e w' => e = .returned (.int .i64 (cmpI a f)) ∧ Bel w w' := by
 refine enter Tryd.func67 Tryd.ntmps67 rfl (Nat.le_of_ble_eq_true rfl) ?_
 have hB : Bel w w := Below.refl _ _
 refine c_seq ?_
 refine c_region ?_
 refine wl_bx (v := .agg #[_, _]) (cs := #[_, _]) rfl rfl (fun b2 w1 hb2 hs hr => ?_)
 have lo2 := Nat.le_trans (Bel.size hB) hr
 replace hB := hB.tr0 hs
 clear hs
 clear hr
 refine wl (r_as (v := .int _ _) rfl) ?_
 refine x_nil ?_
 refine e_S ?_
 refine c_seq ?_
 refine c_region ?_
 refine wl (r_fa Tryd.underlying74 sz3_GSearch (by decide) rfl rfl rfl) ?_
 refine wl (r_ld1 (v := .int _ _) Tryd.underlying3 rfl rfl (hb2.cell rfl)) ?_
 refine wl (r_mv (v := .int _ _) rfl) ?_
 refine wl_cl fn60 (compare_any _ _ _) rfl (fun e' w2 hr => ?_)
 obtain ⟨rfl, hs⟩ := hr
 replace hs := Same.of_bel hs
 replace hB := hB.tr0 hs
 replace hb2 := hb2.tr0 hs
 clear hs
 refine ⟨_, rfl, ?_⟩
 refine wl (r_as (v := .int _ _) rfl) ?_
 refine x_nil ?_
 refine e_S ?_
 refine c_ret ?_
 refine fin1 (.inl rfl) rfl rfl ?_
 exact ⟨rfl, hB⟩

theorem bsf_any (A : Option Addr) (c : Nat) (xs : List (Int × Int)) (f : Int) (w : World) (hX : LinksIn w A xs) (hl : xs.length ≤ 1000) (hmono : ∀ i j (hi : i < xs.length) (hj : j < xs.length), i ≤ j → (xs[i]).1 ≤ (xs[j]).1) : Calls Tryd.prog 66 #[.slice A xs.length c, .int .i64 f, .func (.func 67) #[] #[]] w fun e w' => (∃ (i : Nat) (b : Bool), i ≤ xs.length ∧ e = .returned (.tuple #[.int .i64 i, .bool b]) ∧ (∀ j (hj : j < xs.length), j < i → (xs[j]).1 < f) ∧ (∀ j (hj : j < xs.length), i ≤ j → f ≤ (xs[j]).1) ∧ (b = true ↔ ∃ h : i < xs.length, (xs[i]).1 = f)) ∧ Bel w w' := by
 refine enter Tryd.func66 Tryd.ntmps66 rfl (Nat.le_of_ble_eq_true rfl) ?_
 have hB : Bel w w := Below.refl _ _
 refine c_seq ?_
 refine c_region ?_
 refine wl (r_as (v := .int _ _) rfl) ?_
 refine wl (r_as (v := .bool _) rfl) ?_
 refine x_nil ?_
 refine e_S ?_
 refine c_seq ?_
 refine c_region ?_
 refine wl (r_mv (v := .slice _ _ _) rfl) ?_
 refine wl (r_len Tryd.underlying53 rfl) ?_
 refine wl (r_as (v := .int _ _) rfl) ?_
 refine x_nil ?_
 refine e_S ?_
 refine c_seq ?_
 refine c_region ?_
 refine wl (r_mv (v := .int _ _) rfl) ?_
 refine wl (r_as (v := .int _ _) rfl) ?_
 refine wl (r_as (v := .int _ _) rfl) ?_
 refine x_nil ?_
 refine e_S ?_
 refine c_seq ?_
 refine c_block ?_
 refine c_loopS [9, 10, 11, 15, 16, 17, 18, 19, 20, 21, 22, 23, 24, 25, 26, 27, 28, 29, 30, 31, 32, 33, 34] (fun m g w' => ∃ i j : Nat, i ≤ j ∧ j ≤ xs.length ∧ m = j - i ∧ g 9 = .int .i64 i ∧ g 10 = .int .i64 j ∧ Bel w w' ∧ (∀ x (hx : x < xs.length), x < i → (xs[x]).1 < f) ∧ (∀ x (hx : x < xs.length), j ≤ x → f ≤ (xs[x]).1)) (xs.length) ?_ (fun m g3 w1 hI => ?_)
 ·
  exact ⟨0, xs.length, Nat.zero_le _, Nat.le_refl _, rfl, rfl, rfl, hB, fun x _ h => by omega, fun x h1 h2 => by omega⟩
 obtain ⟨i, j, hij, hj, hm, h9, h10, hB, hlo, hhi⟩ := hI
 refine c_know 9 (.int .i64 i) h9 (by simp [undef]) ?_
 refine c_know 10 (.int .i64 j) h10 (by simp [undef]) ?_
 refine c_seq ?_
 refine c_seq ?_
 refine c_region ?_
 refine wl (r_mv (v := .int _ _) rfl) ?_
 refine wl (r_mv (v := .int _ _) rfl) ?_
 refine wl (r_lss rfl rfl) ?_
 refine x_nil ?_
 refine e_S ?_
 refine c_ifd rfl (fun c17 => ?_) (fun c17 => ?_)
 ·
  obtain ⟨h, hh⟩ : ∃ h, h = (i + j) / 2 := ⟨_, rfl⟩
  have hhl : h < xs.length := by omega
  obtain ⟨lb, lof, rfl, hlb, hlr⟩ := hX.at_ hB hhl
  refine c_skip ?_
  refine e_S ?_
  refine c_block ?_
  refine c_seq ?_
  refine c_region ?_
  refine wl (r_mv (v := .int _ _) rfl) ?_
  refine wl (r_mv (v := .int _ _) rfl) ?_
  refine wl (r_add (c := ((i + j : Nat) : Int)) rfl rfl (by omega) (by omega)) ?_
  refine wl (r_cvU Tryd.underlying3 Tryd.underlying119 rfl (by omega)) ?_
  refine wl (r_shr (b := 1) (c := h) rfl rfl (by omega) (by rw [hh, Nat.shiftRight_eq_div_pow])) ?_
  refine wl (r_cvI Tryd.underlying119 Tryd.underlying3 rfl (by omega)) ?_
  refine wl (r_as (v := .int _ _) rfl) ?_
  refine x_nil ?_
  refine e_S ?_
  refine c_seq ?_
  refine c_region ?_
  refine wl (r_mv (v := .func _ _ _) rfl) ?_
  refine wl (r_mv (v := .slice _ _ _) rfl) ?_
  refine wl (r_mv (v := .int _ _) rfl) ?_
  refine wl (r_ia (i := h) Tryd.underlying53 sz74_GSearch rfl rfl (by omega) rfl) ?_
  refine wl (r_ldS Tryd.underlying74 rfl rfl hlr sz74_GSearch) ?_
  refine wl (r_mv (v := .int _ _) rfl) ?_
  refine wl_clv rfl fn67 (tcl_any _ _ f _) rfl rfl (fun e' w2 hr => ?_)
  obtain ⟨rfl, hs⟩ := hr
  replace hB := hB.tr0 (Same.of_bel hs)
  refine ⟨_, rfl, ?_⟩
  refine wl (r_lss rfl rfl) ?_
  refine x_nil ?_
  refine e_S ?_
  refine c_ifd rfl (fun c31 => ?_) (fun c31 => ?_)
  ·
   have hlt := cmpI_lt.1 c31
   obtain ⟨i2, hi2⟩ : ∃ i2, i2 = h + 1 := ⟨_, rfl⟩
   obtain ⟨j2, hj2⟩ : ∃ j2, j2 = j := ⟨_, rfl⟩
   have hlo2 : ∀ x (hx : x < xs.length), x < i2 → (xs[x]).1 < f := fun x hx hxi => by
     by_cases e : x = h
     · subst e; exact hlt
     · have hsx : (xs[x]).1 ≤ (xs[h]).1 := hmono x h hx hhl (by omega)
       omega
   have hhi2 : ∀ x (hx : x < xs.length), j2 ≤ x → f ≤ (xs[x]).1 := fun x hx hxj => hhi x hx (by omega)
   refine c_region ?_
   refine wl (r_mv (v := .int _ _) rfl) ?_
   refine wl (r_add rfl rfl rfl (by omega)) ?_
   refine wl (r_as (v := .int _ _) rfl) ?_
   refine x_nil ?_
   refine e_B ?_
   refine e_LS (j2 - i2) (by omega) (by repeat (first | exact ag_refl | exact ag_ovr' | refine ag_upd rfl ?_ | refine ag_sub rfl ?_ | refine ag_kn (by assumption) ?_)) ?_
   exact ⟨i2, j2, by omega, by omega, rfl, by subst hi2; rfl, by subst hj2; rfl, hB, hlo2, hhi2⟩
  ·
   have hge : ¬ (xs[h]).1 < f := fun h => c31 (cmpI_lt.2 h)
   obtain ⟨i2, hi2⟩ : ∃ i2, i2 = i := ⟨_, rfl⟩
   obtain ⟨j2, hj2⟩ : ∃ j2, j2 = h := ⟨_, rfl⟩
   have hlo2 : ∀ x (hx : x < xs.length), x < i2 → (xs[x]).1 < f := fun x hx hxi => hlo x hx (by omega)
   have hhi2 : ∀ x (hx : x < xs.length), j2 ≤ x → f ≤ (xs[x]).1 := fun x hx hxj => by
     have hsx : (xs[h]).1 ≤ (xs[x]).1 := hmono h x hhl hx (by omega)
     omega
   refine c_region ?_
   refine wl (r_mv (v := .int _ _) rfl) ?_
   refine wl (r_as (v := .int _ _) rfl) ?_
   refine x_nil ?_
   refine e_B ?_
   refine e_LS (j2 - i2) (by omega) (by repeat (first | exact ag_refl | exact ag_ovr' | refine ag_upd rfl ?_ | refine ag_sub rfl ?_ | refine ag_kn (by assumption) ?_)) ?_
   exact ⟨i2, j2, by omega, by omega, rfl, by subst hi2; rfl, by subst hj2; rfl, hB, hlo2, hhi2⟩
 ·
  have hije : i = j := by omega
  subst hije
  refine c_exit ?_
  refine e_Sx ?_
  refine e_LSx ?_
  refine e_Bx ?_
  refine e_S ?_
  refine c_seq ?_
  refine c_region ?_
  refine wl (r_mv (v := .int _ _) rfl) ?_
  refine wl (r_mv (v := .int _ _) rfl) ?_
  refine wl (r_mv (v := .int _ _) rfl) ?_
  refine wl (r_lss rfl rfl) ?_
  refine wl (r_mv (v := .bool _) rfl) ?_
  refine wl_casesd 39 rfl (fun g39 => ?_) (fun g39 => ?_)
  ·
   refine wl_gd 39 rfl rfl ?_
   refine wl (r_mv (v := .func _ _ _) rfl) ?_
   refine wl_gd 39 rfl rfl ?_
   refine wl (r_mv (v := .slice _ _ _) rfl) ?_
   refine wl_gd 39 rfl rfl ?_
   refine wl (r_mv (v := .int _ _) rfl) ?_
   have hiN : i < xs.length := by omega
   obtain ⟨lb, lof, rfl, hlb, hlr⟩ := hX.at_ hB hiN
   refine wl_gd 39 rfl rfl ?_
   refine wl (r_ia (i := i) Tryd.underlying53 sz74_GSearch rfl rfl (by omega) rfl) ?_
   refine wl_gd 39 rfl rfl ?_
   refine wl (r_ldS Tryd.underlying74 rfl rfl hlr sz74_GSearch) ?_
   refine wl_gd 39 rfl rfl ?_
   refine wl (r_mv (v := .int _ _) rfl) ?_
   refine wl_gd 39 rfl rfl ?_
   refine wl_clv rfl fn67 (tcl_any _ _ f _) rfl rfl (fun e' w3 hr => ?_)
   obtain ⟨rfl, hs⟩ := hr
   replace hB := hB.tr0 (Same.of_bel hs)
   refine ⟨_, rfl, ?_⟩
   refine wl_gd 39 rfl rfl ?_
   refine wl (r_eql rfl rfl) ?_
   refine wl (r_pt (v := .bool _) rfl rfl) ?_
   refine wl (r_as (v := .int _ _) rfl) ?_
   refine wl (r_as (v := .bool _) rfl) ?_
   refine x_nil ?_
   refine e_S ?_
   refine c_ret ?_
   refine fin2 (.inl rfl) rfl rfl rfl ?_
   first
     | exact ⟨⟨i, false, by omega, rfl, hlo, hhi, ⟨fun h => (Bool.noConfusion h), fun hh => absurd hh.1 (by omega)⟩⟩, hB⟩
     | exact ⟨⟨i, decide (cmpI (xs[i]'hiN).1 f = 0), by omega, rfl, hlo, hhi, by rw [decide_eq_true_iff, cmpI_eq]; exact ⟨fun h => ⟨hiN, h⟩, fun ⟨_, h⟩ => h⟩⟩, hB⟩
  ·
   refine wlgn 39 rfl rfl rfl ?_
   refine wlgn 39 rfl rfl rfl ?_
   refine wlgn 39 rfl rfl rfl ?_
   refine wlgn 39 rfl rfl rfl ?_
   refine wlgn 39 rfl rfl rfl ?_
   refine wlgn 39 rfl rfl rfl ?_
   refine wlgn 39 rfl rfl rfl ?_
   refine wlgn 39 rfl rfl rfl ?_
   refine wl (r_pf (v := .bool _) rfl rfl) ?_
   refine wl (r_as (v := .int _ _) rfl) ?_
   refine wl (r_as (v := .bool _) rfl) ?_
   refine x_nil ?_
   refine e_S ?_
   refine c_ret ?_
   refine fin2 (.inl rfl) rfl rfl rfl ?_
   first
     | exact ⟨⟨i, false, by omega, rfl, hlo, hhi, ⟨fun h => (Bool.noConfusion h), fun hh => absurd hh.1 (by omega)⟩⟩, hB⟩
     | exact ⟨⟨i, decide (cmpI (xs[i]'hiN).1 f = 0), by omega, rfl, hlo, hhi, by rw [decide_eq_true_iff, cmpI_eq]; exact ⟨fun h => ⟨hiN, h⟩, fun ⟨_, h⟩ => h⟩⟩, hB⟩
end Go.Proofs.YteoncmfiiknfbaaDoor
