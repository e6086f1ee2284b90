/- What these functions of the program compute, at every world: glosswright/glosswrightlaw3.unmet, glosswright/glosswrightlaw3.HierarchyCompleteMatchesSpec. -/
import Derived.Test.YtahdbbgkgokkhaaDoorCCo
import Derived.Test.YtahdbbgkgokkhaaDoorCRc
import Derived.Test.YtahdbbgkgokkhaaDoorCeq
import Derived.Test.YtahdbbgkgokkhaaDoorHEq
namespace Go.Proofs.YtahdbbgkgokkhaaDoor
open Go.RowKit

/-- the cells of a row of types, laid at once -/
inductive TyVs (w : World) : List Ty → List Value → Prop
  | nil : TyVs w [] []
  | cons {t : Ty} {l : List Ty} {vs : List Value} {A : Option Addr} {c : Nat} (h : IntsIn w A t.par) (r : TyVs w l vs) : TyVs w (t :: l) (.string t.name :: .slice A t.par.length c :: vs)
theorem TyVs.get {w : World} {l : List Ty} {vs : List Value} (h : TyVs w l vs) : ∀ k (hk : k < l.length), ∃ A c, vs[k * 2]? = some (.string (l[k]).name) ∧ vs[k * 2 + 1]? = some (.slice A (l[k]).par.length c) ∧ IntsIn w A (l[k]).par := by
  induction h with
  | nil => intro k hk; simp at hk
  | cons h r ih =>
    intro k hk
    match k, hk with
    | 0, _ => exact ⟨_, _, rfl, rfl, h⟩
    | k + 1, hk =>
      obtain ⟨A, c, h1, h2, h3⟩ := ih k (by simpa using hk)
      refine ⟨A, c, ?_, ?_, h3⟩
      · rw [show (k + 1) * 2 = k * 2 + 1 + 1 from by omega]; simpa using h1
      · rw [show (k + 1) * 2 + 1 = k * 2 + 1 + 1 + 1 from by omega]; simpa using h2
theorem types_of_blk {w : World} {b t : Nat} {l : List Ty} {vs : List Value} (h : Blk w b t vs.toArray) (hv : TyVs w l vs) (hl : l.length ≤ maxI) : TypesIn w (some ⟨b, 0, none⟩) l :=
  ⟨hl, fun _ => ⟨b, 0, rfl, h.lt, fun k hk => by
    obtain ⟨A, c, h1, h2, h3⟩ := hv.get k hk
    refine ⟨A, c, h.range (fun j v hj => ?_), h3⟩
    match j, hj with
    | 0, hj => cases hj; simpa using h1
    | 1, hj => cases hj; simpa using h2
    | _ + 2, hj => cases hj⟩⟩
theorem ints_nil (w : World) (A : Option Addr) : IntsIn w A [] := ⟨Nat.zero_le _, fun h => absurd rfl h⟩
theorem ints_of_blk {w : World} {b t : Nat} (xs : List Int) (h : Blk w b t (xs.map (Value.int .i64)).toArray) (hl : xs.length ≤ maxI) : IntsIn w (some ⟨b, 0, none⟩) xs :=
  ⟨hl, fun _ => ⟨b, 0, rfl, h.lt, fun k hk => h.cell (by simp [hk])⟩⟩
def unmetT : List Ty := [⟨⟨#[116, 111, 112]⟩, []⟩, ⟨⟨#[97]⟩, [0]⟩, ⟨⟨#[98]⟩, [0]⟩, ⟨⟨#[99]⟩, [1, 2]⟩, ⟨⟨#[100]⟩, [1, 2]⟩]

instance : DecidableEq Ty := fun a b => decidable_of_iff (a.name = b.name ∧ a.par = b.par) (by cases a; cases b; simp)
theorem glb_one : glb 1 = ⟨#[103, 108, 98, 45, 49]⟩ := by
  unfold glb
  rw [Lib.decDigits_one (by decide)]
  decide +kernel
def wantT : List Ty := [⟨⟨#[116, 111, 112]⟩, []⟩, ⟨⟨#[97]⟩, [0]⟩, ⟨⟨#[98]⟩, [0]⟩, ⟨⟨#[103, 108, 98, 45, 49]⟩, [1, 2]⟩, ⟨⟨#[99]⟩, [3]⟩, ⟨⟨#[100]⟩, [3]⟩]
theorem unm_ok : (typesFault unmetT).1 = 0 := by decide +kernel
theorem unm_comp : compS unmetT = some (base unmetT ++ [24]) := by decide +kernel
theorem unm_out : outL unmetT [24] = [(31, ⟨#[116, 111, 112]⟩), (26, ⟨#[97]⟩), (28, ⟨#[98]⟩), (24, glb 1), (8, ⟨#[99]⟩), (16, ⟨#[100]⟩)] := by
  have h1 : usedB unmetT 1 = false := by
    unfold usedB
    rw [glb_one]
    decide +kernel
  have hn : nxt (usedB unmetT) 0 = 1 := nxt_stop h1
  have ht : tz 24 = 3 := by decide +kernel
  have d0 : downN unmetT 0 = 31 := by decide +kernel
  have d1 : downN unmetT 1 = 26 := by decide +kernel
  have d2 : downN unmetT 2 = 28 := by decide +kernel
  have d3 : downN unmetT 3 = 8 := by decide +kernel
  have d4 : downN unmetT 4 = 16 := by decide +kernel
  unfold outL
  rw [show unmetT.length + [24].length = 5 + 1 from rfl, outG_old (by simp [ht]), outG_old (by simp [ht]), outG_old (by simp [ht]), outG_pop ht, hn, outG_old (by simp), outG_old (by simp), d0, d1, d2, d3, d4]
  rfl
theorem unm_want : outT (outL unmetT [24]) = wantT := by
  rw [unm_out, glb_one]
  decide +kernel
/-- what Complete answers -/
def CompS (l : List Ty) (T : List Ty) (f : Fl) : Prop :=
  ((typesFault l).1 ≠ 0 ∧ f = typesFault l ∧ T = []) ∨ ((typesFault l).1 = 0 ∧ compS l = none ∧ f = (17, -1) ∧ T = []) ∨ ((typesFault l).1 = 0 ∧ ∃ ds D : List Nat, compS l = some (base l ++ ds) ∧ D.Perm ds ∧ D.Pairwise (fun x y => ¬ cmpU y x < 0) ∧ f = (0, 0) ∧ T = outT (outL l D))
theorem outT_len (O : List (Nat × ByteArray)) : (outT O).length = O.length := by simp [outT]
theorem comps_any (A : Option Addr) (c : Nat) (l : List Ty) (w : World) (hT : TypesIn w A l) (hTab : TabIn w) : Calls Tryd.prog 5 #[.slice A l.length c] w fun e w' => (∃ (T : List Ty) (f : Fl) (B : Option Addr) (cp : Nat), e = .returned (.tuple #[.slice B T.length cp, .agg #[.int .i64 (Prod.fst f), .int .i64 f.2]]) ∧ TypesIn w' B T ∧ CompS l T f) ∧ Bel w w' := by
  refine (complete_any A c l w hT hTab).mono fun e w' h => ⟨?_, h.2⟩
  rcases h.1 with ⟨h1, h2⟩ | ⟨h1, h2, h3⟩ | ⟨h1, ds, D, B, cp, h2, h3, h4, h5, h6⟩
  · exact ⟨[], typesFault l, none, 0, h2, ⟨Nat.zero_le _, fun h => absurd rfl h⟩, .inl ⟨h1, rfl, rfl⟩⟩
  · exact ⟨[], (17, -1), none, 0, h3, ⟨Nat.zero_le _, fun h => absurd rfl h⟩, .inr (.inl ⟨h1, h2, rfl, rfl⟩)⟩
  · exact ⟨outT (outL l D), (0, 0), B, cp, by rw [outT_len]; exact h5, h6, .inr (.inr ⟨h1, ds, D, h2, h3, h4, rfl, rfl⟩)⟩
theorem unm_any {w : World} {A : Option Addr} {c : Nat} (hT : TypesIn w A unmetT) (hTab : TabIn w) : Calls Tryd.prog 5 #[.slice A 5 c] w fun e w' => (∃ (B : Option Addr) (cp : Nat), e = .returned (.tuple #[.slice B 6 cp, .agg #[.int .i64 0, .int .i64 0]]) ∧ TypesIn w' B wantT) ∧ Bel w w' := by
  refine (comps_any A c unmetT w hT hTab).mono fun e w' h => ⟨?_, h.2⟩
  obtain ⟨T, f, B, cp, rfl, hT2, hS⟩ := h.1
  rcases hS with ⟨h1, _⟩ | ⟨_, h1, _⟩ | ⟨_, ds, D, h2, h3, _, rfl, rfl⟩
  · exact absurd unm_ok h1
  · rw [unm_comp] at h1; cases h1
  · rw [unm_comp] at h2
    have h5 := List.append_cancel_left (Option.some.inj h2)
    rw [← h5] at h3
    have h4 : D = [24] := List.perm_singleton.1 h3
    subst h4
    rw [unm_want] at hT2 ⊢
    exact ⟨B, cp, rfl, hT2⟩
theorem completedS_any (A : Option Addr) (c : Nat) (l : List Ty) (D : List Nat) (w : World) (hT : TypesIn w A l) (ht : (typesFault l).1 = 0) (hD : ∀ ds, compS l = some (base l ++ ds) → D.Perm ds ∧ D.Pairwise (fun x y => ¬ cmpU y x < 0)) : Calls Tryd.prog 13 #[.slice A l.length c] w fun e w' => (∃ (T : List Ty) (ok : Bool) (B : Option Addr) (cp : Nat), e = .returned (.tuple #[.slice B T.length cp, .bool ok]) ∧ TypesIn w' B T ∧ ((compS l = none ∧ ok = false) ∨ (compS l ≠ none ∧ ok = true ∧ T = outT (outL l D)))) ∧ Bel w w' := by
  have hv := vt_of ht
  have htl := types_len ht
  refine (completed_any A c l D w hT hv (by omega) (by omega) hD).mono fun e w' h => ⟨?_, h.2⟩
  rcases h.1 with ⟨h1, h2⟩ | ⟨ds, B, cp, h1, h2, h3⟩
  · exact ⟨[], false, none, 0, h2, ⟨Nat.zero_le _, fun h => absurd rfl h⟩, .inl ⟨h1, rfl⟩⟩
  · obtain ⟨d1, d2⟩ := hD ds h1
    have hA := addD_of hv (by omega) h1 d1 d2
    rw [hA.out hv (by omega)] at h3
    exact ⟨outT (outL l D), true, B, cp, by rw [outT_len]; exact h2, h3, .inr ⟨(by rw [h1]; intro h; cases h), rfl, rfl⟩⟩
theorem comps_D {l T : List Ty} {f : Fl} (h : CompS l T f) (ht : (typesFault l).1 = 0) : ∃ D : List Nat, (∀ ds, compS l = some (base l ++ ds) → D.Perm ds ∧ D.Pairwise (fun x y => ¬ cmpU y x < 0)) ∧ ((compS l = none ∧ f = (17, -1) ∧ T = []) ∨ (compS l ≠ none ∧ f = (0, 0) ∧ T = outT (outL l D))) := by
  rcases h with ⟨h1, _⟩ | ⟨_, h1, h2, h3⟩ | ⟨_, ds, D, h1, h2, h3, h4, h5⟩
  · exact absurd ht h1
  · exact ⟨[], (fun ds h => by rw [h1] at h; cases h), .inl ⟨h1, h2, h3⟩⟩
  · refine ⟨D, fun ds2 h => ?_, .inr ⟨(by rw [h1]; intro h; cases h), h4, h5⟩⟩
    rw [h1] at h
    rw [← List.append_cancel_left (Option.some.inj h)]
    exact ⟨h2, h3⟩

theorem fd24 : (Tryd.prog.fieldsOf 24).toList.map (fun f => (f.name == "_", f.type, f.offset)) = [(false, 3, 0), (false, 3, 1)] := by kernel_rfl
theorem fn12 : callable Tryd.prog 12 = true := by kernel_rfl
theorem fn13 : callable Tryd.prog 13 = true := by kernel_rfl
theorem fn5 : callable Tryd.prog 5 = true := by kernel_rfl
theorem fn6 : callable Tryd.prog 6 = true := by kernel_rfl
theorem fn7_CLa : callable Tryd.prog 7 = true := by kernel_rfl
theorem ft24 : Tryd.prog.underlying 24 = some (.struct (Tryd.prog.fieldsOf 24)) := by kernel_rfl
theorem unmetT_any (w : World) : Calls Tryd.prog 6 #[] w fun e w' => (∃ A c, e = .returned (.slice A 5 c) ∧ TypesIn w' A unmetT) ∧ Bel w w' := by
 refine enter Tryd.func6 Tryd.ntmps6 rfl (Nat.le_of_ble_eq_true rfl) ?_
 have hB : Bel w w := Below.refl _ _
 refine c_seq ?_
 refine c_region ?_
 refine wl (r_as (v := .slice _ _ _) rfl) ?_
 refine x_nil ?_
 refine e_S ?_
 refine c_seq ?_
 refine c_region ?_
 refine wl (r_bd1 (v0 := .string _) (fun v0 => #[v0, .slice none 0 0]) rfl (by kernel_rfl)) ?_
 refine wl_bs (cs := #[_]) [(0, .int _ _)] rfl Tryd.underlying33 sz3_Tables ze3 (by decide) (by decide) (by kernel_rfl) rfl (fun b2 w1 hb2 hs hr => ?_)
 have lo2 := Nat.le_trans (Bel.size hB) hr
 replace hB := hB.tr0 hs
 clear hs
 clear hr
 refine wl (r_bd2 (v0 := .string _) (v1 := .slice _ _ _) (fun v0 v1 => #[v0, v1]) rfl rfl (by kernel_rfl)) ?_
 refine wl_bs (cs := #[_]) [(0, .int _ _)] rfl Tryd.underlying33 sz3_Tables ze3 (by decide) (by decide) (by kernel_rfl) rfl (fun b4 w2 hb4 hs hr => ?_)
 have or_b2_b4 : b2 < b4 := Nat.lt_of_lt_of_le hb2.lt hr
 have lo4 := Nat.le_trans (Bel.size hB) hr
 replace hB := hB.tr0 hs
 replace hb2 := hb2.tr0 hs
 clear hs
 clear hr
 refine wl (r_bd2 (v0 := .string _) (v1 := .slice _ _ _) (fun v0 v1 => #[v0, v1]) rfl rfl (by kernel_rfl)) ?_
 refine wl_bs (cs := #[_, _]) [(0, .int _ _), (1, .int _ _)] rfl Tryd.underlying33 sz3_Tables ze3 (by decide) (by decide) (by kernel_rfl) rfl (fun b6 w3 hb6 hs hr => ?_)
 have or_b2_b6 : b2 < b6 := Nat.lt_of_lt_of_le hb2.lt hr
 have or_b4_b6 : b4 < b6 := Nat.lt_of_lt_of_le hb4.lt hr
 have lo6 := Nat.le_trans (Bel.size hB) hr
 replace hB := hB.tr0 hs
 replace hb2 := hb2.tr0 hs
 replace hb4 := hb4.tr0 hs
 clear hs
 clear hr
 refine wl (r_bd2 (v0 := .string _) (v1 := .slice _ _ _) (fun v0 v1 => #[v0, v1]) rfl rfl (by kernel_rfl)) ?_
 refine wl_bs (cs := #[_, _]) [(0, .int _ _), (1, .int _ _)] rfl Tryd.underlying33 sz3_Tables ze3 (by decide) (by decide) (by kernel_rfl) rfl (fun b8 w4 hb8 hs hr => ?_)
 have or_b2_b8 : b2 < b8 := Nat.lt_of_lt_of_le hb2.lt hr
 have or_b4_b8 : b4 < b8 := Nat.lt_of_lt_of_le hb4.lt hr
 have or_b6_b8 : b6 < b8 := Nat.lt_of_lt_of_le hb6.lt hr
 have lo8 := Nat.le_trans (Bel.size hB) hr
 replace hB := hB.tr0 hs
 replace hb2 := hb2.tr0 hs
 replace hb4 := hb4.tr0 hs
 replace hb6 := hb6.tr0 hs
 clear hs
 clear hr
 refine wl (r_bd2 (v0 := .string _) (v1 := .slice _ _ _) (fun v0 v1 => #[v0, v1]) rfl rfl (by kernel_rfl)) ?_
 refine wl_bs (cs := #[_, _, _, _, _, _, _, _, _, _]) [(0, .agg _), (1, .agg _), (2, .agg _), (3, .agg _), (4, .agg _)] rfl Tryd.underlying22 sz35_Tables ze35_Tables (by decide) (by decide) (by kernel_rfl) rfl (fun b10 w5 hb10 hs hr => ?_)
 have or_b2_b10 : b2 < b10 := Nat.lt_of_lt_of_le hb2.lt hr
 have or_b4_b10 : b4 < b10 := Nat.lt_of_lt_of_le hb4.lt hr
 have or_b6_b10 : b6 < b10 := Nat.lt_of_lt_of_le hb6.lt hr
 have or_b8_b10 : b8 < b10 := Nat.lt_of_lt_of_le hb8.lt hr
 have lo10 := Nat.le_trans (Bel.size hB) hr
 replace hB := hB.tr0 hs
 replace hb2 := hb2.tr0 hs
 replace hb4 := hb4.tr0 hs
 replace hb6 := hb6.tr0 hs
 replace hb8 := hb8.tr0 hs
 clear hs
 clear hr
 refine wl (r_as (v := .slice _ _ _) rfl) ?_
 refine x_nil ?_
 refine e_S ?_
 refine c_ret ?_
 refine fin1 (.inl rfl) rfl rfl ?_
 exact ⟨⟨_, _, rfl, types_of_blk (l := unmetT) hb10 (.cons (ints_nil _ _) (.cons (ints_of_blk [0] hb2 (by decide)) (.cons (ints_of_blk [0] hb4 (by decide)) (.cons (ints_of_blk [1, 2] hb6 (by decide)) (.cons (ints_of_blk [1, 2] hb8 (by decide)) .nil))))) (by decide)⟩, hB⟩

set_option maxRecDepth 100000 in
set_option maxHeartbeats 4000000 in
theorem law39_any (A : Option Addr) (c : Nat) (l : List Ty) (w : World) (hTab : TabIn w) (hcl : l.length ≤ c) (hT : TypesIn w A l) : Calls Tryd.prog 4 #[.slice A l.length c] w fun e w' => e = .returned (.bool true) ∧ Bel w w' := by
 refine enter Tryd.func4 Tryd.ntmps4 rfl (Nat.le_of_ble_eq_true rfl) ?_
 have hB : Bel w w := Below.refl _ _
 refine c_seq ?_
 refine c_region ?_
 refine wl (r_as (v := .bool _) rfl) ?_
 refine x_nil ?_
 refine e_S ?_
 refine c_seq ?_
 refine c_region ?_
 refine wl (r_bd1 (v0 := .string _) (fun v0 => #[v0, .slice none 0 0]) rfl (by kernel_rfl)) ?_
 refine wl_bs (cs := #[_]) [(0, .int _ _)] rfl Tryd.underlying33 sz3_Tables ze3 (by decide) (by decide) (by kernel_rfl) rfl (fun b12 w1 hb12 hs hr => ?_)
 have lo12 := Nat.le_trans (Bel.size hB) hr
 replace hB := hB.tr0 hs
 clear hs
 clear hr
 refine wl (r_bd2 (v0 := .string _) (v1 := .slice _ _ _) (fun v0 v1 => #[v0, v1]) rfl rfl (by kernel_rfl)) ?_
 refine wl_bs (cs := #[_]) [(0, .int _ _)] rfl Tryd.underlying33 sz3_Tables ze3 (by decide) (by decide) (by kernel_rfl) rfl (fun b14 w2 hb14 hs hr => ?_)
 have or_b12_b14 : b12 < b14 := Nat.lt_of_lt_of_le hb12.lt hr
 have lo14 := Nat.le_trans (Bel.size hB) hr
 replace hB := hB.tr0 hs
 replace hb12 := hb12.tr0 hs
 clear hs
 clear hr
 refine wl (r_bd2 (v0 := .string _) (v1 := .slice _ _ _) (fun v0 v1 => #[v0, v1]) rfl rfl (by kernel_rfl)) ?_
 refine wl_bs (cs := #[_, _]) [(0, .int _ _), (1, .int _ _)] rfl Tryd.underlying33 sz3_Tables ze3 (by decide) (by decide) (by kernel_rfl) rfl (fun b16 w3 hb16 hs hr => ?_)
 have or_b12_b16 : b12 < b16 := Nat.lt_of_lt_of_le hb12.lt hr
 have or_b14_b16 : b14 < b16 := Nat.lt_of_lt_of_le hb14.lt hr
 have lo16 := Nat.le_trans (Bel.size hB) hr
 replace hB := hB.tr0 hs
 replace hb12 := hb12.tr0 hs
 replace hb14 := hb14.tr0 hs
 clear hs
 clear hr
 refine wl (r_bd2 (v0 := .string _) (v1 := .slice _ _ _) (fun v0 v1 => #[v0, v1]) rfl rfl (by kernel_rfl)) ?_
 refine wl_bs (cs := #[_]) [(0, .int _ _)] rfl Tryd.underlying33 sz3_Tables ze3 (by decide) (by decide) (by kernel_rfl) rfl (fun b18 w4 hb18 hs hr => ?_)
 have or_b12_b18 : b12 < b18 := Nat.lt_of_lt_of_le hb12.lt hr
 have or_b14_b18 : b14 < b18 := Nat.lt_of_lt_of_le hb14.lt hr
 have or_b16_b18 : b16 < b18 := Nat.lt_of_lt_of_le hb16.lt hr
 have lo18 := Nat.le_trans (Bel.size hB) hr
 replace hB := hB.tr0 hs
 replace hb12 := hb12.tr0 hs
 replace hb14 := hb14.tr0 hs
 replace hb16 := hb16.tr0 hs
 clear hs
 clear hr
 refine wl (r_bd2 (v0 := .string _) (v1 := .slice _ _ _) (fun v0 v1 => #[v0, v1]) rfl rfl (by kernel_rfl)) ?_
 refine wl_bs (cs := #[_]) [(0, .int _ _)] rfl Tryd.underlying33 sz3_Tables ze3 (by decide) (by decide) (by kernel_rfl) rfl (fun b20 w5 hb20 hs hr => ?_)
 have or_b12_b20 : b12 < b20 := Nat.lt_of_lt_of_le hb12.lt hr
 have or_b14_b20 : b14 < b20 := Nat.lt_of_lt_of_le hb14.lt hr
 have or_b16_b20 : b16 < b20 := Nat.lt_of_lt_of_le hb16.lt hr
 have or_b18_b20 : b18 < b20 := Nat.lt_of_lt_of_le hb18.lt hr
 have lo20 := Nat.le_trans (Bel.size hB) hr
 replace hB := hB.tr0 hs
 replace hb12 := hb12.tr0 hs
 replace hb14 := hb14.tr0 hs
 replace hb16 := hb16.tr0 hs
 replace hb18 := hb18.tr0 hs
 clear hs
 clear hr
 refine wl (r_bd2 (v0 := .string _) (v1 := .slice _ _ _) (fun v0 v1 => #[v0, v1]) rfl rfl (by kernel_rfl)) ?_
 refine wl_bs (cs := #[_, _, _, _, _, _, _, _, _, _, _, _]) [(0, .agg _), (1, .agg _), (2, .agg _), (3, .agg _), (4, .agg _), (5, .agg _)] rfl Tryd.underlying22 sz35_Tables ze35_Tables (by decide) (by decide) (by kernel_rfl) rfl (fun b22 w6 hb22 hs hr => ?_)
 have or_b12_b22 : b12 < b22 := Nat.lt_of_lt_of_le hb12.lt hr
 have or_b14_b22 : b14 < b22 := Nat.lt_of_lt_of_le hb14.lt hr
 have or_b16_b22 : b16 < b22 := Nat.lt_of_lt_of_le hb16.lt hr
 have or_b18_b22 : b18 < b22 := Nat.lt_of_lt_of_le hb18.lt hr
 have or_b20_b22 : b20 < b22 := Nat.lt_of_lt_of_le hb20.lt hr
 have lo22 := Nat.le_trans (Bel.size hB) hr
 replace hB := hB.tr0 hs
 replace hb12 := hb12.tr0 hs
 replace hb14 := hb14.tr0 hs
 replace hb16 := hb16.tr0 hs
 replace hb18 := hb18.tr0 hs
 replace hb20 := hb20.tr0 hs
 clear hs
 clear hr
 refine wl (r_as (v := .slice _ _ _) rfl) ?_
 refine x_nil ?_
 refine e_S ?_
 refine c_seq ?_
 refine c_seq ?_
 have hW6 : TypesIn w6 (some ⟨b22, 0, none⟩) wantT := types_of_blk (l := wantT) hb22 (.cons (ints_nil _ _) (.cons (ints_of_blk [0] hb12 (by decide)) (.cons (ints_of_blk [0] hb14 (by decide)) (.cons (ints_of_blk [1, 2] hb16 (by decide)) (.cons (ints_of_blk [3] hb18 (by decide)) (.cons (ints_of_blk [3] hb20 (by decide)) .nil)))))) (by decide)
 obtain ⟨wU, hwU⟩ : ∃ z, z = w6 := ⟨_, rfl⟩
 have hBU : Bel wU w6 := by rw [hwU]; exact Below.refl _ _
 rw [← hwU] at hW6
 clear hwU
 refine c_region ?_
 refine wl_cl fn6 (unmetT_any _) rfl (fun e' w7 hr => ?_)
 obtain ⟨⟨A24, c24, rfl, hT24⟩, hs⟩ := hr
 replace hs := Same.of_bel hs
 replace hB := hB.tr0 hs
 replace hBU := hBU.tr0 hs
 clear hs
 refine ⟨_, rfl, ?_⟩
 refine wl_cl fn5 (unm_any hT24 (hTab.mono hB)) rfl (fun e' w8 hr => ?_)
 obtain ⟨⟨B25, c25, rfl, hT25⟩, hs⟩ := hr
 replace hs := Same.of_bel hs
 replace hB := hB.tr0 hs
 replace hBU := hBU.tr0 hs
 clear hs
 obtain ⟨wV, hwV⟩ : ∃ z, z = w8 := ⟨_, rfl⟩
 have hBV : Bel wV w8 := by rw [hwV]; exact Below.refl _ _
 rw [← hwV] at hT25
 clear hwV
 refine ⟨_, rfl, ?_⟩
 refine wl (r_mv (v := .tuple _) rfl) ?_
 refine wl (r_ex (v := .slice _ _ _) rfl rfl) ?_
 refine wl (r_ex (v := .agg _) rfl rfl) ?_
 refine wl_al (cs := #[.int .i64 0, .int .i64 0]) ze24 rfl (fun b5 w9 hb5 hs hr => ?_)
 have lo5 := Nat.le_trans (Bel.size hB) hr
 have lo_hBU_b5 := Nat.le_trans (Bel.size hBU) hr
 have lo_hBV_b5 := Nat.le_trans (Bel.size hBV) hr
 replace hB := hB.tr0 hs
 replace hBU := hBU.tr0 hs
 replace hBV := hBV.tr0 hs
 clear hs
 clear hr
 refine wl (r_as (v := .slice _ _ _) rfl) ?_
 refine wl_stW hb5 rfl rfl sz24 rfl (by repeat (first | rfl | refine one_cons (by first | rfl | assumption) ?_)) (fun w10 hq hs => ?_)
 replace hB := hB.tr1 hs lo5
 replace hBU := hBU.tr1 hs lo_hBU_b5
 replace hBV := hBV.tr1 hs lo_hBV_b5
 clear hs
 replace hb5 := hq
 refine x_nil ?_
 refine e_S ?_
 refine c_seq ?_
 refine c_region ?_
 refine wl (r_fa Tryd.underlying24 sz3_Tables (by decide) rfl rfl rfl) ?_
 refine wl (r_ld1 (v := .int _ _) Tryd.underlying3 rfl rfl (hb5.cell rfl)) ?_
 refine wl (r_neq rfl rfl) ?_
 refine wl (r_mv (v := .bool false) (congrArg Value.bool (decide_eq_false (fun h => h rfl)))) ?_
 refine wl_gd 31 rfl rfl ?_
 refine wl (r_mv (v := .slice _ _ _) rfl) ?_
 refine wl_gd 31 rfl rfl ?_
 refine wl (r_mv (v := .slice _ _ _) rfl) ?_
 refine wl_gd 31 rfl rfl ?_
 refine wl_cl fn12 (teq_any _ _ _ _ wantT wantT _ (hT25.mono hBV) (hW6.mono hBU)) rfl (fun e' w11 hr => ?_)
 obtain ⟨⟨bE, rfl, hbE⟩, hs⟩ := hr
 replace hs := Same.of_bel hs
 replace hB := hB.tr0 hs
 replace hBU := hBU.tr0 hs
 replace hBV := hBV.tr0 hs
 replace hb5 := hb5.tr0 hs
 clear hs
 obtain rfl := hbE.2 rfl
 refine ⟨_, rfl, ?_⟩
 refine wl_gd 31 rfl rfl ?_
 refine wl (r_not rfl) ?_
 refine wl (r_pf (v := .bool _) rfl rfl) ?_
 refine x_nil ?_
 refine e_S ?_
 refine c_if rfl (fun c36 => ?_) (fun c36 => ?_)
 ·
  exact absurd c36 (by decide)
 ·
  refine c_skip ?_
  refine e_S ?_
  refine c_seq ?_
  refine c_region ?_
  refine wl (r_mv (v := .slice _ _ _) rfl) ?_
  refine wl_cl fn5 (comps_any A c l _ (hT.mono hB) (hTab.mono hB)) rfl (fun e' w12 hr => ?_)
  obtain ⟨⟨TX, fX, BX, cX, rfl, hTX, hSX⟩, hs⟩ := hr
  replace hs := Same.of_bel hs
  replace hB := hB.tr0 hs
  replace hBU := hBU.tr0 hs
  replace hBV := hBV.tr0 hs
  replace hb5 := hb5.tr0 hs
  clear hs
  obtain ⟨wX, hwX⟩ : ∃ z, z = w12 := ⟨_, rfl⟩
  have hBX : Bel wX w12 := by rw [hwX]; exact Below.refl _ _
  rw [← hwX] at hTX
  clear hwX
  refine ⟨_, rfl, ?_⟩
  refine wl (r_mv (v := .tuple _) rfl) ?_
  refine wl (r_ex (v := .slice _ _ _) rfl rfl) ?_
  refine wl (r_ex (v := .agg _) rfl rfl) ?_
  refine wl_al (cs := #[.int .i64 0, .int .i64 0]) ze24 rfl (fun b7 w13 hb7 hs hr => ?_)
  have or_b5_b7 : b5 < b7 := Nat.lt_of_lt_of_le hb5.lt hr
  have lo7 := Nat.le_trans (Bel.size hB) hr
  have lo_hBU_b7 := Nat.le_trans (Bel.size hBU) hr
  have lo_hBV_b7 := Nat.le_trans (Bel.size hBV) hr
  have lo_hBX_b7 := Nat.le_trans (Bel.size hBX) hr
  replace hB := hB.tr0 hs
  replace hBU := hBU.tr0 hs
  replace hBV := hBV.tr0 hs
  replace hb5 := hb5.tr0 hs
  replace hBX := hBX.tr0 hs
  clear hs
  clear hr
  refine wl (r_as (v := .slice _ _ _) rfl) ?_
  refine wl_stW hb7 rfl rfl sz24 rfl (by repeat (first | rfl | refine one_cons (by first | rfl | assumption) ?_)) (fun w14 hq hs => ?_)
  replace hB := hB.tr1 hs lo7
  replace hBU := hBU.tr1 hs lo_hBU_b7
  replace hBV := hBV.tr1 hs lo_hBV_b7
  replace hb5 := hb5.tr1 hs (by omega)
  replace hBX := hBX.tr1 hs lo_hBX_b7
  clear hs
  replace hb7 := hq
  refine x_nil ?_
  refine e_S ?_
  refine c_seq ?_
  refine c_seq ?_
  refine c_region ?_
  refine wl (r_mv (v := .slice _ _ _) rfl) ?_
  refine wl_cl fn7_CLa (typesFault_any _ _ _ _ hcl (hT.mono hB)) rfl (fun e' w15 hr => ?_)
  obtain ⟨rfl, hs⟩ := hr
  replace hs := Same.of_bel hs
  replace hB := hB.tr0 hs
  replace hBU := hBU.tr0 hs
  replace hBV := hBV.tr0 hs
  replace hb5 := hb5.tr0 hs
  replace hBX := hBX.tr0 hs
  replace hb7 := hb7.tr0 hs
  clear hs
  refine ⟨_, rfl, ?_⟩
  refine wl_al (cs := #[.int .i64 0, .int .i64 0]) ze24 rfl (fun b8 w16 hb8 hs hr => ?_)
  have or_b5_b8 : b5 < b8 := Nat.lt_of_lt_of_le hb5.lt hr
  have or_b7_b8 : b7 < b8 := Nat.lt_of_lt_of_le hb7.lt hr
  have lo8 := Nat.le_trans (Bel.size hB) hr
  have lo_hBU_b8 := Nat.le_trans (Bel.size hBU) hr
  have lo_hBV_b8 := Nat.le_trans (Bel.size hBV) hr
  have lo_hBX_b8 := Nat.le_trans (Bel.size hBX) hr
  replace hB := hB.tr0 hs
  replace hBU := hBU.tr0 hs
  replace hBV := hBV.tr0 hs
  replace hb5 := hb5.tr0 hs
  replace hBX := hBX.tr0 hs
  replace hb7 := hb7.tr0 hs
  clear hs
  clear hr
  refine wl_stW hb8 rfl rfl sz24 rfl (by repeat (first | rfl | refine one_cons (by first | rfl | assumption) ?_)) (fun w17 hq hs => ?_)
  replace hB := hB.tr1 hs lo8
  replace hBU := hBU.tr1 hs lo_hBU_b8
  replace hBV := hBV.tr1 hs lo_hBV_b8
  replace hb5 := hb5.tr1 hs (by omega)
  replace hBX := hBX.tr1 hs lo_hBX_b8
  replace hb7 := hb7.tr1 hs (by omega)
  clear hs
  replace hb8 := hq
  refine x_nil ?_
  refine e_S ?_
  refine c_seq ?_
  refine c_region ?_
  refine wl (r_fa Tryd.underlying24 sz3_Tables (by decide) rfl rfl rfl) ?_
  refine wl (r_ld1 (v := .int _ _) Tryd.underlying3 rfl rfl (hb8.cell rfl)) ?_
  refine wl (r_neq rfl rfl) ?_
  refine x_nil ?_
  refine e_S ?_
  refine c_ifd rfl (fun c46 => ?_) (fun c46 => ?_)
  ·
   obtain ⟨rfl, rfl⟩ : fX = typesFault l ∧ TX = [] := by
     rcases hSX with ⟨_, h2, h3⟩ | ⟨h1, _⟩ | ⟨h1, _⟩
     · exact ⟨h2, h3⟩
     · exact absurd h1 c46
     · exact absurd h1 c46
   refine c_seq ?_
   refine c_region ?_
   refine wl (r_ldS Tryd.underlying24 rfl rfl hb7.range0 sz24) ?_
   refine wl (r_ldS Tryd.underlying24 rfl rfl hb8.range0 sz24) ?_
   refine wl (r_eqF Tryd.eqGuardType24 ft24 Tryd.stoodInHeld24 fd24 Tryd.underlying3 rfl rfl) ?_
   refine wl (r_mv (v := .bool true) (congrArg Value.bool (decide_eq_true ⟨rfl, rfl⟩))) ?_
   refine wl_gd 50 rfl rfl ?_
   refine wl (r_mv (v := .slice _ _ _) rfl) ?_
   refine wl_gd 50 rfl rfl ?_
   refine wl (r_len Tryd.underlying22 rfl) ?_
   refine wl_gd 50 rfl rfl ?_
   refine wl (r_eql rfl rfl) ?_
   refine wl (r_pt (v := .bool _) rfl rfl) ?_
   refine wl (r_as (v := .bool _) rfl) ?_
   refine x_nil ?_
   refine e_S ?_
   refine c_ret ?_
   refine e_Sr ?_
   refine fin1 (.inl rfl) rfl rfl ?_
   exact ⟨rfl, hB⟩
  ·
   have ht0 : (typesFault l).1 = 0 := Decidable.not_not.1 c46
   obtain ⟨D, hD, hX⟩ := comps_D hSX ht0
   refine c_skip ?_
   refine e_S ?_
   refine c_seq ?_
   refine c_region ?_
   refine wl (r_mv (v := .slice _ _ _) rfl) ?_
   refine wl_cl fn13 (completedS_any A c l D _ (hT.mono hB) ht0 hD) rfl (fun e' w18 hr => ?_)
   obtain ⟨⟨TY, ok, BY, cY, rfl, hTY, hY⟩, hs⟩ := hr
   replace hs := Same.of_bel hs
   replace hB := hB.tr0 hs
   replace hBU := hBU.tr0 hs
   replace hBV := hBV.tr0 hs
   replace hb5 := hb5.tr0 hs
   replace hBX := hBX.tr0 hs
   replace hb7 := hb7.tr0 hs
   replace hb8 := hb8.tr0 hs
   clear hs
   obtain ⟨wY, hwY⟩ : ∃ z, z = w18 := ⟨_, rfl⟩
   have hBY : Bel wY w18 := by rw [hwY]; exact Below.refl _ _
   rw [← hwY] at hTY
   clear hwY
   refine ⟨_, rfl, ?_⟩
   refine wl (r_mv (v := .tuple _) rfl) ?_
   refine wl (r_ex (v := .slice _ _ _) rfl rfl) ?_
   refine wl (r_ex (v := .bool _) rfl rfl) ?_
   refine wl (r_as (v := .slice _ _ _) rfl) ?_
   refine wl (r_as (v := .bool _) rfl) ?_
   refine x_nil ?_
   refine e_S ?_
   refine c_seq ?_
   refine c_seq ?_
   refine c_region ?_
   refine wl (r_mv (v := .bool _) rfl) ?_
   refine wl (r_not rfl) ?_
   refine x_nil ?_
   refine e_S ?_
   refine c_if rfl (fun c61 => ?_) (fun c61 => ?_)
   ·
    obtain ⟨rfl, rfl⟩ : fX = (17, -1) ∧ TX = [] := by
      rcases hY with ⟨h1, _⟩ | ⟨_, h2, _⟩
      · rcases hX with ⟨_, h3, h4⟩ | ⟨h3, _⟩
        · exact ⟨h3, h4⟩
        · exact absurd h1 h3
      · rw [h2] at c61; cases c61
    refine c_seq ?_
    refine c_region ?_
    refine wl (r_ldS Tryd.underlying24 rfl rfl hb7.range0 sz24) ?_
    refine wl (r_bd2 (v0 := .int _ _) (v1 := .int _ _) (fun v0 v1 => #[v0, v1]) rfl rfl (by kernel_rfl)) ?_
    refine wl (r_eqF Tryd.eqGuardType24 ft24 Tryd.stoodInHeld24 fd24 Tryd.underlying3 rfl rfl) ?_
    refine wl (r_mv (v := .bool true) (congrArg Value.bool (decide_eq_true ⟨rfl, rfl⟩))) ?_
    refine wl_gd 65 rfl rfl ?_
    refine wl (r_mv (v := .slice _ _ _) rfl) ?_
    refine wl_gd 65 rfl rfl ?_
    refine wl (r_len Tryd.underlying22 rfl) ?_
    refine wl_gd 65 rfl rfl ?_
    refine wl (r_eql rfl rfl) ?_
    refine wl (r_pt (v := .bool _) rfl rfl) ?_
    refine wl (r_as (v := .bool _) rfl) ?_
    refine x_nil ?_
    refine e_S ?_
    refine c_ret ?_
    refine e_Sr ?_
    refine fin1 (.inl rfl) rfl rfl ?_
    exact ⟨rfl, hB⟩
   ·
    obtain ⟨rfl, rfl⟩ : fX = (0, 0) ∧ TX = TY := by
      rcases hY with ⟨_, h2⟩ | ⟨h1, _, h2⟩
      · rw [h2] at c61; cases c61
      · rcases hX with ⟨h3, _⟩ | ⟨_, h3, h4⟩
        · exact absurd h3 h1
        · exact ⟨h3, h4.trans h2.symm⟩
    refine c_skip ?_
    refine e_S ?_
    refine c_seq ?_
    refine c_region ?_
    refine wl (r_fa Tryd.underlying24 sz3_Tables (by decide) rfl rfl rfl) ?_
    refine wl (r_ld1 (v := .int _ _) Tryd.underlying3 rfl rfl (hb7.cell rfl)) ?_
    refine wl (r_eql rfl rfl) ?_
    refine wl (r_mv (v := .bool true) (congrArg Value.bool (decide_eq_true rfl))) ?_
    refine wl_gd 73 rfl rfl ?_
    refine wl (r_mv (v := .slice _ _ _) rfl) ?_
    refine wl_gd 73 rfl rfl ?_
    refine wl (r_mv (v := .slice _ _ _) rfl) ?_
    refine wl_gd 73 rfl rfl ?_
    refine wl_cl fn12 (teq_any _ _ _ _ _ _ _ (hTX.mono hBX) (hTY.mono hBY)) rfl (fun e' w19 hr => ?_)
    obtain ⟨⟨bF, rfl, hbF⟩, hs⟩ := hr
    replace hs := Same.of_bel hs
    replace hB := hB.tr0 hs
    replace hBU := hBU.tr0 hs
    replace hBV := hBV.tr0 hs
    replace hb5 := hb5.tr0 hs
    replace hBX := hBX.tr0 hs
    replace hb7 := hb7.tr0 hs
    replace hb8 := hb8.tr0 hs
    replace hBY := hBY.tr0 hs
    clear hs
    obtain rfl := hbF.2 rfl
    refine ⟨_, rfl, ?_⟩
    refine wl (r_pt (v := .bool _) rfl rfl) ?_
    refine wl (r_as (v := .bool _) rfl) ?_
    refine x_nil ?_
    refine e_S ?_
    refine c_ret ?_
    refine fin1 (.inl rfl) rfl rfl ?_
    exact ⟨rfl, hB⟩
end Go.Proofs.YtahdbbgkgokkhaaDoor
