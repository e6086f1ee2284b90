/- What these functions of the program compute, at every world: glosswright/glosswrightlaw3.unmet, glosswright/glosswrightlaw3.HierarchyCompleteMatchesSpec. -/
import Derived.Test.YtahdbbgkgokkhaaDoorCCo
import Derived.Test.YtahdbbgkgokkhaaDoorCRc
import Derived.Test.YtahdbbgkgokkhaaDoorCeq
import Derived.Test.YtahdbbgkgokkhaaDoorHEq
namespace Go.Proofs.YtahdbbgkgokkhaaDoor
open Go.RowKit

/-- the cells of a row of types, laid at once -/
inductive TyVs (w : World) : List Ty → List Value → Prop
  | nil : TyVs w [] []
  | cons {t : Ty} {l : List Ty} {vs : List Value} {A : Option Addr} {c : Nat} (h : IntsIn w A t.par) (r : TyVs w l vs) : TyVs w (t :: l) (.string t.name :: .slice A t.par.length c :: vs)
theorem TyVs.get {w : World} {l : List Ty} {vs : List Value} (h : TyVs w l vs) : ∀ k (hk : k < l.length), ∃ A c, vs[k * 2]? = some (.string (l[k]).name) ∧ vs[k * 2 + 1]? = some (.slice A (l[k]).par.length c) ∧ IntsIn w A (l[k]).par := by
  induction h with
  | nil => intro k hk; simp at hk
  | cons h r ih =>
    intro k hk
    match k, hk with
    | 0, _ => exact ⟨_, _, rfl, rfl, h⟩
    | k + 1, hk =>
      obtain ⟨A, c, h1, h2, h3⟩ := ih k (by simpa using hk)
      refine ⟨A, c, ?_, ?_, h3⟩
      · rw [show (k + 1) * 2 = k * 2 + 1 + 1 from by omega]; simpa using h1
      · rw [show (k + 1) * 2 + 1 = k * 2 + 1 + 1 + 1 from by omega]; simpa using h2
theorem types_of_blk {w : World} {b t : Nat} {l : List Ty} {vs : List Value} (h : Blk w b t vs.toArray) (hv : TyVs w l vs) (hl : l.length ≤ maxI) : TypesIn w (some ⟨b, 0, none⟩) l :=
  ⟨hl, fun _ => ⟨b, 0, rfl, h.lt, fun k hk => by
    obtain ⟨A, c, h1, h2, h3⟩ := hv.get k hk
    refine ⟨A, c, h.range (fun j v hj => ?_), h3⟩
    match j, hj with
    | 0, hj => cases hj; simpa using h1
    | 1, hj => cases hj; simpa using h2
    | _ + 2, hj => cases hj⟩⟩
theorem ints_nil (w : World) (A : Option Addr) : IntsIn w A [] := ⟨Nat.zero_le _, fun h => absurd rfl h⟩
theorem ints_of_blk {w : World} {b t : Nat} (xs : List Int) (h : Blk w b t (xs.map (Value.int .i64)).toArray) (hl : xs.length ≤ maxI) : IntsIn w (some ⟨b, 0, none⟩) xs :=
  ⟨hl, fun _ => ⟨b, 0, rfl, h.lt, fun k hk => h.cell (by simp [hk])⟩⟩
def unmetT : List Ty := [⟨⟨#[116, 111, 112]⟩, []⟩, ⟨⟨#[97]⟩, [0]⟩, ⟨⟨#[98]⟩, [0]⟩, ⟨⟨#[99]⟩, [1, 2]⟩, ⟨⟨#[100]⟩, [1, 2]⟩]

instance : DecidableEq Ty := fun a b => decidable_of_iff (a.name = b.name ∧ a.par = b.par) (by cases a; cases b; simp)
theorem glb_one : glb 1 = ⟨#[103, 108, 98, 45, 49]⟩ := by
  unfold glb
  rw [Lib.decDigits_one (by decide)]
  decide +kernel
def wantT : List Ty := [⟨⟨#[116, 111, 112]⟩, []⟩, ⟨⟨#[97]⟩, [0]⟩, ⟨⟨#[98]⟩, [0]⟩, ⟨⟨#[103, 108, 98, 45, 49]⟩, [1, 2]⟩, ⟨⟨#[99]⟩, [3]⟩, ⟨⟨#[100]⟩, [3]⟩]
theorem unm_ok : (typesFault unmetT).1 = 0 := by decide +kernel
theorem unm_comp : compS unmetT = some (base unmetT ++ [24]) := by decide +kernel
theorem unm_out : outL unmetT [24] = [(31, ⟨#[116, 111, 112]⟩), (26, ⟨#[97]⟩), (28, ⟨#[98]⟩), (24, glb 1), (8, ⟨#[99]⟩), (16, ⟨#[100]⟩)] := by
  have h1 : usedB unmetT 1 = false := by
    unfold usedB
    rw [glb_one]
    decide +kernel
  have hn : nxt (usedB unmetT) 0 = 1 := nxt_stop h1
  have ht : tz 24 = 3 := by decide +kernel
  have d0 : downN unmetT 0 = 31 := by decide +kernel
  have d1 : downN unmetT 1 = 26 := by decide +kernel
  have d2 : downN unmetT 2 = 28 := by decide +kernel
  have d3 : downN unmetT 3 = 8 := by decide +kernel
  have d4 : downN unmetT 4 = 16 := by decide +kernel
  unfold outL
  rw [show unmetT.length + [24].length = 5 + 1 from rfl, outG_old (by simp [ht]), outG_old (by simp [ht]), outG_old (by simp [ht]), outG_pop ht, hn, outG_old (by simp), outG_old (by simp), d0, d1, d2, d3, d4]
  rfl
theorem unm_want : outT (outL unmetT [24]) = wantT := by
  rw [unm_out, glb_one]
  decide +kernel
/-- what Complete answers -/
def CompS (l : List Ty) (T : List Ty) (f : Fl) : Prop :=
  ((typesFault l).1 ≠ 0 ∧ f = typesFault l ∧ T = []) ∨ ((typesFault l).1 = 0 ∧ compS l = none ∧ f = (17, -1) ∧ T = []) ∨ ((typesFault l).1 = 0 ∧ ∃ ds D : List Nat, compS l = some (base l ++ ds) ∧ D.Perm ds ∧ D.Pairwise (fun x y => ¬ cmpU y x < 0) ∧ f = (0, 0) ∧ T = outT (outL l D))
theorem outT_len (O : List (Nat × ByteArray)) : (outT O).length = O.length := by simp [outT]
theorem comps_any (A : Option Addr) (c : Nat) (l : List Ty) (w : World) (hT : TypesIn w A l) (hTab : TabIn w) : Calls Tryd.prog 5 #[.slice A l.length c] w fun e w' => (∃ (T : List Ty) (f : Fl) (B : Option Addr) (cp : Nat), e = .returned (.tuple #[.slice B T.length cp, .agg #[.int .i64 (Prod.fst f), .int .i64 f.2]]) ∧ TypesIn w' B T ∧ CompS l T f ∧ T.length ≤ cp) ∧ Bel w w' := by
  refine (complete_any A c l w hT hTab).mono fun e w' h => ⟨?_, h.2⟩
  rcases h.1 with ⟨h1, h2⟩ | ⟨h1, h2, h3⟩ | ⟨h1, ds, D, B, cp, h2, h3, h4, h5, h6, h7⟩
  · exact ⟨[], typesFault l, none, 0, h2, ⟨Nat.zero_le _, fun h => absurd rfl h⟩, .inl ⟨h1, rfl, rfl⟩, Nat.le_refl _⟩
  · exact ⟨[], (17, -1), none, 0, h3, ⟨Nat.zero_le _, fun h => absurd rfl h⟩, .inr (.inl ⟨h1, h2, rfl, rfl⟩), Nat.le_refl _⟩
  · exact ⟨outT (outL l D), (0, 0), B, cp, by rw [outT_len]; exact h5, h6, .inr (.inr ⟨h1, ds, D, h2, h3, h4, rfl, rfl⟩), by rw [outT_len]; exact h7⟩
theorem unm_any {w : World} {A : Option Addr} {c : Nat} (hT : TypesIn w A unmetT) (hTab : TabIn w) : Calls Tryd.prog 5 #[.slice A 5 c] w fun e w' => (∃ (B : Option Addr) (cp : Nat), e = .returned (.tuple #[.slice B 6 cp, .agg #[.int .i64 0, .int .i64 0]]) ∧ TypesIn w' B wantT) ∧ Bel w w' := by
  refine (comps_any A c unmetT w hT hTab).mono fun e w' h => ⟨?_, h.2⟩
  obtain ⟨T, f, B, cp, rfl, hT2, hS, _⟩ := h.1
  rcases hS with ⟨h1, _⟩ | ⟨_, h1, _⟩ | ⟨_, ds, D, h2, h3, _, rfl, rfl⟩
  · exact absurd unm_ok h1
  · rw [unm_comp] at h1; cases h1
  · rw [unm_comp] at h2
    have h5 := List.append_cancel_left (Option.some.inj h2)
    rw [← h5] at h3
    have h4 : D = [24] := List.perm_singleton.1 h3
    subst h4
    rw [unm_want] at hT2 ⊢
    exact ⟨B, cp, rfl, hT2⟩
theorem fn12 : callable Tryd.prog 12 = true := by kernel_rfl
theorem fn5 : callable Tryd.prog 5 = true := by kernel_rfl
theorem fn6 : callable Tryd.prog 6 = true := by kernel_rfl
theorem fn7_CLa : callable Tryd.prog 7 = true := by kernel_rfl
theorem unmetT_any (w : World) : Calls Tryd.prog 6 #[] w fun e w' => (∃ A c, e = .returned (.slice A 5 c) ∧ TypesIn w' A unmetT) ∧ Bel w w' := by
 refine enter Tryd.func6 Tryd.ntmps6 rfl (Nat.le_of_ble_eq_true rfl) ?_
 have hB : Bel w w := Below.refl _ _
 refine c_seq ?_
 refine c_region ?_
 refine wl (r_as (v := .slice _ _ _) rfl) ?_
 refine x_nil ?_
 refine e_S ?_
 refine c_seq ?_
 refine c_region ?_
 refine wl (r_bd1 (v0 := .string _) (fun v0 => #[v0, .slice none 0 0]) rfl (by kernel_rfl)) ?_
 refine wl_bs (cs := #[_]) [(0, .int _ _)] rfl Tryd.underlying33 sz3_Tables ze3 (by decide) (by decide) (by kernel_rfl) rfl (fun b2 w1 hb2 hs hr => ?_)
 have lo2 := Nat.le_trans (Bel.size hB) hr
 replace hB := hB.tr0 hs
 clear hs
 clear hr
 refine wl (r_bd2 (v0 := .string _) (v1 := .slice _ _ _) (fun v0 v1 => #[v0, v1]) rfl rfl (by kernel_rfl)) ?_
 refine wl_bs (cs := #[_]) [(0, .int _ _)] rfl Tryd.underlying33 sz3_Tables ze3 (by decide) (by decide) (by kernel_rfl) rfl (fun b4 w2 hb4 hs hr => ?_)
 have or_b2_b4 : b2 < b4 := Nat.lt_of_lt_of_le hb2.lt hr
 have lo4 := Nat.le_trans (Bel.size hB) hr
 replace hB := hB.tr0 hs
 replace hb2 := hb2.tr0 hs
 clear hs
 clear hr
 refine wl (r_bd2 (v0 := .string _) (v1 := .slice _ _ _) (fun v0 v1 => #[v0, v1]) rfl rfl (by kernel_rfl)) ?_
 refine wl_bs (cs := #[_, _]) [(0, .int _ _), (1, .int _ _)] rfl Tryd.underlying33 sz3_Tables ze3 (by decide) (by decide) (by kernel_rfl) rfl (fun b6 w3 hb6 hs hr => ?_)
 have or_b2_b6 : b2 < b6 := Nat.lt_of_lt_of_le hb2.lt hr
 have or_b4_b6 : b4 < b6 := Nat.lt_of_lt_of_le hb4.lt hr
 have lo6 := Nat.le_trans (Bel.size hB) hr
 replace hB := hB.tr0 hs
 replace hb2 := hb2.tr0 hs
 replace hb4 := hb4.tr0 hs
 clear hs
 clear hr
 refine wl (r_bd2 (v0 := .string _) (v1 := .slice _ _ _) (fun v0 v1 => #[v0, v1]) rfl rfl (by kernel_rfl)) ?_
 refine wl_bs (cs := #[_, _]) [(0, .int _ _), (1, .int _ _)] rfl Tryd.underlying33 sz3_Tables ze3 (by decide) (by decide) (by kernel_rfl) rfl (fun b8 w4 hb8 hs hr => ?_)
 have or_b2_b8 : b2 < b8 := Nat.lt_of_lt_of_le hb2.lt hr
 have or_b4_b8 : b4 < b8 := Nat.lt_of_lt_of_le hb4.lt hr
 have or_b6_b8 : b6 < b8 := Nat.lt_of_lt_of_le hb6.lt hr
 have lo8 := Nat.le_trans (Bel.size hB) hr
 replace hB := hB.tr0 hs
 replace hb2 := hb2.tr0 hs
 replace hb4 := hb4.tr0 hs
 replace hb6 := hb6.tr0 hs
 clear hs
 clear hr
 refine wl (r_bd2 (v0 := .string _) (v1 := .slice _ _ _) (fun v0 v1 => #[v0, v1]) rfl rfl (by kernel_rfl)) ?_
 refine wl_bs (cs := #[_, _, _, _, _, _, _, _, _, _]) [(0, .agg _), (1, .agg _), (2, .agg _), (3, .agg _), (4, .agg _)] rfl Tryd.underlying22 sz35_Tables ze35_Tables (by decide) (by decide) (by kernel_rfl) rfl (fun b10 w5 hb10 hs hr => ?_)
 have or_b2_b10 : b2 < b10 := Nat.lt_of_lt_of_le hb2.lt hr
 have or_b4_b10 : b4 < b10 := Nat.lt_of_lt_of_le hb4.lt hr
 have or_b6_b10 : b6 < b10 := Nat.lt_of_lt_of_le hb6.lt hr
 have or_b8_b10 : b8 < b10 := Nat.lt_of_lt_of_le hb8.lt hr
 have lo10 := Nat.le_trans (Bel.size hB) hr
 replace hB := hB.tr0 hs
 replace hb2 := hb2.tr0 hs
 replace hb4 := hb4.tr0 hs
 replace hb6 := hb6.tr0 hs
 replace hb8 := hb8.tr0 hs
 clear hs
 clear hr
 refine wl (r_as (v := .slice _ _ _) rfl) ?_
 refine x_nil ?_
 refine e_S ?_
 refine c_ret ?_
 refine fin1 (.inl rfl) rfl rfl ?_
 exact ⟨⟨_, _, rfl, types_of_blk (l := unmetT) hb10 (.cons (ints_nil _ _) (.cons (ints_of_blk [0] hb2 (by decide)) (.cons (ints_of_blk [0] hb4 (by decide)) (.cons (ints_of_blk [1, 2] hb6 (by decide)) (.cons (ints_of_blk [1, 2] hb8 (by decide)) .nil))))) (by decide)⟩, hB⟩

end Go.Proofs.YtahdbbgkgokkhaaDoor
