/- What these functions of the program compute, at every world: glosswright/glosswrightlaw3.unmet. -/
import Derived.Test.YthhkbhapfcfdjaaDoorSmall
namespace Go.Proofs.YthhkbhapfcfdjaaDoor
open Go.RowKit

/-- the cells of a row of types, laid at once -/
inductive TyVs (w : World) : List Ty → List Value → Prop
  | nil : TyVs w [] []
  | cons {t : Ty} {l : List Ty} {vs : List Value} {A : Option Addr} {c : Nat} (h : IntsIn w A t.par) (r : TyVs w l vs) : TyVs w (t :: l) (.string t.name :: .slice A t.par.length c :: vs)
theorem TyVs.get {w : World} {l : List Ty} {vs : List Value} (h : TyVs w l vs) : ∀ k (hk : k < l.length), ∃ A c, vs[k * 2]? = some (.string (l[k]).name) ∧ vs[k * 2 + 1]? = some (.slice A (l[k]).par.length c) ∧ IntsIn w A (l[k]).par := by
  induction h with
  | nil => intro k hk; simp at hk
  | cons h r ih =>
    intro k hk
    match k, hk with
    | 0, _ => exact ⟨_, _, rfl, rfl, h⟩
    | k + 1, hk =>
      obtain ⟨A, c, h1, h2, h3⟩ := ih k (by simpa using hk)
      refine ⟨A, c, ?_, ?_, h3⟩
      · rw [show (k + 1) * 2 = k * 2 + 1 + 1 from by omega]; simpa using h1
      · rw [show (k + 1) * 2 + 1 = k * 2 + 1 + 1 + 1 from by omega]; simpa using h2
theorem types_of_blk {w : World} {b t : Nat} {l : List Ty} {vs : List Value} (h : Blk w b t vs.toArray) (hv : TyVs w l vs) (hl : l.length ≤ maxI) : TypesIn w (some ⟨b, 0, none⟩) l :=
  ⟨hl, fun _ => ⟨b, 0, rfl, h.lt, fun k hk => by
    obtain ⟨A, c, h1, h2, h3⟩ := hv.get k hk
    refine ⟨A, c, h.range (fun j v hj => ?_), h3⟩
    match j, hj with
    | 0, hj => cases hj; simpa using h1
    | 1, hj => cases hj; simpa using h2
    | _ + 2, hj => cases hj⟩⟩
theorem ints_nil (w : World) (A : Option Addr) : IntsIn w A [] := ⟨Nat.zero_le _, fun h => absurd rfl h⟩
theorem feats_nil (w : World) (A : Option Addr) : FeatsIn w A [] := ⟨Nat.zero_le _, fun h => absurd rfl h⟩
def unmetT : List Ty := [⟨⟨#[116, 111, 112]⟩, []⟩, ⟨⟨#[97]⟩, [0]⟩, ⟨⟨#[98]⟩, [0]⟩, ⟨⟨#[99]⟩, [1, 2]⟩, ⟨⟨#[100]⟩, [1, 2]⟩]
theorem unmet_fault : hierFault unmetT [] = (16, 2) := by decide +kernel
theorem small_fault : hierFault smallT smallF = (0, 0) := by decide +kernel
theorem unmet_val {w : World} {A : Option Addr} {c : Nat} (hTab : TabIn w) (hT : TypesIn w A unmetT) : Calls Tryd.prog 7 #[.agg #[.slice A 5 c, .slice none 0 0]] w fun e w' => e = .returned (.agg #[.int .i64 16, .int .i64 2]) ∧ Bel w w' := by
  have h := validate_any A none c 0 unmetT [] w hTab hT (feats_nil w none)
  rw [unmet_fault] at h
  exact h
theorem small_val {w : World} {A B : Option Addr} {c d : Nat} (hTab : TabIn w) (hT : TypesIn w A smallT) (hF : FeatsIn w B smallF) : Calls Tryd.prog 7 #[.agg #[.slice A 15 c, .slice B 5 d]] w fun e w' => e = .returned (.agg #[.int .i64 0, .int .i64 0]) ∧ Bel w w' := by
  have h := validate_any A B c d smallT smallF w hTab hT hF
  rw [small_fault] at h
  exact h


theorem unmetT_any (w : World) : Calls Tryd.prog 8 #[] w fun e w' => (∃ A c, e = .returned (.slice A 5 c) ∧ TypesIn w' A unmetT) ∧ Bel w w' := by
  refine enter Tryd.func8 Tryd.ntmps8 rfl (Nat.le_of_ble_eq_true rfl) ?_
  have hB : Bel w w := Below.refl _ _
  refine c_seq ?_
  refine c_region ?_
  refine wl (r_as (v := .slice _ _ _) rfl) ?_
  refine x_nil ?_
  refine e_S ?_
  refine c_seq ?_
  refine c_region ?_
  refine wl (r_bd1 (v0 := .string _) (fun v0 => #[v0, .slice none 0 0]) rfl (by kernel_rfl)) ?_
  refine wl_bs (cs := #[_]) [(0, .int _ _)] rfl Tryd.underlying45 sz3 ze3 (by decide) (by decide) (by kernel_rfl) rfl (fun b2 w1 hb2 hs hr => ?_)
  have lo2 := Nat.le_trans (Bel.size hB) hr
  replace hB := hB.tr0 hs
  clear hs
  clear hr
  refine wl (r_bd2 (v0 := .string _) (v1 := .slice _ _ _) (fun v0 v1 => #[v0, v1]) rfl rfl (by kernel_rfl)) ?_
  refine wl_bs (cs := #[_]) [(0, .int _ _)] rfl Tryd.underlying45 sz3 ze3 (by decide) (by decide) (by kernel_rfl) rfl (fun b4 w2 hb4 hs hr => ?_)
  have or_b2_b4 : b2 < b4 := Nat.lt_of_lt_of_le hb2.lt hr
  have lo4 := Nat.le_trans (Bel.size hB) hr
  replace hB := hB.tr0 hs
  replace hb2 := hb2.tr0 hs
  clear hs
  clear hr
  refine wl (r_bd2 (v0 := .string _) (v1 := .slice _ _ _) (fun v0 v1 => #[v0, v1]) rfl rfl (by kernel_rfl)) ?_
  refine wl_bs (cs := #[_, _]) [(0, .int _ _), (1, .int _ _)] rfl Tryd.underlying45 sz3 ze3 (by decide) (by decide) (by kernel_rfl) rfl (fun b6 w3 hb6 hs hr => ?_)
  have or_b2_b6 : b2 < b6 := Nat.lt_of_lt_of_le hb2.lt hr
  have or_b4_b6 : b4 < b6 := Nat.lt_of_lt_of_le hb4.lt hr
  have lo6 := Nat.le_trans (Bel.size hB) hr
  replace hB := hB.tr0 hs
  replace hb2 := hb2.tr0 hs
  replace hb4 := hb4.tr0 hs
  clear hs
  clear hr
  refine wl (r_bd2 (v0 := .string _) (v1 := .slice _ _ _) (fun v0 v1 => #[v0, v1]) rfl rfl (by kernel_rfl)) ?_
  refine wl_bs (cs := #[_, _]) [(0, .int _ _), (1, .int _ _)] rfl Tryd.underlying45 sz3 ze3 (by decide) (by decide) (by kernel_rfl) rfl (fun b8 w4 hb8 hs hr => ?_)
  have or_b2_b8 : b2 < b8 := Nat.lt_of_lt_of_le hb2.lt hr
  have or_b4_b8 : b4 < b8 := Nat.lt_of_lt_of_le hb4.lt hr
  have or_b6_b8 : b6 < b8 := Nat.lt_of_lt_of_le hb6.lt hr
  have lo8 := Nat.le_trans (Bel.size hB) hr
  replace hB := hB.tr0 hs
  replace hb2 := hb2.tr0 hs
  replace hb4 := hb4.tr0 hs
  replace hb6 := hb6.tr0 hs
  clear hs
  clear hr
  refine wl (r_bd2 (v0 := .string _) (v1 := .slice _ _ _) (fun v0 v1 => #[v0, v1]) rfl rfl (by kernel_rfl)) ?_
  refine wl_bs (cs := #[_, _, _, _, _, _, _, _, _, _]) [(0, .agg _), (1, .agg _), (2, .agg _), (3, .agg _), (4, .agg _)] rfl Tryd.underlying22 sz67 ze67 (by decide) (by decide) (by kernel_rfl) rfl (fun b10 w5 hb10 hs hr => ?_)
  have or_b2_b10 : b2 < b10 := Nat.lt_of_lt_of_le hb2.lt hr
  have or_b4_b10 : b4 < b10 := Nat.lt_of_lt_of_le hb4.lt hr
  have or_b6_b10 : b6 < b10 := Nat.lt_of_lt_of_le hb6.lt hr
  have or_b8_b10 : b8 < b10 := Nat.lt_of_lt_of_le hb8.lt hr
  have lo10 := Nat.le_trans (Bel.size hB) hr
  replace hB := hB.tr0 hs
  replace hb2 := hb2.tr0 hs
  replace hb4 := hb4.tr0 hs
  replace hb6 := hb6.tr0 hs
  replace hb8 := hb8.tr0 hs
  clear hs
  clear hr
  refine wl (r_as (v := .slice _ _ _) rfl) ?_
  refine x_nil ?_
  refine e_S ?_
  refine c_ret ?_
  refine fin1 (.inl rfl) rfl rfl ?_
  exact ⟨⟨_, _, rfl, types_of_blk (l := unmetT) hb10 (.cons (ints_nil _ _) (.cons (ints_of_blk [0] hb2 (by decide)) (.cons (ints_of_blk [0] hb4 (by decide)) (.cons (ints_of_blk [1, 2] hb6 (by decide)) (.cons (ints_of_blk [1, 2] hb8 (by decide)) .nil))))) (by decide)⟩, hB⟩
end Go.Proofs.YthhkbhapfcfdjaaDoor
