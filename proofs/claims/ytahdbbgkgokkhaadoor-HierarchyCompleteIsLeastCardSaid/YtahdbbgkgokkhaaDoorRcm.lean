/- The reference's way to complete types: sets as lists of numbers, in a world. No program in sight. -/
import Derived.Test.YtahdbbgkgokkhaaDoorCpq
import Derived.Test.YtahdbbgkgokkhaaDoorMat
import Derived.Test.YtahdbbgkgokkhaaDoorEng6
import Derived.Test.YtahdbbgkgokkhaaDoorEng2
import Derived.Lib.AppendZerosOnto
namespace Go.Proofs.YtahdbbgkgokkhaaDoor
open Go.RowKit
/-! ## sets as lists -/
/-! ## lists of sets in a world -/
theorem PrI.tr0 {lo hi : Nat} {w w' : World} {A : Option Addr} {xs : List Int} (h : PrI lo hi w A xs) (hs : Same [] w w') : PrI lo hi w' A xs := h.tr hs (fun g hg => by cases hg)
def RwM (lo hi : Nat) (w : World) (L : List (List Int)) (vs : List Value) : Prop := vs.length = L.length ∧ ∀ k (hk : k < L.length), ∃ A c, vs[k]? = some (.slice A (L[k]).length c) ∧ PrI lo hi w A L[k]
theorem RwM.nil (lo hi : Nat) (w : World) : RwM lo hi w [] [] := ⟨rfl, fun k hk => by simp at hk⟩
theorem RwM.tr0 {lo hi : Nat} {w w' : World} {L : List (List Int)} {vs : List Value} (h : RwM lo hi w L vs) (hs : Same [] w w') : RwM lo hi w' L vs :=
  ⟨h.1, fun k hk => by obtain ⟨A, c, e1, hp⟩ := h.2 k hk; exact ⟨A, c, e1, hp.tr0 hs⟩⟩
theorem RwM.up {lo hi hi' : Nat} {w : World} {L : List (List Int)} {vs : List Value} (h : RwM lo hi w L vs) (hl : hi ≤ hi') : RwM lo hi' w L vs :=
  ⟨h.1, fun k hk => by obtain ⟨A, c, e1, hp⟩ := h.2 k hk; exact ⟨A, c, e1, hp.up hl⟩⟩
theorem RwM.snoc {lo hi : Nat} {w : World} {L : List (List Int)} {vs : List Value} {xs : List Int} {A : Option Addr} {c n : Nat} (h : RwM lo hi w L vs) (hp : PrI lo hi w A xs) (hn : n = xs.length) : RwM lo hi w (L ++ [xs]) (vs ++ [.slice A n c]) := by
  subst hn
  have h1 := h.1
  refine ⟨by simp [h1], fun k hk => ?_⟩
  by_cases e : k < L.length
  · obtain ⟨A2, c2, e1, hp2⟩ := h.2 k e
    exact ⟨A2, c2, by rw [List.getElem?_append_left (by omega), List.getElem_append_left e]; exact e1, by rw [List.getElem_append_left e]; exact hp2⟩
  · have e2 : k = L.length := by simp at hk; omega
    subst e2
    refine ⟨A, c, ?_, ?_⟩
    · rw [List.getElem?_append_right (by omega), h1, Nat.sub_self]; simp
    · simpa using hp
theorem RwM.one {lo hi : Nat} {w : World} {L : List (List Int)} {vs : List Value} (h : RwM lo hi w L vs) : ∀ v ∈ vs, v.oneCell' = true := fun v hv => by
  obtain ⟨k, hk, rfl⟩ := List.mem_iff_getElem.1 hv
  obtain ⟨A, c, e1, _⟩ := h.2 k (by rw [← h.1]; exact hk)
  rw [List.getElem?_eq_getElem hk] at e1
  rw [Option.some.inj e1]; rfl
/-! ## lists compared -/
theorem hi64 {z : Nat} (hz : z < 18446744073709551616) : ∀ i, 64 ≤ i → z.testBit i = false := fun i hi => Nat.testBit_lt_two_pow (Nat.lt_of_lt_of_le (show _ < 2 ^ 64 from hz) (Nat.pow_le_pow_right (by decide) hi))
theorem cmpU_Lt {x y : Nat} (hx : x < 18446744073709551616) (hy : y < 18446744073709551616) : cmpU x y < 0 ↔ Lt 64 x y := by
  rw [cmpU_lt]
  unfold Lt
  constructor
  · rintro (h | ⟨h1, h | ⟨h2, h3⟩⟩)
    · exact .inl h
    · exact .inr ⟨h1, .inl h⟩
    · refine .inr ⟨h1, .inr ⟨h2.symm, ?_⟩⟩
      rcases ld_or (n := 64) (hi64 hx) (hi64 hy) with e | e | e
      · subst e; omega
      · exact e
      · have := rev_lt (n := 64) (Nat.le_refl _) (fun i hi => rev_bit i hi) (rev_hi y) (fun i hi => rev_bit i hi) (rev_hi x) e
        omega
  · rintro (h | ⟨h1, h | ⟨h2, h3⟩⟩)
    · exact .inl h
    · exact .inr ⟨h1, .inl h⟩
    · exact .inr ⟨h1, .inr ⟨h2.symm, rev_lt (n := 64) (Nat.le_refl _) (fun i hi => rev_bit i hi) (rev_hi x) (fun i hi => rev_bit i hi) (rev_hi y) h3⟩⟩
/-- sorted: strictly -/
theorem sorted_Lt {D : List Nat} (hb : ∀ x ∈ D, x < 18446744073709551616) (hn : D.Nodup) (h : D.Pairwise (fun x y => ¬ cmpU y x < 0)) : D.Pairwise (Lt 64) := by
  have h2 : D.Pairwise (fun x y => x ≠ y ∧ ¬ cmpU y x < 0) := hn.and h
  refine List.Pairwise.imp_of_mem (fun ha hb' hab => ?_) h2
  rw [cmpU_Lt (hb _ hb') (hb _ ha)] at hab
  rcases lt_or (hi64 (hb _ ha)) (hi64 (hb _ hb')) with e | e | e
  · exact absurd e hab.1
  · exact e
  · exact absurd e hab.2
end Go.Proofs.YtahdbbgkgokkhaaDoor
