/- Slices of slices of ints, as they lie in a world. No program in sight. -/
import Derived.Test.YtahdbbgkgokkhaaDoorEng3
import Derived.Test.YtahdbbgkgokkhaaDoorData
import Derived.Test.YtahdbbgkgokkhaaDoorHLaw
namespace Go.Proofs.YtahdbbgkgokkhaaDoor
open Go.RowKit
def MatIn (w : World) (A : Option Addr) (L : List (List Int)) : Prop :=
  L.length ≤ maxI ∧ (L ≠ [] → ∃ b o, A = some ⟨b, o, none⟩ ∧ b < w.heap.size ∧ ∀ k (hk : k < L.length), ∃ A' c, w.cell? ⟨b, o + k * 1, none⟩ = some (.slice A' (L[k]).length c) ∧ IntsIn w A' L[k])
theorem MatIn.mono {w w' : World} {A : Option Addr} {L : List (List Int)} (h : MatIn w A L) (hb : Bel w w') : MatIn w' A L :=
  ⟨h.1, fun hn => by
    obtain ⟨b, o, e, hl, hc⟩ := h.2 hn
    refine ⟨b, o, e, Nat.lt_of_lt_of_le hl hb.size, fun k hk => ?_⟩
    obtain ⟨A', c, h1, h2⟩ := hc k hk
    exact ⟨A', c, hb.cell hl h1, h2.mono hb⟩⟩
theorem MatIn.at_ {w w' : World} {A : Option Addr} {L : List (List Int)} (h : MatIn w A L) (hb : Bel w w') {k : Nat} (hk : k < L.length) :
    ∃ b o A' c, A = some ⟨b, o, none⟩ ∧ w'.cell? ⟨b, o + k * 1, none⟩ = some (.slice A' (L[k]).length c) ∧ IntsIn w A' L[k] := by
  obtain ⟨b, o, e, hl, hc⟩ := h.2 (by rintro rfl; simp at hk)
  obtain ⟨A', c, h1, h2⟩ := hc k hk
  exact ⟨b, o, A', c, e, hb.cell hl h1, h2⟩
end Go.Proofs.YtahdbbgkgokkhaaDoor
