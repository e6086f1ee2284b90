/- Slices of slices of ints, as they lie in a world. No program in sight. -/
import Derived.Test.YtdegobbnidddjaaDoorEng3
import Derived.Test.YtdegobbnidddjaaDoorData
import Derived.Test.YtdegobbnidddjaaDoorHLaw
namespace Go.Proofs.YtdegobbnidddjaaDoor
open Go.RowKit
def iV (xs : List Int) : List Value := xs.map (Value.int .i64)
theorem iV_len (xs : List Int) : (iV xs).length = xs.length := by simp [iV]
theorem iV_one (xs : List Int) : (iV xs).all (·.oneCell') = true := by simp [iV, List.all_eq_true]; intros; rfl
theorem IntsIn.news {w : World} {A : Option Addr} {xs : List Int} (h : IntsIn w A xs) : 0 < xs.length → ∃ b o', A = some ⟨b, o', none⟩ ∧ ∀ j u, (iV xs)[j]? = some u → w.cell? ⟨b, o' + j, none⟩ = some u := fun hm => by
  obtain ⟨b, o, e, _, hc⟩ := h.2 (by rintro rfl; simp at hm)
  refine ⟨b, o, e, fun j u hj => ?_⟩
  simp only [iV, List.getElem?_map, Option.map_eq_some_iff] at hj
  obtain ⟨x, hx, rfl⟩ := hj
  obtain ⟨hk, rfl⟩ := List.getElem?_eq_some_iff.1 hx
  simpa using hc j hk
def MatIn (w : World) (A : Option Addr) (L : List (List Int)) : Prop :=
  L.length ≤ maxI ∧ (L ≠ [] → ∃ b o, A = some ⟨b, o, none⟩ ∧ b < w.heap.size ∧ ∀ k (hk : k < L.length), ∃ A' c, w.cell? ⟨b, o + k * 1, none⟩ = some (.slice A' (L[k]).length c) ∧ IntsIn w A' L[k])
theorem MatIn.mono {w w' : World} {A : Option Addr} {L : List (List Int)} (h : MatIn w A L) (hb : Bel w w') : MatIn w' A L :=
  ⟨h.1, fun hn => by
    obtain ⟨b, o, e, hl, hc⟩ := h.2 hn
    refine ⟨b, o, e, Nat.lt_of_lt_of_le hl hb.size, fun k hk => ?_⟩
    obtain ⟨A', c, h1, h2⟩ := hc k hk
    exact ⟨A', c, hb.cell hl h1, h2.mono hb⟩⟩
theorem MatIn.at_ {w w' : World} {A : Option Addr} {L : List (List Int)} (h : MatIn w A L) (hb : Bel w w') {k : Nat} (hk : k < L.length) :
    ∃ b o A' c, A = some ⟨b, o, none⟩ ∧ w'.cell? ⟨b, o + k * 1, none⟩ = some (.slice A' (L[k]).length c) ∧ IntsIn w A' L[k] := by
  obtain ⟨b, o, e, hl, hc⟩ := h.2 (by rintro rfl; simp at hk)
  obtain ⟨A', c, h1, h2⟩ := hc k hk
  exact ⟨b, o, A', c, e, hb.cell hl h1, h2⟩
theorem mat_two {w : World} {b t : Nat} {A1 A2 : Option Addr} {c1 c2 : Nat} {p q : List Int} (h : Blk w b t #[.slice A1 p.length c1, .slice A2 q.length c2]) (h1 : IntsIn w A1 p) (h2 : IntsIn w A2 q) : MatIn w (some ⟨b, 0, none⟩) [p, q] :=
  ⟨by simp; decide, fun _ => ⟨b, 0, rfl, h.lt, fun k hk => by
    match k, hk with
    | 0, _ => exact ⟨A1, c1, h.cell rfl, h1⟩
    | 1, _ => exact ⟨A2, c2, h.cell rfl, h2⟩⟩⟩
def sumL (L : List (List Int)) (k : Nat) : Nat := (L.take k).flatten.length
theorem flat_succ {L : List (List Int)} {k : Nat} (hk : k < L.length) : (L.take (k + 1)).flatten = (L.take k).flatten ++ L[k] := by
  rw [List.take_succ_eq_append_getElem hk, List.flatten_append, List.flatten_cons, List.flatten_nil, List.append_nil]
theorem sum_succ {L : List (List Int)} {k : Nat} (hk : k < L.length) : sumL L (k + 1) = sumL L k + (L[k]).length := by
  unfold sumL; rw [flat_succ hk, List.length_append]
theorem sum_le (L : List (List Int)) (k : Nat) : sumL L k ≤ L.flatten.length := by
  unfold sumL
  have h : L = L.take k ++ L.drop k := (List.take_append_drop k L).symm
  have h2 : L.flatten = (L.take k).flatten ++ (L.drop k).flatten := by rw [← List.flatten_append, ← h]
  rw [h2, List.length_append]; omega
theorem sum_all {L : List (List Int)} {k : Nat} (h : L.length ≤ k) : (L.take k).flatten = L.flatten := by rw [List.take_of_length_le h]
end Go.Proofs.YtdegobbnidddjaaDoor
