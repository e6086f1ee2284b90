/- What these functions of the program compute, at every world: . -/
import Derived.Test.YtahdbbgkgokkhaaDoorTables
namespace Go.Proofs.YtahdbbgkgokkhaaDoor
open Go.RowKit
/-! ## faults of a hierarchy -/
theorem parFault_ok {i : Int} : ∀ {ps : List Int} {last : Int}, parFault i last ps = 0 → ∀ p ∈ ps, 0 ≤ p ∧ p < i
  | [], _, _, p, hp => by cases hp
  | q :: ps, last, h, p, hp => by
    unfold parFault at h
    by_cases h1 : q < 0 ∨ i ≤ q
    · rw [if_pos h1] at h; cases h
    rw [if_neg h1] at h
    by_cases h2 : q ≤ last
    · rw [if_pos h2] at h; cases h
    rw [if_neg h2] at h
    rcases List.mem_cons.1 hp with rfl | hp
    · omega
    · exact parFault_ok h p hp
theorem tyFault_ok {l : List Ty} {k : Nat} (hk : k < l.length) (h : tyFault l k = 0) : isName (l[k]).name = true ∧ seen ((l.take k).map (·.name)) (l[k]).name = false ∧ (decide (k = 0) == (l[k]).par.isEmpty) = true ∧ parFault k (-1) (l[k]).par = 0 := by
  cases h1 : isName (l[k]).name with
  | false => rw [ty10 l k hk h1] at h; cases h
  | true =>
    cases h2 : seen ((l.take k).map (·.name)) (l[k]).name with
    | true => rw [ty7 l k hk h1 h2] at h; cases h
    | false =>
      cases h3 : (decide (k = 0) == (l[k]).par.isEmpty) with
      | false => rw [ty5 l k hk h1 h2 h3] at h; cases h
      | true =>
        rw [tyF_par l k hk h1 h2 h3, List.drop_zero] at h
        exact ⟨rfl, rfl, rfl, h⟩
theorem firstF_zero {f : Nat → Int} : ∀ {m i : Nat}, (firstF f i m).1 = 0 → ∀ j, i ≤ j → j < i + m → f j = 0
  | 0, i, _, j, h1, h2 => by omega
  | m + 1, i, h, j, h1, h2 => by
    unfold firstF at h
    by_cases h3 : f i ≠ 0
    · rw [if_pos h3] at h; exact absurd h h3
    rw [if_neg h3] at h
    by_cases e : j = i
    · subst e; exact Decidable.not_not.1 h3
    · exact firstF_zero h j (by omega) (by omega)
theorem types_len {l : List Ty} (h : (typesFault l).1 = 0) : ¬ (l.length = 0 ∨ 60 < l.length) := by
  intro hb
  simp only [typesFault, if_pos hb] at h
  cases h
theorem types_ok {l : List Ty} (h : (typesFault l).1 = 0) {k : Nat} (hk : k < l.length) : tyFault l k = 0 := by
  have hb := types_len h
  simp only [typesFault, if_neg hb] at h
  exact firstF_zero h k (Nat.zero_le _) (by omega)
theorem vt_of {l : List Ty} (h : (typesFault l).1 = 0) : VT l := fun _ hi p hp => parFault_ok (tyFault_ok hi (types_ok h hi)).2.2.2 p hp
def unmF (l : List Ty) (b : Nat) : Int := if (List.range b).any (fun a => (meet l a b).2.2) then 16 else 0
def ftBad (n : Nat) (t : Ft) : Prop := t.of < 0 ∨ (n : Int) ≤ t.of ∨ t.val < 0 ∨ (n : Int) ≤ t.val
instance (n : Nat) (t : Ft) : Decidable (ftBad n t) := by unfold ftBad; infer_instance
def ftFault (n : Nat) (fs : List Ft) (i : Nat) : Int := match fs[i]? with
  | none => 0
  | some t => if isName t.name = false then 10 else if seen ((fs.take i).map (·.name)) t.name = true then 7 else if ftBad n t then 3 else 0
def unmetF (l : List Ty) : Fl := firstF (unmF l) 0 l.length
def hierFault (l : List Ty) (fs : List Ft) : Fl :=
  if 40 < fs.length then (2, -1)
  else if (typesFault l).1 ≠ 0 then typesFault l
  else if (unmetF l).1 ≠ 0 then unmetF l
  else firstF (ftFault l.length fs) 0 fs.length
end Go.Proofs.YtahdbbgkgokkhaaDoor
