/- What these functions of the program compute, at every world: . -/
import Derived.Test.YtahdbbgkgokkhaaDoorTables
namespace Go.Proofs.YtahdbbgkgokkhaaDoor
open Go.RowKit
/-! ## faults of a hierarchy -/
theorem parFault_ok {i : Int} : ∀ {ps : List Int} {last : Int}, parFault i last ps = 0 → ∀ p ∈ ps, 0 ≤ p ∧ p < i
  | [], _, _, p, hp => by cases hp
  | q :: ps, last, h, p, hp => by
    unfold parFault at h
    by_cases h1 : q < 0 ∨ i ≤ q
    · rw [if_pos h1] at h; cases h
    rw [if_neg h1] at h
    by_cases h2 : q ≤ last
    · rw [if_pos h2] at h; cases h
    rw [if_neg h2] at h
    rcases List.mem_cons.1 hp with rfl | hp
    · omega
    · exact parFault_ok h p hp
theorem tyFault_ok {l : List Ty} {k : Nat} (hk : k < l.length) (h : tyFault l k = 0) : isName (l[k]).name = true ∧ seen ((l.take k).map (·.name)) (l[k]).name = false ∧ (decide (k = 0) == (l[k]).par.isEmpty) = true ∧ parFault k (-1) (l[k]).par = 0 := by
  cases h1 : isName (l[k]).name with
  | false => rw [ty10 l k hk h1] at h; cases h
  | true =>
    cases h2 : seen ((l.take k).map (·.name)) (l[k]).name with
    | true => rw [ty7 l k hk h1 h2] at h; cases h
    | false =>
      cases h3 : (decide (k = 0) == (l[k]).par.isEmpty) with
      | false => rw [ty5 l k hk h1 h2 h3] at h; cases h
      | true =>
        rw [tyF_par l k hk h1 h2 h3, List.drop_zero] at h
        exact ⟨rfl, rfl, rfl, h⟩
theorem firstF_zero {f : Nat → Int} : ∀ {m i : Nat}, (firstF f i m).1 = 0 → ∀ j, i ≤ j → j < i + m → f j = 0
  | 0, i, _, j, h1, h2 => by omega
  | m + 1, i, h, j, h1, h2 => by
    unfold firstF at h
    by_cases h3 : f i ≠ 0
    · rw [if_pos h3] at h; exact absurd h h3
    rw [if_neg h3] at h
    by_cases e : j = i
    · subst e; exact Decidable.not_not.1 h3
    · exact firstF_zero h j (by omega) (by omega)
theorem types_len {l : List Ty} (h : (typesFault l).1 = 0) : ¬ (l.length = 0 ∨ 60 < l.length) := by
  intro hb
  simp only [typesFault, if_pos hb] at h
  cases h
theorem types_ok {l : List Ty} (h : (typesFault l).1 = 0) {k : Nat} (hk : k < l.length) : tyFault l k = 0 := by
  have hb := types_len h
  simp only [typesFault, if_neg hb] at h
  exact firstF_zero h k (Nat.zero_le _) (by omega)
theorem vt_of {l : List Ty} (h : (typesFault l).1 = 0) : VT l := fun _ hi p hp => parFault_ok (tyFault_ok hi (types_ok h hi)).2.2.2 p hp
def unmF (l : List Ty) (b : Nat) : Int := if (List.range b).any (fun a => (meet l a b).2.2) then 16 else 0
theorem unmF_yes {l : List Ty} {a b : Nat} (h : a < b) (hm : (meet l a b).2.2 = true) : unmF l b = 16 := by
  unfold unmF
  rw [if_pos (List.any_eq_true.2 ⟨a, List.mem_range.2 h, hm⟩)]
theorem unmF_no {l : List Ty} {b : Nat} (h : ∀ a, a < b → (meet l a b).2.2 = false) : unmF l b = 0 := by
  unfold unmF
  rw [if_neg]
  intro hc
  obtain ⟨a, ha, hm⟩ := List.any_eq_true.1 hc
  rw [h a (List.mem_range.1 ha)] at hm; cases hm
def ftBad (n : Nat) (t : Ft) : Prop := t.of < 0 ∨ (n : Int) ≤ t.of ∨ t.val < 0 ∨ (n : Int) ≤ t.val
instance (n : Nat) (t : Ft) : Decidable (ftBad n t) := by unfold ftBad; infer_instance
def ftFault (n : Nat) (fs : List Ft) (i : Nat) : Int := match fs[i]? with
  | none => 0
  | some t => if isName t.name = false then 10 else if seen ((fs.take i).map (·.name)) t.name = true then 7 else if ftBad n t then 3 else 0
theorem ft10 (n : Nat) (l : List Ft) (k : Nat) (hlt : k < l.length) (h1 : isName l[k].name = false) : ftFault n l k = 10 := by
  simp only [ftFault, List.getElem?_eq_getElem hlt, h1, if_true]
theorem ft7 (n : Nat) (l : List Ft) (k : Nat) (hlt : k < l.length) (h1 : isName l[k].name = true) (h2 : seen ((l.take k).map (·.name)) l[k].name = true) : ftFault n l k = 7 := by
  simp only [ftFault, List.getElem?_eq_getElem hlt, h1, h2, if_true]; rfl
theorem ft3 (n : Nat) (l : List Ft) (k : Nat) (hlt : k < l.length) (h1 : isName l[k].name = true) (h2 : seen ((l.take k).map (·.name)) l[k].name = false) (h3 : ftBad n l[k]) : ftFault n l k = 3 := by
  simp only [ftFault, List.getElem?_eq_getElem hlt, h1, h2, if_pos h3]; rfl
theorem ft0 (n : Nat) (l : List Ft) (k : Nat) (hlt : k < l.length) (h1 : isName l[k].name = true) (h2 : seen ((l.take k).map (·.name)) l[k].name = false) (h3 : ¬ ftBad n l[k]) : ftFault n l k = 0 := by
  simp only [ftFault, List.getElem?_eq_getElem hlt, h1, h2, if_neg h3]; rfl
def unmetF (l : List Ty) : Fl := firstF (unmF l) 0 l.length
def hierFault (l : List Ty) (fs : List Ft) : Fl :=
  if 40 < fs.length then (2, -1)
  else if (typesFault l).1 ≠ 0 then typesFault l
  else if (unmetF l).1 ≠ 0 then unmetF l
  else firstF (ftFault l.length fs) 0 fs.length
theorem hf_size {l : List Ty} {fs : List Ft} (h : l.length = 0 ∨ 60 < l.length ∨ 40 < fs.length) : hierFault l fs = (2, -1) := by
  unfold hierFault
  by_cases h4 : 40 < fs.length
  · rw [if_pos h4]
  · have hb : l.length = 0 ∨ 60 < l.length := by omega
    have ht : typesFault l = (2, -1) := by simp only [typesFault, if_pos hb]
    rw [if_neg h4, ht]; rfl
theorem hf_types {l : List Ty} {fs : List Ft} (h : ¬ 40 < fs.length) (ht : (typesFault l).1 ≠ 0) : hierFault l fs = ((typesFault l).1, (typesFault l).2) := by
  unfold hierFault; rw [if_neg h, if_pos ht]
theorem hf_unmet {l : List Ty} {fs : List Ft} (h : ¬ 40 < fs.length) (ht : (typesFault l).1 = 0) {k : Int} (hu : unmetF l = (16, k)) : hierFault l fs = (16, k) := by
  unfold hierFault; rw [if_neg h, if_neg (by rw [ht]; exact fun h => h rfl), hu]; rfl
theorem hf_rest {l : List Ty} {fs : List Ft} (h : ¬ 40 < fs.length) (ht : (typesFault l).1 = 0) (hu : unmetF l = (0, 0)) : hierFault l fs = firstF (ftFault l.length fs) 0 (fs.length - 0) := by
  unfold hierFault; rw [if_neg h, if_neg (by rw [ht]; exact fun h => h rfl), hu]; rfl



end Go.Proofs.YtahdbbgkgokkhaaDoor
