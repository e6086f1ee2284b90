/- What these functions of the program compute, at every world: glosswright/glosswrightref3.Unmet. -/
import Derived.Test.YtahdbbgkgokkhaaDoorValid
namespace Go.Proofs.YtahdbbgkgokkhaaDoor
open Go.RowKit
/-! ## common subtypes without a meet -/
theorem meet_none {l : List Ty} {a b : Nat} (h : ∀ i, i < l.length → comm l a b i = false) : (meet l a b).2.2 = false := by
  have h0 : commN l a b = 0 := mask_eq_zero.2 h
  simp only [meet, if_pos h0]
theorem meet_some {l : List Ty} (hv : VT l) (h60 : l.length ≤ 60) {a b m : Nat} (hm : m < l.length) (hcm : comm l a b m = true) (hl : ∀ i, i < m → comm l a b i = false) (hs : ∀ i, i < l.length → comm l a b i = true → sub l i m = true) : (meet l a b).2.2 = false := by
  have h0 : commN l a b ≠ 0 := fun h => by
    have := mask_eq_zero.1 h m hm
    rw [hcm] at this; cases this
  have hz := ctz_mask h60 h0
  have he : Lib.ctz 64 (commN l a b) = m := by
    have h1 : ¬ Lib.ctz 64 (commN l a b) < m := fun h => by
      have := hl _ h
      rw [show comm l a b (Lib.ctz 64 (commN l a b)) = true from hz.2.1] at this; cases this
    have h2 : ¬ m < Lib.ctz 64 (commN l a b) := fun h => by
      have := hz.2.2 m h
      rw [hcm] at this; cases this
    omega
  have hd : downN l (Lib.ctz 64 (commN l a b)) = commN l a b := by
    rw [he]
    refine mask_congr (fun i hi => ?_)
    cases h1 : sub l i m with
    | true =>
      simp only [comm, Bool.and_eq_true] at hcm
      simp [comm, sub_tr hv h1 hcm.1, sub_tr hv h1 hcm.2]
    | false =>
      cases h2 : comm l a b i with
      | false => rfl
      | true => rw [hs i hi h2] at h1; cases h1
  simp only [meet, if_neg h0, hd, ne_eq, not_true_eq_false, if_false]
/-- what the reference's search over c holds: the least common subtype so far, or -1 -/
inductive MS (l : List Ty) (a b c : Nat) (m : Int) : Prop
  | none (h : m = -1) (h0 : ∀ i, i < c → comm l a b i = false)
  | some (n : Nat) (h : m = n) (hn : n < c) (h1 : comm l a b n = true) (h2 : ∀ i, i < n → comm l a b i = false) (h3 : ∀ i, i < c → comm l a b i = true → sub l i n = true)
theorem MS.start (l : List Ty) (a b : Nat) : MS l a b 0 (-1) := .none rfl (fun i h => by omega)
theorem MS.skip {l : List Ty} {a b c : Nat} {m : Int} (h : MS l a b c m) (hc : comm l a b c = false) : MS l a b (c + 1) m := by
  cases h with
  | none h h0 => exact .none h (fun i hi => by
      by_cases e : i = c
      · subst e; exact hc
      · exact h0 i (by omega))
  | some n h hn h1 h2 h3 => exact .some n h (by omega) h1 h2 (fun i hi hci => by
      by_cases e : i = c
      · subst e; rw [hc] at hci; cases hci
      · exact h3 i (by omega) hci)
theorem MS.first {l : List Ty} (hv : VT l) {a b c : Nat} {m : Int} (h : MS l a b c m) (hm : m < 0) (hc : comm l a b c = true) : MS l a b (c + 1) c := by
  cases h with
  | none h h0 => exact .some c rfl (by omega) hc h0 (fun i hi hci => by
      by_cases e : i = c
      · subst e; exact sub_refl hv _
      · rw [h0 i (by omega)] at hci; cases hci)
  | some n h => omega
theorem MS.pos {l : List Ty} {a b c : Nat} {m : Int} (h : MS l a b c m) (hm : ¬ m < 0) : ∃ n : Nat, m = n ∧ n < c ∧ comm l a b n = true ∧ (∀ i, i < n → comm l a b i = false) ∧ ∀ i, i < c → comm l a b i = true → sub l i n = true := by
  cases h with
  | none h => omega
  | some n h hn h1 h2 h3 => exact ⟨n, h, hn, h1, h2, h3⟩
theorem MS.end_ {l : List Ty} (hv : VT l) (h60 : l.length ≤ 60) {a b : Nat} {m : Int} (h : MS l a b l.length m) : (meet l a b).2.2 = false := by
  cases h with
  | none h h0 => exact meet_none h0
  | some n h hn h1 h2 h3 => exact meet_some hv h60 hn h1 h2 h3
theorem ret_int {a b : Int} (h : a = b) : Ending.returned (.int .i64 b) = .returned (.int .i64 a) := by rw [h]

end Go.Proofs.YtahdbbgkgokkhaaDoor
