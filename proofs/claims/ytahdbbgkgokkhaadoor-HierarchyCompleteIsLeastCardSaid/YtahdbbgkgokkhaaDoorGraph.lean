/- Feature graphs as plain values, their faults, and what is reached in them. No program in sight but for how a world holds them. -/
import Derived.Test.YtahdbbgkgokkhaaDoorHLaw
namespace Go.Proofs.YtahdbbgkgokkhaaDoor
open Go.RowKit
structure Nd where
  ty : Int
  ln : List (Int × Int)
theorem nd_ext {a b : Nd} (h1 : a.ty = b.ty) (h2 : a.ln = b.ln) : a = b := by
  cases a; cases b; simp only at h1 h2; rw [h1, h2]
instance : DecidableEq Nd := fun a b => decidable_of_iff (a.ty = b.ty ∧ a.ln = b.ln) ⟨fun h => nd_ext h.1 h.2, fun h => by rw [h]; exact ⟨rfl, rfl⟩⟩
/-- a slice of links -/
def LinksIn (w : World) (A : Option Addr) (xs : List (Int × Int)) : Prop :=
  xs.length ≤ maxI ∧ (xs ≠ [] → ∃ b o, A = some ⟨b, o, none⟩ ∧ b < w.heap.size ∧ ∀ k (h : k < xs.length), w.rangeAt b (o + k * 2) [.int .i64 (xs[k]).1, .int .i64 (xs[k]).2])
theorem LinksIn.mono {w w' : World} {A : Option Addr} {xs : List (Int × Int)} (h : LinksIn w A xs) (hb : Bel w w') : LinksIn w' A xs :=
  ⟨h.1, fun hn => by
    obtain ⟨b, o, e, hl, hc⟩ := h.2 hn
    exact ⟨b, o, e, Nat.lt_of_lt_of_le hl hb.size, fun k hk => hb.range hl (hc k hk)⟩⟩
theorem LinksIn.at_ {w w' : World} {A : Option Addr} {xs : List (Int × Int)} (h : LinksIn w A xs) (hb : Bel w w') {k : Nat} (hk : k < xs.length) :
    ∃ b o, A = some ⟨b, o, none⟩ ∧ b < w.heap.size ∧ w'.rangeAt b (o + k * 2) [.int .i64 (xs[k]).1, .int .i64 (xs[k]).2] := by
  obtain ⟨b, o, e, hl, hc⟩ := h.2 (by rintro rfl; simp at hk)
  exact ⟨b, o, e, hl, hb.range hl (hc k hk)⟩
def NdIn (w : World) (b o : Nat) (n : Nd) : Prop := ∃ A c, w.rangeAt b o [.int .i64 n.ty, .slice A n.ln.length c] ∧ LinksIn w A n.ln
def NodesIn (w : World) (A : Option Addr) (g : List Nd) : Prop :=
  g.length ≤ maxI ∧ (g ≠ [] → ∃ b o, A = some ⟨b, o, none⟩ ∧ b < w.heap.size ∧ ∀ k (h : k < g.length), NdIn w b (o + k * 2) g[k])
theorem NdIn.mono {w w' : World} {b o : Nat} {n : Nd} (h : NdIn w b o n) (hb : Bel w w') (hl : b < w.heap.size) : NdIn w' b o n := by
  obtain ⟨A, c, h1, h2⟩ := h
  exact ⟨A, c, hb.range hl h1, h2.mono hb⟩
theorem NodesIn.mono {w w' : World} {A : Option Addr} {g : List Nd} (h : NodesIn w A g) (hb : Bel w w') : NodesIn w' A g :=
  ⟨h.1, fun hn => by
    obtain ⟨b, o, e, hl, hc⟩ := h.2 hn
    exact ⟨b, o, e, Nat.lt_of_lt_of_le hl hb.size, fun k hk => (hc k hk).mono hb hl⟩⟩
theorem NodesIn.at_ {w w' : World} {A : Option Addr} {g : List Nd} (h : NodesIn w A g) (hb : Bel w w') {k : Nat} (hk : k < g.length) :
    ∃ b o A' c, A = some ⟨b, o, none⟩ ∧ b < w.heap.size ∧ w'.rangeAt b (o + k * 2) [.int .i64 (g[k]).ty, .slice A' (g[k]).ln.length c] ∧ LinksIn w A' (g[k]).ln := by
  obtain ⟨b, o, e, hl, hc⟩ := h.2 (by rintro rfl; simp at hk)
  obtain ⟨A', c, h1, h2⟩ := hc k hk
  exact ⟨b, o, A', c, e, hl, hb.range hl h1, h2⟩
/-! ## faults -/
def lnBad (nf n : Nat) (x : Int × Int) : Prop := x.1 < 0 ∨ (nf : Int) ≤ x.1 ∨ x.2 < 0 ∨ (n : Int) ≤ x.2
instance (nf n : Nat) (x : Int × Int) : Decidable (lnBad nf n x) := by unfold lnBad; infer_instance
/-- a graph whose numbers are in their ranges -/
structure GOk (nt nf : Nat) (g : List Nd) : Prop where
  pos : 0 < g.length
  le : g.length ≤ 60
  ty : ∀ i (h : i < g.length), 0 ≤ (g[i]).ty ∧ (g[i]).ty < nt
  ln : ∀ i (h : i < g.length), ∀ x ∈ (g[i]).ln, 0 ≤ x.1 ∧ x.1 < nf ∧ 0 ≤ x.2 ∧ x.2 < g.length
  few : ∀ i (h : i < g.length), (g[i]).ln.length ≤ nf
/-- the same without types, and with more nodes -/
structure GOk2 (nf : Nat) (g : List Nd) : Prop where
  pos : 0 < g.length
  le : g.length ≤ 1000000
  ln : ∀ i (h : i < g.length), ∀ x ∈ (g[i]).ln, 0 ≤ x.1 ∧ x.1 < nf ∧ 0 ≤ x.2 ∧ x.2 < g.length
  few : ∀ i (h : i < g.length), (g[i]).ln.length ≤ nf
/-! ## what is reached -/
inductive Rch (g : List Nd) : Nat → Prop
  | zero : Rch g 0
  | step {i : Nat} {x : Int × Int} (h : Rch g i) (hi : i < g.length) (hx : x ∈ (g[i]).ln) : Rch g x.2.toNat
def CL (g : List Nd) (mk : Nat → Bool) : Prop := ∀ i (hi : i < g.length), mk i = true → ∀ x ∈ (g[i]).ln, mk x.2.toNat = true
def Only (g : List Nd) (mk : Nat → Bool) : Prop := ∀ i, mk i = true → Rch g i
theorem reach_cl {g : List Nd} {mk : Nat → Bool} (h0 : mk 0 = true) (hc : CL g mk) {i : Nat} (h : Rch g i) : mk i = true := by
  induction h with
  | zero => exact h0
  | step h hi hx ih => exact hc _ hi ih _ hx
/-- the first node that is not reached, or -1 -/
def UnrIs (g : List Nd) (r : Int) : Prop := (r = -1 ∧ ∀ i, i < g.length → Rch g i) ∨ ∃ k : Nat, r = k ∧ k < g.length ∧ ¬ Rch g k ∧ ∀ i, i < k → Rch g i
theorem UnrIs.uniq {g : List Nd} {r s : Int} (h : UnrIs g r) (k : UnrIs g s) : r = s := by
  rcases h with ⟨h1, h2⟩ | ⟨a, h1, h2, h3, h4⟩ <;> rcases k with ⟨k1, k2⟩ | ⟨b, k1, k2, k3, k4⟩
  · omega
  · exact absurd (h2 b k2) k3
  · exact absurd (k2 a h2) h3
  · have : ¬ a < b := fun h => h3 (k4 a h)
    have : ¬ b < a := fun h => k3 (h4 b h)
    omega
noncomputable def unrI (g : List Nd) : Int := @Classical.epsilon Int ⟨0⟩ (UnrIs g)
theorem unr_is {g : List Nd} {r : Int} (h : UnrIs g r) : r = unrI g := h.uniq (@Classical.epsilon_spec Int (UnrIs g) ⟨r, h⟩)
/-- marks that are all that is reached, and the first that lacks -/
structure AllM (g : List Nd) (mk : Nat → Bool) : Prop where
  zero : mk 0 = true
  only : Only g mk
  cl : CL g mk
theorem AllM.no {g : List Nd} {mk : Nat → Bool} (h : AllM g mk) {k : Nat} (hk : k < g.length) (hm : mk k = false) (hb : ∀ i, i < k → mk i = true) : ((k : Nat) : Int) = unrI g :=
  unr_is (.inr ⟨k, rfl, hk, fun hr => absurd ((reach_cl h.zero h.cl hr).symm.trans hm) (by simp), fun i hi => h.only i (hb i hi)⟩)
theorem AllM.yes {g : List Nd} {mk : Nat → Bool} (h : AllM g mk) (hb : ∀ i, i < g.length → mk i = true) : (-1 : Int) = unrI g :=
  unr_is (.inl ⟨rfl, fun i hi => h.only i (hb i hi)⟩)
/-! ### a search with a stack -/
def setB (mk : Nat → Bool) (j : Nat) (x : Nat) : Bool := if x = j then true else mk x
theorem setB_self (mk : Nat → Bool) (j : Nat) : setB mk j j = true := by simp [setB]
theorem setB_mono {mk : Nat → Bool} {j x : Nat} (h : mk x = true) : setB mk j x = true := by
  unfold setB; split
  · rfl
  · exact h
theorem setB_cases {mk : Nat → Bool} {j x : Nat} (h : setB mk j x = true) : x = j ∨ mk x = true := by
  unfold setB at h
  by_cases e : x = j
  · exact .inl e
  · rw [if_neg e] at h; exact .inr h
/-- the state of the search while node i is looked at, k of its links done; i = g.length between two nodes -/
structure DS (g : List Nd) (mk : Nat → Bool) (st : List Int) (i k : Nat) : Prop where
  zero : mk 0 = true
  only : Only g mk
  stk : ∀ s ∈ st, ∃ n : Nat, s = (n : Int) ∧ n < g.length ∧ mk n = true
  cl : ∀ j (hj : j < g.length), mk j = true → j ≠ i → (j : Int) ∈ st ∨ ∀ x ∈ (g[j]).ln, mk x.2.toNat = true
  me : ∀ (hi : i < g.length), mk i = true ∧ ∀ x ∈ (g[i]).ln.take k, mk x.2.toNat = true
theorem DS.start {g : List Nd} (h : 0 < g.length) : DS g (setB (fun _ => false) 0) [0] g.length 0 :=
  ⟨by simp [setB], fun i hi => by
    rcases setB_cases hi with rfl | h
    · exact .zero
    · exact absurd h Bool.false_ne_true, fun s hs => by
    obtain rfl := List.mem_singleton.1 hs
    exact ⟨0, rfl, h, by simp [setB]⟩, fun j hj hm _ => by
    rcases setB_cases hm with rfl | h
    · exact .inl (by simp)
    · exact absurd h Bool.false_ne_true, fun hi => absurd hi (Nat.lt_irrefl _)⟩
theorem DS.pop {g : List Nd} {mk : Nat → Bool} {st : List Int} {z : Int} (h : DS g mk (st ++ [z]) g.length 0) : ∃ n : Nat, z = (n : Int) ∧ n < g.length ∧ DS g mk st n 0 := by
  obtain ⟨n, rfl, hn, hm⟩ := h.stk z (by simp)
  refine ⟨n, rfl, hn, h.zero, h.only, fun s hs => h.stk s (by simp [hs]), fun j hj hmj hne => ?_, fun hi => ⟨hm, fun x hx => by simp at hx⟩⟩
  rcases h.cl j hj hmj (by omega) with h1 | h1
  · rcases List.mem_append.1 h1 with h2 | h2
    · exact .inl h2
    · have := List.mem_singleton.1 h2
      omega
  · exact .inr h1
theorem DS.old {g : List Nd} {mk : Nat → Bool} {st : List Int} {i k : Nat} (h : DS g mk st i k) (hi : i < g.length) (hk : k < (g[i]).ln.length) (hm : mk ((g[i]).ln[k]).2.toNat = true) : DS g mk st i (k + 1) :=
  ⟨h.zero, h.only, h.stk, h.cl, fun _ => ⟨(h.me hi).1, fun x hx => by
    rw [List.take_succ_eq_append_getElem hk] at hx
    rcases List.mem_append.1 hx with hx | hx
    · exact (h.me hi).2 x hx
    · rw [List.mem_singleton.1 hx]; exact hm⟩⟩
theorem DS.new {g : List Nd} {mk : Nat → Bool} {st : List Int} {i k t : Nat} (h : DS g mk st i k) (hi : i < g.length) (hk : k < (g[i]).ln.length) (ht : ((g[i]).ln[k]).2 = (t : Int)) (htl : t < g.length) : DS g (setB mk t) (st ++ [(t : Int)]) i (k + 1) :=
  ⟨setB_mono h.zero, fun j hj => by
    rcases setB_cases hj with rfl | hj
    · have := Rch.step (h.only i (h.me hi).1) hi (List.getElem_mem hk)
      rw [ht] at this; simpa using this
    · exact h.only j hj, fun s hs => by
    rcases List.mem_append.1 hs with hs | hs
    · obtain ⟨n, h1, h2, h3⟩ := h.stk s hs
      exact ⟨n, h1, h2, setB_mono h3⟩
    · exact ⟨t, List.mem_singleton.1 hs, htl, setB_self _ _⟩, fun j hj hm hne => by
    rcases setB_cases hm with rfl | hm
    · exact .inl (by simp)
    · rcases h.cl j hj hm hne with h1 | h1
      · exact .inl (by simp [h1])
      · exact .inr (fun x hx => setB_mono (h1 x hx)), fun _ => ⟨setB_mono (h.me hi).1, fun x hx => by
    rw [List.take_succ_eq_append_getElem hk] at hx
    rcases List.mem_append.1 hx with hx | hx
    · exact setB_mono ((h.me hi).2 x hx)
    · rw [List.mem_singleton.1 hx, ht]; simp [setB_self]⟩⟩
theorem DS.done {g : List Nd} {mk : Nat → Bool} {st : List Int} {i k : Nat} (h : DS g mk st i k) (hi : i < g.length) (hk : k = (g[i]).ln.length) : DS g mk st g.length 0 :=
  ⟨h.zero, h.only, h.stk, fun j hj hm _ => by
    by_cases e : j = i
    · subst e
      have h1 := (h.me hj).2
      rw [hk, List.take_length] at h1
      exact .inr h1
    · exact h.cl j hj hm e, fun hi => absurd hi (Nat.lt_irrefl _)⟩
theorem DS.end_ {g : List Nd} {mk : Nat → Bool} (h : DS g mk [] g.length 0) : AllM g mk :=
  ⟨h.zero, h.only, fun i hi hm x hx => by
    rcases h.cl i hi hm (by omega) with h1 | h1
    · cases h1
    · exact h1 x hx⟩
/-! ### passes over all links -/
def cntN (n : Nat) (mk : Nat → Bool) : Nat := (List.range n).countP mk
theorem cnt_le (n : Nat) (mk : Nat → Bool) : cntN n mk ≤ n := by
  have := List.countP_le_length (p := mk) (l := List.range n)
  simpa [cntN] using this
/-- between two passes -/
structure PS (g : List Nd) (mk : Nat → Bool) (p : Nat) : Prop where
  zero : mk 0 = true
  only : Only g mk
  far : CL g mk ∨ p + 1 ≤ cntN g.length mk
/-- in a pass that began with the marks m0: node i, k of its links done -/
structure PP (g : List Nd) (m0 mk : Nat → Bool) (i k : Nat) : Prop where
  zero : mk 0 = true
  only : Only g mk
  sup : ∀ j, m0 j = true → mk j = true
  same : CL g m0 → ∀ j, mk j = true → m0 j = true
  done : ∀ j (hj : j < g.length), j < i → m0 j = true → ∀ x ∈ (g[j]).ln, mk x.2.toNat = true
  me : ∀ (hi : i < g.length), m0 i = true → ∀ x ∈ (g[i]).ln.take k, mk x.2.toNat = true
theorem PS.start {g : List Nd} (h : 0 < g.length) : PS g (setB (fun _ => false) 0) 0 :=
  ⟨by simp [setB], fun i hi => by
    rcases setB_cases hi with rfl | h
    · exact .zero
    · exact absurd h Bool.false_ne_true, .inr (by
    have : 0 < cntN g.length (setB (fun _ => false) 0) := List.countP_pos_iff.2 ⟨0, List.mem_range.2 h, by simp [setB]⟩
    omega)⟩
theorem PP.start {g : List Nd} {mk : Nat → Bool} {p : Nat} (h : PS g mk p) : PP g mk mk 0 0 :=
  ⟨h.zero, h.only, fun _ h => h, fun _ _ h => h, fun j _ hj => by omega, fun _ _ x hx => by simp at hx⟩
theorem PP.skip {g : List Nd} {m0 mk : Nat → Bool} {i k : Nat} (h : PP g m0 mk i k) (hm : mk i = false) : PP g m0 mk i (k + 1) :=
  ⟨h.zero, h.only, h.sup, h.same, h.done, fun _ h0 => absurd ((h.sup i h0).symm.trans hm) (by simp)⟩
theorem PP.next {g : List Nd} {m0 mk : Nat → Bool} {i k : Nat} (h : PP g m0 mk i k) (hi : i < g.length) (hk : k = (g[i]).ln.length) : PP g m0 mk (i + 1) 0 :=
  ⟨h.zero, h.only, h.sup, h.same, fun j hj hji h0 x hx => by
    by_cases e : j = i
    · subst e
      have := h.me hj h0
      rw [hk, List.take_length] at this
      exact this x hx
    · exact h.done j hj (by omega) h0 x hx, fun _ _ x hx => by simp at hx⟩
theorem PP.end_ {g : List Nd} (hr : ∀ i (hi : i < g.length), ∀ x ∈ (g[i]).ln, x.2.toNat < g.length) {m0 mk : Nat → Bool} {p : Nat} (h0 : PS g m0 p) (h : PP g m0 mk g.length 0) : PS g mk (p + 1) := by
  refine ⟨h.zero, h.only, ?_⟩
  have hcl : CL g m0 → CL g mk := fun hc i hi hm x hx => h.sup _ (hc i hi (h.same hc i hm) x hx)
  by_cases hc : CL g m0
  · exact .inl (hcl hc)
  · right
    rcases h0.far with h1 | h1
    · exact absurd h1 hc
    · have hex : ∃ i, ∃ hi : i < g.length, m0 i = true ∧ ∃ x, x ∈ (g[i]).ln ∧ m0 x.2.toNat = false := Classical.byContradiction (fun hn => hc (fun i hi hm x hx => by
        cases hv : m0 x.2.toNat with
        | true => rfl
        | false => exact absurd ⟨i, hi, hm, x, hx, hv⟩ hn))
      obtain ⟨i, hi, hm, x, hx, hv⟩ := hex
      have hnew := h.done i hi hi hm x hx
      have hl := hr i hi x hx
      have : cntN g.length m0 < cntN g.length mk := countP_lt h.sup (List.range g.length) _ (List.mem_range.2 hl) hnew hv
      omega
theorem PS.end_ {g : List Nd} {mk : Nat → Bool} (h : PS g mk g.length) : AllM g mk :=
  ⟨h.zero, h.only, by
    rcases h.far with h1 | h1
    · exact h1
    · have := cnt_le g.length mk
      omega⟩
theorem row_setB {n j : Nat} {mk : Nat → Bool} : row n (fun x => if x = j then Value.bool true else .bool (mk x)) = row n (fun x => .bool (setB mk j x)) :=
  row_congr (fun x _ => by by_cases e : x = j <;> simp [setB, e])
/-- features in their ranges -/
structure FOk (nt : Nat) (fs : List Ft) : Prop where
  at_ : ∀ i (h : i < fs.length), 0 ≤ (fs[i]).of ∧ (fs[i]).of < nt ∧ 0 ≤ (fs[i]).val ∧ (fs[i]).val < nt
end Go.Proofs.YtahdbbgkgokkhaaDoor
