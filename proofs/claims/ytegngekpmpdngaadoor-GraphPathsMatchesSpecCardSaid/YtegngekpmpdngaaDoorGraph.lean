/- Feature graphs as plain values, their faults, and what is reached in them. No program in sight but for how a world holds them. -/
import Derived.Test.YtegngekpmpdngaaDoorHLaw
namespace Go.Proofs.YtegngekpmpdngaaDoor
open Go.RowKit
structure Nd where
  ty : Int
  ln : List (Int × Int)
theorem nd_ext {a b : Nd} (h1 : a.ty = b.ty) (h2 : a.ln = b.ln) : a = b := by
  cases a; cases b; simp only at h1 h2; rw [h1, h2]
instance : DecidableEq Nd := fun a b => decidable_of_iff (a.ty = b.ty ∧ a.ln = b.ln) ⟨fun h => nd_ext h.1 h.2, fun h => by rw [h]; exact ⟨rfl, rfl⟩⟩
def LinksIn (w : World) (A : Option Addr) (xs : List (Int × Int)) : Prop :=
  xs.length ≤ maxI ∧ (xs ≠ [] → ∃ b o, A = some ⟨b, o, none⟩ ∧ b < w.heap.size ∧ ∀ k (h : k < xs.length), w.rangeAt b (o + k * 2) [.int .i64 (xs[k]).1, .int .i64 (xs[k]).2])
theorem LinksIn.mono {w w' : World} {A : Option Addr} {xs : List (Int × Int)} (h : LinksIn w A xs) (hb : Bel w w') : LinksIn w' A xs :=
  ⟨h.1, fun hn => by
    obtain ⟨b, o, e, hl, hc⟩ := h.2 hn
    exact ⟨b, o, e, nLL hl hb.size, fun k hk => hb.range hl (hc k hk)⟩⟩
theorem LinksIn.at_ {w w' : World} {A : Option Addr} {xs : List (Int × Int)} (h : LinksIn w A xs) (hb : Bel w w') {k : Nat} (hk : k < xs.length) :
    ∃ b o, A = some ⟨b, o, none⟩ ∧ b < w.heap.size ∧ w'.rangeAt b (o + k * 2) [.int .i64 (xs[k]).1, .int .i64 (xs[k]).2] := by
  obtain ⟨b, o, e, hl, hc⟩ := h.2 (by rintro rfl; simp at hk)
  exact ⟨b, o, e, hl, hb.range hl (hc k hk)⟩
def NdIn (w : World) (b o : Nat) (n : Nd) : Prop := ∃ A c, w.rangeAt b o [.int .i64 n.ty, .slice A n.ln.length c] ∧ LinksIn w A n.ln
def NodesIn (w : World) (A : Option Addr) (g : List Nd) : Prop :=
  g.length ≤ maxI ∧ (g ≠ [] → ∃ b o, A = some ⟨b, o, none⟩ ∧ b < w.heap.size ∧ ∀ k (h : k < g.length), NdIn w b (o + k * 2) g[k])
theorem NdIn.mono {w w' : World} {b o : Nat} {n : Nd} (h : NdIn w b o n) (hb : Bel w w') (hl : b < w.heap.size) : NdIn w' b o n := by
  obtain ⟨A, c, h1, h2⟩ := h
  exact ⟨A, c, hb.range hl h1, h2.mono hb⟩
theorem NodesIn.mono {w w' : World} {A : Option Addr} {g : List Nd} (h : NodesIn w A g) (hb : Bel w w') : NodesIn w' A g :=
  ⟨h.1, fun hn => by
    obtain ⟨b, o, e, hl, hc⟩ := h.2 hn
    exact ⟨b, o, e, nLL hl hb.size, fun k hk => (hc k hk).mono hb hl⟩⟩
theorem NodesIn.at_ {w w' : World} {A : Option Addr} {g : List Nd} (h : NodesIn w A g) (hb : Bel w w') {k : Nat} (hk : k < g.length) :
    ∃ b o A' c, A = some ⟨b, o, none⟩ ∧ b < w.heap.size ∧ w'.rangeAt b (o + k * 2) [.int .i64 (g[k]).ty, .slice A' (g[k]).ln.length c] ∧ LinksIn w A' (g[k]).ln := by
  obtain ⟨b, o, e, hl, hc⟩ := h.2 (by rintro rfl; simp at hk)
  obtain ⟨A', c, h1, h2⟩ := hc k hk
  exact ⟨b, o, A', c, e, hl, hb.range hl h1, h2⟩
def lnBad (nf n : Nat) (x : Int × Int) : Prop := x.1 < 0 ∨ (nf : Int) ≤ x.1 ∨ x.2 < 0 ∨ (n : Int) ≤ x.2
instance (nf n : Nat) (x : Int × Int) : Decidable (lnBad nf n x) := by unfold lnBad; infer_instance
def lnFault (nf n : Nat) : Int → List (Int × Int) → Int
  | _, [] => 0
  | last, x :: xs => if lnBad nf n x then 3 else if x.1 ≤ last then 13 else lnFault nf n x.1 xs
def ndFault (nt nf n : Nat) (x : Nd) : Int := if x.ty < 0 ∨ (nt : Int) ≤ x.ty then 3 else lnFault nf n (-1) x.ln
def looseN (nt nf : Nat) (g : List Nd) (i : Nat) : Int := match g[i]? with
  | none => 0
  | some x => ndFault nt nf g.length x
def looseF (nt nf : Nat) (g : List Nd) : Fl := if g.length = 0 ∨ 60 < g.length then (2, -2) else firstF (looseN nt nf g) 0 g.length
theorem looseN_ty {nt nf : Nat} {g : List Nd} {i : Nat} (hi : i < g.length) (h : (g[i]).ty < 0 ∨ (nt : Int) ≤ (g[i]).ty) : looseN nt nf g i = 3 := by
  simp only [looseN, List.getElem?_eq_getElem hi, ndFault, if_pos h]
theorem looseN_ln {nt nf : Nat} {g : List Nd} {i : Nat} (hi : i < g.length) (h : ¬ ((g[i]).ty < 0 ∨ (nt : Int) ≤ (g[i]).ty)) : looseN nt nf g i = lnFault nf g.length (-1) ((g[i]).ln.drop 0) := by
  simp only [looseN, List.getElem?_eq_getElem hi, ndFault, if_neg h, List.drop_zero]
theorem ln_bad {nf n : Nat} {last : Int} {xs : List (Int × Int)} {j : Nat} (hj : j < xs.length) (h : lnBad nf n xs[j]) : lnFault nf n last (xs.drop j) = 3 := by
  rw [List.drop_eq_getElem_cons hj]; simp only [lnFault, if_pos h]
theorem ln_ord {nf n : Nat} {last : Int} {xs : List (Int × Int)} {j : Nat} (hj : j < xs.length) (h : ¬ lnBad nf n xs[j]) (h2 : (xs[j]).1 ≤ last) : lnFault nf n last (xs.drop j) = 13 := by
  rw [List.drop_eq_getElem_cons hj]; simp only [lnFault, if_neg h, if_pos h2]
theorem ln_next {nf n : Nat} {last : Int} {xs : List (Int × Int)} {j : Nat} (hj : j < xs.length) (h : ¬ lnBad nf n xs[j]) (h2 : ¬ (xs[j]).1 ≤ last) : lnFault nf n last (xs.drop j) = lnFault nf n (xs[j]).1 (xs.drop (j + 1)) := by
  rw [List.drop_eq_getElem_cons hj]; simp only [lnFault, if_neg h, if_neg h2]
theorem ln_end {nf n : Nat} {last : Int} {xs : List (Int × Int)} {j : Nat} (hj : xs.length ≤ j) : lnFault nf n last (xs.drop j) = 0 := by
  rw [List.drop_eq_nil_of_le hj]; rfl
theorem lnFault_ok {nf n : Nat} : ∀ {xs : List (Int × Int)} {last : Int}, lnFault nf n last xs = 0 → ∀ x ∈ xs, ¬ lnBad nf n x
  | [], _, _, x, hx => by cases hx
  | y :: ys, last, h, x, hx => by
    unfold lnFault at h
    by_cases h1 : lnBad nf n y
    · rw [if_pos h1] at h; cases h
    rw [if_neg h1] at h
    by_cases h2 : y.1 ≤ last
    · rw [if_pos h2] at h; cases h
    rw [if_neg h2] at h
    rcases List.mem_cons.1 hx with rfl | hx
    · exact h1
    · exact lnFault_ok h x hx
theorem lnFault_few {nf n : Nat} : ∀ {xs : List (Int × Int)} {last : Int}, lnFault nf n last xs = 0 → -1 ≤ last → last < nf → (xs.length : Int) ≤ nf - 1 - last
  | [], last, _, h1, h2 => by simp only [List.length_nil]; omega
  | y :: ys, last, h, h1, h2 => by
    unfold lnFault at h
    by_cases h3 : lnBad nf n y
    · rw [if_pos h3] at h; cases h
    rw [if_neg h3] at h
    by_cases h4 : y.1 ≤ last
    · rw [if_pos h4] at h; cases h
    rw [if_neg h4] at h
    unfold lnBad at h3
    have := lnFault_few h om om
    simp only [List.length_cons]
    omega
structure GOk (nt nf : Nat) (g : List Nd) : Prop where
  pos : 0 < g.length
  le : g.length ≤ 60
  ty : ∀ i (h : i < g.length), 0 ≤ (g[i]).ty ∧ (g[i]).ty < nt
  ln : ∀ i (h : i < g.length), ∀ x ∈ (g[i]).ln, 0 ≤ x.1 ∧ x.1 < nf ∧ 0 ≤ x.2 ∧ x.2 < g.length
  few : ∀ i (h : i < g.length), (g[i]).ln.length ≤ nf
structure GOk2 (nf : Nat) (g : List Nd) : Prop where
  pos : 0 < g.length
  le : g.length ≤ 1000000
  ln : ∀ i (h : i < g.length), ∀ x ∈ (g[i]).ln, 0 ≤ x.1 ∧ x.1 < nf ∧ 0 ≤ x.2 ∧ x.2 < g.length
  few : ∀ i (h : i < g.length), (g[i]).ln.length ≤ nf
theorem GOk.two {nt nf : Nat} {g : List Nd} (h : GOk nt nf g) : GOk2 nf g := ⟨h.pos, nLT h.le dE, h.ln, h.few⟩
theorem gok_of {nt nf : Nat} {g : List Nd} (h : (looseF nt nf g).1 = 0) : GOk nt nf g := by
  unfold looseF at h
  by_cases h0 : g.length = 0 ∨ 60 < g.length
  · rw [if_pos h0] at h; cases h
  rw [if_neg h0] at h
  have hi : ∀ i (h : i < g.length), ¬ ((g[i]).ty < 0 ∨ (nt : Int) ≤ (g[i]).ty) ∧ lnFault nf g.length (-1) (g[i]).ln = 0 := fun i hl => by
    have h1 := firstF_zero h i (Nat.zero_le _) om
    by_cases h2 : (g[i]).ty < 0 ∨ (nt : Int) ≤ (g[i]).ty
    · rw [looseN_ty hl h2] at h1; cases h1
    · rw [looseN_ln hl h2, List.drop_zero] at h1
      exact ⟨h2, h1⟩
  refine ⟨by omega, by omega, fun i hl => ?_, fun i hl x hx => ?_, fun i hl => ?_⟩
  · have := (hi i hl).1; omega
  · have := lnFault_ok (hi i hl).2 x hx
    unfold lnBad at this; omega
  · have := lnFault_few (hi i hl).2 om om
    omega
theorem firstF_zz {f : Nat → Int} : ∀ {m i : Nat}, (firstF f i m).1 = 0 → firstF f i m = (0, 0)
  | 0, _, _ => rfl
  | m + 1, i, h => by
    unfold firstF at h ⊢
    by_cases h3 : f i ≠ 0
    · rw [if_pos h3] at h; exact absurd h h3
    · rw [if_neg h3] at h ⊢; exact firstF_zz h
def ftAt (fs : List Ft) (z : Int) : Ft := fs.getD z.toNat ⟨⟨#[]⟩, 0, 0⟩
def ndAt (g : List Nd) (z : Int) : Nd := g.getD z.toNat ⟨0, []⟩
def lnTy (l : List Ty) (fs : List Ft) (g : List Nd) (t : Int) (x : Int × Int) : Bool :=
  !(sub l t.toNat (ftAt fs x.1).of.toNat) || !(sub l (ndAt g x.2).ty.toNat (ftAt fs x.1).val.toNat)
def tyN (l : List Ty) (fs : List Ft) (g : List Nd) (i : Nat) : Int := match g[i]? with
  | none => 0
  | some x => if x.ln.any (lnTy l fs g x.ty) then 12 else 0
def tyF (l : List Ty) (fs : List Ft) (g : List Nd) : Fl := firstF (tyN l fs g) 0 g.length
theorem tyN_yes {l : List Ty} {fs : List Ft} {g : List Nd} {i j : Nat} (hi : i < g.length) (hj : j < (g[i]).ln.length) (h : lnTy l fs g (g[i]).ty (g[i]).ln[j] = true) : tyN l fs g i = 12 := by
  simp only [tyN, List.getElem?_eq_getElem hi]
  rw [if_pos (List.any_eq_true.2 ⟨_, List.getElem_mem hj, h⟩)]
theorem tyN_no {l : List Ty} {fs : List Ft} {g : List Nd} {i : Nat} (hi : i < g.length) (h : ∀ j (hj : j < (g[i]).ln.length), lnTy l fs g (g[i]).ty (g[i]).ln[j] = false) : tyN l fs g i = 0 := by
  simp only [tyN, List.getElem?_eq_getElem hi]
  rw [if_neg]
  intro hc
  obtain ⟨x, hx, h2⟩ := List.any_eq_true.1 hc
  obtain ⟨j, hj, rfl⟩ := List.getElem_of_mem hx
  rw [h j hj] at h2; cases h2
inductive Rch (g : List Nd) : Nat → Prop
  | zero : Rch g 0
  | step {i : Nat} {x : Int × Int} (h : Rch g i) (hi : i < g.length) (hx : x ∈ (g[i]).ln) : Rch g x.2.toNat
def CL (g : List Nd) (mk : Nat → Bool) : Prop := ∀ i (hi : i < g.length), mk i = true → ∀ x ∈ (g[i]).ln, mk x.2.toNat = true
def Only (g : List Nd) (mk : Nat → Bool) : Prop := ∀ i, mk i = true → Rch g i
theorem reach_cl {g : List Nd} {mk : Nat → Bool} (h0 : mk 0 = true) (hc : CL g mk) {i : Nat} (h : Rch g i) : mk i = true := by
  induction h with
  | zero => exact h0
  | step h hi hx ih => exact hc _ hi ih _ hx
def UnrIs (g : List Nd) (r : Int) : Prop := (r = -1 ∧ ∀ i, i < g.length → Rch g i) ∨ ∃ k : Nat, r = k ∧ k < g.length ∧ ¬ Rch g k ∧ ∀ i, i < k → Rch g i
theorem UnrIs.uniq {g : List Nd} {r s : Int} (h : UnrIs g r) (k : UnrIs g s) : r = s := by
  rcases h with ⟨h1, h2⟩ | ⟨a, h1, h2, h3, h4⟩ <;> rcases k with ⟨k1, k2⟩ | ⟨b, k1, k2, k3, k4⟩
  · omega
  · exact absurd (h2 b k2) k3
  · exact absurd (k2 a h2) h3
  · have : ¬ a < b := fun h => h3 (k4 a h)
    have : ¬ b < a := fun h => k3 (h4 b h)
    omega
noncomputable def unrI (g : List Nd) : Int := @Classical.epsilon Int ⟨0⟩ (UnrIs g)
theorem unr_is {g : List Nd} {r : Int} (h : UnrIs g r) : r = unrI g := h.uniq (@Classical.epsilon_spec Int (UnrIs g) ⟨r, h⟩)
structure AllM (g : List Nd) (mk : Nat → Bool) : Prop where
  zero : mk 0 = true
  only : Only g mk
  cl : CL g mk
theorem AllM.no {g : List Nd} {mk : Nat → Bool} (h : AllM g mk) {k : Nat} (hk : k < g.length) (hm : mk k = false) (hb : ∀ i, i < k → mk i = true) : ((k : Nat) : Int) = unrI g :=
  unr_is (.inr ⟨k, rfl, hk, fun hr => absurd ((reach_cl h.zero h.cl hr).symm.trans hm) (by simp), fun i hi => h.only i (hb i hi)⟩)
theorem AllM.yes {g : List Nd} {mk : Nat → Bool} (h : AllM g mk) (hb : ∀ i, i < g.length → mk i = true) : (-1 : Int) = unrI g :=
  unr_is (.inl ⟨rfl, fun i hi => h.only i (hb i hi)⟩)
def setB (mk : Nat → Bool) (j : Nat) (x : Nat) : Bool := if x = j then true else mk x
theorem setB_self (mk : Nat → Bool) (j : Nat) : setB mk j j = true := by simp [setB]
theorem setB_mono {mk : Nat → Bool} {j x : Nat} (h : mk x = true) : setB mk j x = true := by
  unfold setB; split
  · rfl
  · exact h
theorem setB_cases {mk : Nat → Bool} {j x : Nat} (h : setB mk j x = true) : x = j ∨ mk x = true := by
  unfold setB at h
  by_cases e : x = j
  · exact .inl e
  · rw [if_neg e] at h; exact .inr h
def lackN (n : Nat) (mk : Nat → Bool) : Nat := (List.range n).countP (fun i => !mk i)
theorem lack_le (n : Nat) (mk : Nat → Bool) : lackN n mk ≤ n := by
  have := List.countP_le_length (p := fun i => !mk i) (l := List.range n)
  simpa [lackN] using this
theorem lack_set {n j : Nat} {mk : Nat → Bool} (hj : j < n) (h : mk j = false) : lackN n (setB mk j) < lackN n mk :=
  countP_lt (fun x hx => by
    cases hm : mk x with
    | false => rfl
    | true =>
      have := setB_mono (j := j) hm
      simp [this] at hx) (List.range n) j (List.mem_range.2 hj) (by simp [h]) (by simp [setB_self])
structure DS (g : List Nd) (mk : Nat → Bool) (st : List Int) (i k : Nat) : Prop where
  zero : mk 0 = true
  only : Only g mk
  stk : ∀ s ∈ st, ∃ n : Nat, s = (n : Int) ∧ n < g.length ∧ mk n = true
  cl : ∀ j (hj : j < g.length), mk j = true → j ≠ i → (j : Int) ∈ st ∨ ∀ x ∈ (g[j]).ln, mk x.2.toNat = true
  me : ∀ (hi : i < g.length), mk i = true ∧ ∀ x ∈ (g[i]).ln.take k, mk x.2.toNat = true
theorem DS.start {g : List Nd} (h : 0 < g.length) : DS g (setB (fun _ => false) 0) [0] g.length 0 :=
  ⟨by simp [setB], fun i hi => by
    rcases setB_cases hi with rfl | h
    · exact .zero
    · exact absurd h Bool.false_ne_true, fun s hs => by
    obtain rfl := List.mem_singleton.1 hs
    exact ⟨0, rfl, h, by simp [setB]⟩, fun j hj hm _ => by
    rcases setB_cases hm with rfl | h
    · exact .inl (by simp)
    · exact absurd h Bool.false_ne_true, fun hi => absurd hi (Nat.lt_irrefl _)⟩
theorem DS.pop {g : List Nd} {mk : Nat → Bool} {st : List Int} {z : Int} (h : DS g mk (st ++ [z]) g.length 0) : ∃ n : Nat, z = (n : Int) ∧ n < g.length ∧ DS g mk st n 0 := by
  obtain ⟨n, rfl, hn, hm⟩ := h.stk z (by simp)
  refine ⟨n, rfl, hn, h.zero, h.only, fun s hs => h.stk s (by simp [hs]), fun j hj hmj hne => ?_, fun hi => ⟨hm, fun x hx => by simp at hx⟩⟩
  rcases h.cl j hj hmj om with h1 | h1
  · rcases List.mem_append.1 h1 with h2 | h2
    · exact .inl h2
    · have := List.mem_singleton.1 h2
      omega
  · exact .inr h1
theorem DS.old {g : List Nd} {mk : Nat → Bool} {st : List Int} {i k : Nat} (h : DS g mk st i k) (hi : i < g.length) (hk : k < (g[i]).ln.length) (hm : mk ((g[i]).ln[k]).2.toNat = true) : DS g mk st i (k + 1) :=
  ⟨h.zero, h.only, h.stk, h.cl, fun _ => ⟨(h.me hi).1, fun x hx => by
    rw [List.take_succ_eq_append_getElem hk] at hx
    rcases List.mem_append.1 hx with hx | hx
    · exact (h.me hi).2 x hx
    · rw [List.mem_singleton.1 hx]; exact hm⟩⟩
theorem DS.new {g : List Nd} {mk : Nat → Bool} {st : List Int} {i k t : Nat} (h : DS g mk st i k) (hi : i < g.length) (hk : k < (g[i]).ln.length) (ht : ((g[i]).ln[k]).2 = (t : Int)) (htl : t < g.length) : DS g (setB mk t) (st ++ [(t : Int)]) i (k + 1) :=
  ⟨setB_mono h.zero, fun j hj => by
    rcases setB_cases hj with rfl | hj
    · have := Rch.step (h.only i (h.me hi).1) hi (List.getElem_mem hk)
      rw [ht] at this; simpa using this
    · exact h.only j hj, fun s hs => by
    rcases List.mem_append.1 hs with hs | hs
    · obtain ⟨n, h1, h2, h3⟩ := h.stk s hs
      exact ⟨n, h1, h2, setB_mono h3⟩
    · exact ⟨t, List.mem_singleton.1 hs, htl, setB_self _ _⟩, fun j hj hm hne => by
    rcases setB_cases hm with rfl | hm
    · exact .inl (by simp)
    · rcases h.cl j hj hm hne with h1 | h1
      · exact .inl (by simp [h1])
      · exact .inr (fun x hx => setB_mono (h1 x hx)), fun _ => ⟨setB_mono (h.me hi).1, fun x hx => by
    rw [List.take_succ_eq_append_getElem hk] at hx
    rcases List.mem_append.1 hx with hx | hx
    · exact setB_mono ((h.me hi).2 x hx)
    · rw [List.mem_singleton.1 hx, ht]; simp [setB_self]⟩⟩
theorem DS.done {g : List Nd} {mk : Nat → Bool} {st : List Int} {i k : Nat} (h : DS g mk st i k) (hi : i < g.length) (hk : k = (g[i]).ln.length) : DS g mk st g.length 0 :=
  ⟨h.zero, h.only, h.stk, fun j hj hm _ => by
    by_cases e : j = i
    · subst e
      have h1 := (h.me hj).2
      rw [hk, List.take_length] at h1
      exact .inr h1
    · exact h.cl j hj hm e, fun hi => absurd hi (Nat.lt_irrefl _)⟩
theorem DS.end_ {g : List Nd} {mk : Nat → Bool} (h : DS g mk [] g.length 0) : AllM g mk :=
  ⟨h.zero, h.only, fun i hi hm x hx => by
    rcases h.cl i hi hm om with h1 | h1
    · cases h1
    · exact h1 x hx⟩
def cntN (n : Nat) (mk : Nat → Bool) : Nat := (List.range n).countP mk
theorem cnt_le (n : Nat) (mk : Nat → Bool) : cntN n mk ≤ n := by
  have := List.countP_le_length (p := mk) (l := List.range n)
  simpa [cntN] using this
structure PS (g : List Nd) (mk : Nat → Bool) (p : Nat) : Prop where
  zero : mk 0 = true
  only : Only g mk
  far : CL g mk ∨ p + 1 ≤ cntN g.length mk
structure PP (g : List Nd) (m0 mk : Nat → Bool) (i k : Nat) : Prop where
  zero : mk 0 = true
  only : Only g mk
  sup : ∀ j, m0 j = true → mk j = true
  same : CL g m0 → ∀ j, mk j = true → m0 j = true
  done : ∀ j (hj : j < g.length), j < i → m0 j = true → ∀ x ∈ (g[j]).ln, mk x.2.toNat = true
  me : ∀ (hi : i < g.length), m0 i = true → ∀ x ∈ (g[i]).ln.take k, mk x.2.toNat = true
theorem PS.start {g : List Nd} (h : 0 < g.length) : PS g (setB (fun _ => false) 0) 0 :=
  ⟨by simp [setB], fun i hi => by
    rcases setB_cases hi with rfl | h
    · exact .zero
    · exact absurd h Bool.false_ne_true, .inr (by
    have : 0 < cntN g.length (setB (fun _ => false) 0) := List.countP_pos_iff.2 ⟨0, List.mem_range.2 h, by simp [setB]⟩
    omega)⟩
theorem PP.start {g : List Nd} {mk : Nat → Bool} {p : Nat} (h : PS g mk p) : PP g mk mk 0 0 :=
  ⟨h.zero, h.only, fun _ h => h, fun _ _ h => h, fun j _ hj => by omega, fun _ _ x hx => by simp at hx⟩
theorem PP.skip {g : List Nd} {m0 mk : Nat → Bool} {i k : Nat} (h : PP g m0 mk i k) (hm : mk i = false) : PP g m0 mk i (k + 1) :=
  ⟨h.zero, h.only, h.sup, h.same, h.done, fun _ h0 => absurd ((h.sup i h0).symm.trans hm) (by simp)⟩
theorem PP.mark {g : List Nd} {m0 mk : Nat → Bool} {i k t : Nat} (h : PP g m0 mk i k) (hi : i < g.length) (hk : k < (g[i]).ln.length) (ht : ((g[i]).ln[k]).2 = (t : Int)) (hm : mk i = true) : PP g m0 (setB mk t) i (k + 1) :=
  ⟨setB_mono h.zero, fun j hj => by
    rcases setB_cases hj with rfl | hj
    · have := Rch.step (h.only i hm) hi (List.getElem_mem hk)
      rw [ht] at this; simpa using this
    · exact h.only j hj, fun j hj => setB_mono (h.sup j hj), fun hc j hj => by
    rcases setB_cases hj with rfl | hj
    · have := hc i hi (h.same hc i hm) _ (List.getElem_mem hk)
      rw [ht] at this; simpa using this
    · exact h.same hc j hj, fun j hj hji h0 x hx => setB_mono (h.done j hj hji h0 x hx), fun _ h0 x hx => by
    rw [List.take_succ_eq_append_getElem hk] at hx
    rcases List.mem_append.1 hx with hx | hx
    · exact setB_mono (h.me hi h0 x hx)
    · rw [List.mem_singleton.1 hx, ht]; simp [setB_self]⟩
theorem PP.next {g : List Nd} {m0 mk : Nat → Bool} {i k : Nat} (h : PP g m0 mk i k) (hi : i < g.length) (hk : k = (g[i]).ln.length) : PP g m0 mk (i + 1) 0 :=
  ⟨h.zero, h.only, h.sup, h.same, fun j hj hji h0 x hx => by
    by_cases e : j = i
    · subst e
      have := h.me hj h0
      rw [hk, List.take_length] at this
      exact this x hx
    · exact h.done j hj om h0 x hx, fun _ _ x hx => by simp at hx⟩
theorem PP.end_ {g : List Nd} (hr : ∀ i (hi : i < g.length), ∀ x ∈ (g[i]).ln, x.2.toNat < g.length) {m0 mk : Nat → Bool} {p : Nat} (h0 : PS g m0 p) (h : PP g m0 mk g.length 0) : PS g mk (p + 1) := by
  refine ⟨h.zero, h.only, ?_⟩
  have hcl : CL g m0 → CL g mk := fun hc i hi hm x hx => h.sup _ (hc i hi (h.same hc i hm) x hx)
  by_cases hc : CL g m0
  · exact .inl (hcl hc)
  · right
    rcases h0.far with h1 | h1
    · exact absurd h1 hc
    · have hex : ∃ i, ∃ hi : i < g.length, m0 i = true ∧ ∃ x, x ∈ (g[i]).ln ∧ m0 x.2.toNat = false := Classical.byContradiction (fun hn => hc (fun i hi hm x hx => by
        cases hv : m0 x.2.toNat with
        | true => rfl
        | false => exact absurd ⟨i, hi, hm, x, hx, hv⟩ hn))
      obtain ⟨i, hi, hm, x, hx, hv⟩ := hex
      have hnew := h.done i hi hi hm x hx
      have hl := hr i hi x hx
      have : cntN g.length m0 < cntN g.length mk := countP_lt h.sup (List.range g.length) _ (List.mem_range.2 hl) hnew hv
      omega
theorem PS.end_ {g : List Nd} {mk : Nat → Bool} (h : PS g mk g.length) : AllM g mk :=
  ⟨h.zero, h.only, by
    rcases h.far with h1 | h1
    · exact h1
    · have := cnt_le g.length mk
      omega⟩
theorem snoc_of {st : List Int} (h : 0 < st.length) : ∃ s z, st = s ++ [z] := by
  rcases List.eq_nil_or_concat st with rfl | ⟨s, z, rfl⟩
  · cases h
  · exact ⟨s, z, List.concat_eq_append⟩
theorem row_setB {n j : Nat} {mk : Nat → Bool} : row n (fun x => if x = j then Value.bool true else .bool (mk x)) = row n (fun x => .bool (setB mk j x)) :=
  row_congr (fun x _ => by by_cases e : x = j <;> simp [setB, e])
theorem gok_rng {nt nf : Nat} {g : List Nd} (h : GOk nt nf g) : ∀ i (hi : i < g.length), ∀ x ∈ (g[i]).ln, x.2.toNat < g.length := fun i hi x hx => by
  have := h.ln i hi x hx; omega
structure FOk (nt : Nat) (fs : List Ft) : Prop where
  at_ : ∀ i (h : i < fs.length), 0 ≤ (fs[i]).of ∧ (fs[i]).of < nt ∧ 0 ≤ (fs[i]).val ∧ (fs[i]).val < nt
theorem fok_of {l : List Ty} {fs : List Ft} (h : (hierFault l fs).1 = 0) : FOk l.length fs := by
  unfold hierFault at h
  by_cases h4 : 40 < fs.length
  · rw [if_pos h4] at h; cases h
  rw [if_neg h4] at h
  by_cases ht : (typesFault l).1 ≠ 0
  · rw [if_pos ht] at h; exact absurd h ht
  rw [if_neg ht] at h
  by_cases hu : (unmetF l).1 ≠ 0
  · rw [if_pos hu] at h; exact absurd h hu
  rw [if_neg hu] at h
  refine ⟨fun i hi => ?_⟩
  have h1 := firstF_zero h i (Nat.zero_le _) om
  by_cases hn : isName (fs[i]).name = false
  · rw [ft10 l.length fs i hi hn] at h1; cases h1
  have hn' : isName (fs[i]).name = true := by simpa using hn
  by_cases hs : seen ((fs.take i).map (·.name)) (fs[i]).name = true
  · rw [ft7 l.length fs i hi hn' hs] at h1; cases h1
  have hs' : seen ((fs.take i).map (·.name)) (fs[i]).name = false := by simpa using hs
  by_cases hb : ftBad l.length fs[i]
  · rw [ft3 l.length fs i hi hn' hs' hb] at h1; cases h1
  · unfold ftBad at hb; omega
theorem lnTy_at {l : List Ty} {fs : List Ft} {g : List Nd} {t : Int} {x : Int × Int} {fi ti yn on vn zn : Nat} (h1 : x.1 = (fi : Int)) (hfi : fi < fs.length) (h2 : x.2 = (ti : Int)) (hti : ti < g.length) (ht : t = (yn : Int)) (ho : (fs[fi]).of = (on : Int)) (hv : (fs[fi]).val = (vn : Int)) (hz : (g[ti]).ty = (zn : Int)) :
    lnTy l fs g t x = (!sub l yn on || !sub l zn vn) := by
  unfold lnTy ftAt ndAt
  rw [h1, h2, ht]
  have e1 : fs.getD (fi : Int).toNat ⟨⟨#[]⟩, 0, 0⟩ = fs[fi] := by simp [List.getD, hfi]
  have e2 : g.getD (ti : Int).toNat ⟨0, []⟩ = g[ti] := by simp [List.getD, hti]
  rw [e1, e2, ho, hv, hz]
  simp
noncomputable def withinF (l : List Ty) (fs : List Ft) (g : List Nd) : Fl :=
  if (looseF l.length fs.length g).1 ≠ 0 then looseF l.length fs.length g else if (tyF l fs g).1 ≠ 0 then tyF l fs g else if 0 ≤ unrI g then (5, unrI g) else (0, 0)
theorem wi_loose {l : List Ty} {fs : List Ft} {g : List Nd} (h : ¬ (looseF l.length fs.length g).1 = 0) : withinF l fs g = ((looseF l.length fs.length g).1, (looseF l.length fs.length g).2) := by unfold withinF; rw [if_pos h]
theorem wi_ty {l : List Ty} {fs : List Ft} {g : List Nd} {k : Int} (h : (looseF l.length fs.length g).1 = 0) (ht : tyF l fs g = (12, k)) : withinF l fs g = (12, k) := by
  unfold withinF; rw [if_neg (fun e => e h), ht]; rfl
theorem wi_unr {l : List Ty} {fs : List Ft} {g : List Nd} (h : (looseF l.length fs.length g).1 = 0) (ht : tyF l fs g = (0, 0)) (hu : 0 ≤ unrI g) : withinF l fs g = (5, unrI g) := by
  unfold withinF; rw [if_neg (fun e => e h), ht, if_neg (fun e => e rfl), if_pos hu]
theorem wi_zero {l : List Ty} {fs : List Ft} {g : List Nd} (h : (looseF l.length fs.length g).1 = 0) (ht : tyF l fs g = (0, 0)) (hu : ¬ 0 ≤ unrI g) : withinF l fs g = (0, 0) := by
  unfold withinF; rw [if_neg (fun e => e h), ht, if_neg (fun e => e rfl), if_neg hu]
noncomputable def graphF (l : List Ty) (fs : List Ft) (g : List Nd) : Fl := if (hierFault l fs).1 ≠ 0 then hierFault l fs else withinF l fs g
theorem gf_hier {l : List Ty} {fs : List Ft} {g : List Nd} (h : ¬ (hierFault l fs).1 = 0) : graphF l fs g = ((hierFault l fs).1, (hierFault l fs).2) := by unfold graphF; rw [if_pos h]
theorem gf_in {l : List Ty} {fs : List Ft} {g : List Nd} (h : (hierFault l fs).1 = 0) : graphF l fs g = ((withinF l fs g).1, (withinF l fs g).2) := by unfold graphF; rw [if_neg (fun e => e h)]
end Go.Proofs.YtegngekpmpdngaaDoor
