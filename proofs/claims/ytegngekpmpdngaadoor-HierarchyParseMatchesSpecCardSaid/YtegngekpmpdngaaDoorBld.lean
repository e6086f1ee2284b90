/- Feature graphs as plain values, their faults, and what is reached in them. No program in sight but for how a world holds them. The depth-first traversal of a graph as a relation, the numbers that it gives, and worlds that change in few blocks. The engine's fourth part: a check of a pointer, a slice that owns its cells opened and closed again, rows of cells told by a list. A graph in memory that nobody else can reach: its nodes may be written in place. Types and links apart. No program in sight. The engine's sixth part: copy, zeros appended to a slice, functions that the model has itself, a drawn region in which an operation changes what another one has made. strings.Builder and sums of strings: rules for them. No program in sight. -/
import Derived.Test.YtegngekpmpdngaaDoorHLaw
import Derived.Test.YtegngekpmpdngaaDoorEng2
import Derived.Lib.AppendZerosOnto
import Derived.Laws.CopyRow
import Derived.Laws.Externs
import Derived.Lib.Overlaps
import Derived.Lib.Builder
import Derived.Lib.AppendStr
import Derived.Lib.UnsafeStr
namespace Go.Proofs.YtegngekpmpdngaaDoor
open Go.RowKit
structure Nd where
  ty : Int
  ln : List (Int × Int)
theorem nd_ext {a b : Nd} (h1 : a.ty = b.ty) (h2 : a.ln = b.ln) : a = b := by
  cases a; cases b; simp only at h1 h2; rw [h1, h2]
instance : DecidableEq Nd := fun a b => decidable_of_iff (a.ty = b.ty ∧ a.ln = b.ln) ⟨fun h => nd_ext h.1 h.2, fun h => by rw [h]; exact ⟨rfl, rfl⟩⟩
def LinksIn (w : World) (A : Option Addr) (xs : List (Int × Int)) : Prop :=
  xs.length ≤ maxI ∧ (xs ≠ [] → ∃ b o, A = some ⟨b, o, none⟩ ∧ b < w.heap.size ∧ ∀ k (h : k < xs.length), w.rangeAt b (o + k * 2) [.int .i64 (xs[k]).1, .int .i64 (xs[k]).2])
theorem LinksIn.mono {w w' : World} {A : Option Addr} {xs : List (Int × Int)} (h : LinksIn w A xs) (hb : Bel w w') : LinksIn w' A xs :=
  ⟨h.1, fun hn => by
    obtain ⟨b, o, e, hl, hc⟩ := h.2 hn
    exact ⟨b, o, e, nLL hl hb.size, fun k hk => hb.range hl (hc k hk)⟩⟩
theorem LinksIn.at_ {w w' : World} {A : Option Addr} {xs : List (Int × Int)} (h : LinksIn w A xs) (hb : Bel w w') {k : Nat} (hk : k < xs.length) :
    ∃ b o, A = some ⟨b, o, none⟩ ∧ b < w.heap.size ∧ w'.rangeAt b (o + k * 2) [.int .i64 (xs[k]).1, .int .i64 (xs[k]).2] := by
  obtain ⟨b, o, e, hl, hc⟩ := h.2 (by rintro rfl; simp at hk)
  exact ⟨b, o, e, hl, hb.range hl (hc k hk)⟩
def NdIn (w : World) (b o : Nat) (n : Nd) : Prop := ∃ A c, w.rangeAt b o [.int .i64 n.ty, .slice A n.ln.length c] ∧ LinksIn w A n.ln
def NodesIn (w : World) (A : Option Addr) (g : List Nd) : Prop :=
  g.length ≤ maxI ∧ (g ≠ [] → ∃ b o, A = some ⟨b, o, none⟩ ∧ b < w.heap.size ∧ ∀ k (h : k < g.length), NdIn w b (o + k * 2) g[k])
theorem NdIn.mono {w w' : World} {b o : Nat} {n : Nd} (h : NdIn w b o n) (hb : Bel w w') (hl : b < w.heap.size) : NdIn w' b o n := by
  obtain ⟨A, c, h1, h2⟩ := h
  exact ⟨A, c, hb.range hl h1, h2.mono hb⟩
theorem NodesIn.mono {w w' : World} {A : Option Addr} {g : List Nd} (h : NodesIn w A g) (hb : Bel w w') : NodesIn w' A g :=
  ⟨h.1, fun hn => by
    obtain ⟨b, o, e, hl, hc⟩ := h.2 hn
    exact ⟨b, o, e, nLL hl hb.size, fun k hk => (hc k hk).mono hb hl⟩⟩
theorem NodesIn.at_ {w w' : World} {A : Option Addr} {g : List Nd} (h : NodesIn w A g) (hb : Bel w w') {k : Nat} (hk : k < g.length) :
    ∃ b o A' c, A = some ⟨b, o, none⟩ ∧ b < w.heap.size ∧ w'.rangeAt b (o + k * 2) [.int .i64 (g[k]).ty, .slice A' (g[k]).ln.length c] ∧ LinksIn w A' (g[k]).ln := by
  obtain ⟨b, o, e, hl, hc⟩ := h.2 (by rintro rfl; simp at hk)
  obtain ⟨A', c, h1, h2⟩ := hc k hk
  exact ⟨b, o, A', c, e, hl, hb.range hl h1, h2⟩
def lnBad (nf n : Nat) (x : Int × Int) : Prop := x.1 < 0 ∨ (nf : Int) ≤ x.1 ∨ x.2 < 0 ∨ (n : Int) ≤ x.2
instance (nf n : Nat) (x : Int × Int) : Decidable (lnBad nf n x) := by unfold lnBad; infer_instance
def lnFault (nf n : Nat) : Int → List (Int × Int) → Int
  | _, [] => 0
  | last, x :: xs => if lnBad nf n x then 3 else if x.1 ≤ last then 13 else lnFault nf n x.1 xs
def ndFault (nt nf n : Nat) (x : Nd) : Int := if x.ty < 0 ∨ (nt : Int) ≤ x.ty then 3 else lnFault nf n (-1) x.ln
def looseN (nt nf : Nat) (g : List Nd) (i : Nat) : Int := match g[i]? with
  | none => 0
  | some x => ndFault nt nf g.length x
def looseF (nt nf : Nat) (g : List Nd) : Fl := if g.length = 0 ∨ 60 < g.length then (2, -2) else firstF (looseN nt nf g) 0 g.length
structure GOk (nt nf : Nat) (g : List Nd) : Prop where
  pos : 0 < g.length
  le : g.length ≤ 60
  ty : ∀ i (h : i < g.length), 0 ≤ (g[i]).ty ∧ (g[i]).ty < nt
  ln : ∀ i (h : i < g.length), ∀ x ∈ (g[i]).ln, 0 ≤ x.1 ∧ x.1 < nf ∧ 0 ≤ x.2 ∧ x.2 < g.length
  few : ∀ i (h : i < g.length), (g[i]).ln.length ≤ nf
structure GOk2 (nf : Nat) (g : List Nd) : Prop where
  pos : 0 < g.length
  le : g.length ≤ 1000000
  ln : ∀ i (h : i < g.length), ∀ x ∈ (g[i]).ln, 0 ≤ x.1 ∧ x.1 < nf ∧ 0 ≤ x.2 ∧ x.2 < g.length
  few : ∀ i (h : i < g.length), (g[i]).ln.length ≤ nf
def ftAt (fs : List Ft) (z : Int) : Ft := fs.getD z.toNat ⟨⟨#[]⟩, 0, 0⟩
def ndAt (g : List Nd) (z : Int) : Nd := g.getD z.toNat ⟨0, []⟩
def lnTy (l : List Ty) (fs : List Ft) (g : List Nd) (t : Int) (x : Int × Int) : Bool :=
  !(sub l t.toNat (ftAt fs x.1).of.toNat) || !(sub l (ndAt g x.2).ty.toNat (ftAt fs x.1).val.toNat)
def tyN (l : List Ty) (fs : List Ft) (g : List Nd) (i : Nat) : Int := match g[i]? with
  | none => 0
  | some x => if x.ln.any (lnTy l fs g x.ty) then 12 else 0
def tyF (l : List Ty) (fs : List Ft) (g : List Nd) : Fl := firstF (tyN l fs g) 0 g.length
inductive Rch (g : List Nd) : Nat → Prop
  | zero : Rch g 0
  | step {i : Nat} {x : Int × Int} (h : Rch g i) (hi : i < g.length) (hx : x ∈ (g[i]).ln) : Rch g x.2.toNat
def CL (g : List Nd) (mk : Nat → Bool) : Prop := ∀ i (hi : i < g.length), mk i = true → ∀ x ∈ (g[i]).ln, mk x.2.toNat = true
def Only (g : List Nd) (mk : Nat → Bool) : Prop := ∀ i, mk i = true → Rch g i
theorem reach_cl {g : List Nd} {mk : Nat → Bool} (h0 : mk 0 = true) (hc : CL g mk) {i : Nat} (h : Rch g i) : mk i = true := by
  induction h with
  | zero => exact h0
  | step h hi hx ih => exact hc _ hi ih _ hx
def UnrIs (g : List Nd) (r : Int) : Prop := (r = -1 ∧ ∀ i, i < g.length → Rch g i) ∨ ∃ k : Nat, r = k ∧ k < g.length ∧ ¬ Rch g k ∧ ∀ i, i < k → Rch g i
theorem UnrIs.uniq {g : List Nd} {r s : Int} (h : UnrIs g r) (k : UnrIs g s) : r = s := by
  rcases h with ⟨h1, h2⟩ | ⟨a, h1, h2, h3, h4⟩ <;> rcases k with ⟨k1, k2⟩ | ⟨b, k1, k2, k3, k4⟩
  · omega
  · exact absurd (h2 b k2) k3
  · exact absurd (k2 a h2) h3
  · have : ¬ a < b := fun h => h3 (k4 a h)
    have : ¬ b < a := fun h => k3 (h4 b h)
    omega
noncomputable def unrI (g : List Nd) : Int := @Classical.epsilon Int ⟨0⟩ (UnrIs g)
theorem unr_is {g : List Nd} {r : Int} (h : UnrIs g r) : r = unrI g := h.uniq (@Classical.epsilon_spec Int (UnrIs g) ⟨r, h⟩)
structure AllM (g : List Nd) (mk : Nat → Bool) : Prop where
  zero : mk 0 = true
  only : Only g mk
  cl : CL g mk
theorem AllM.no {g : List Nd} {mk : Nat → Bool} (h : AllM g mk) {k : Nat} (hk : k < g.length) (hm : mk k = false) (hb : ∀ i, i < k → mk i = true) : ((k : Nat) : Int) = unrI g :=
  unr_is (.inr ⟨k, rfl, hk, fun hr => absurd ((reach_cl h.zero h.cl hr).symm.trans hm) (by simp), fun i hi => h.only i (hb i hi)⟩)
theorem AllM.yes {g : List Nd} {mk : Nat → Bool} (h : AllM g mk) (hb : ∀ i, i < g.length → mk i = true) : (-1 : Int) = unrI g :=
  unr_is (.inl ⟨rfl, fun i hi => h.only i (hb i hi)⟩)
def setB (mk : Nat → Bool) (j : Nat) (x : Nat) : Bool := if x = j then true else mk x
theorem setB_self (mk : Nat → Bool) (j : Nat) : setB mk j j = true := by simp [setB]
theorem setB_mono {mk : Nat → Bool} {j x : Nat} (h : mk x = true) : setB mk j x = true := by
  unfold setB; split
  · rfl
  · exact h
theorem setB_cases {mk : Nat → Bool} {j x : Nat} (h : setB mk j x = true) : x = j ∨ mk x = true := by
  unfold setB at h
  by_cases e : x = j
  · exact .inl e
  · rw [if_neg e] at h; exact .inr h
def lackN (n : Nat) (mk : Nat → Bool) : Nat := (List.range n).countP (fun i => !mk i)
theorem lack_le (n : Nat) (mk : Nat → Bool) : lackN n mk ≤ n := by
  have := List.countP_le_length (p := fun i => !mk i) (l := List.range n)
  simpa [lackN] using this
structure DS (g : List Nd) (mk : Nat → Bool) (st : List Int) (i k : Nat) : Prop where
  zero : mk 0 = true
  only : Only g mk
  stk : ∀ s ∈ st, ∃ n : Nat, s = (n : Int) ∧ n < g.length ∧ mk n = true
  cl : ∀ j (hj : j < g.length), mk j = true → j ≠ i → (j : Int) ∈ st ∨ ∀ x ∈ (g[j]).ln, mk x.2.toNat = true
  me : ∀ (hi : i < g.length), mk i = true ∧ ∀ x ∈ (g[i]).ln.take k, mk x.2.toNat = true
theorem DS.start {g : List Nd} (h : 0 < g.length) : DS g (setB (fun _ => false) 0) [0] g.length 0 :=
  ⟨by simp [setB], fun i hi => by
    rcases setB_cases hi with rfl | h
    · exact .zero
    · exact absurd h Bool.false_ne_true, fun s hs => by
    obtain rfl := List.mem_singleton.1 hs
    exact ⟨0, rfl, h, by simp [setB]⟩, fun j hj hm _ => by
    rcases setB_cases hm with rfl | h
    · exact .inl (by simp)
    · exact absurd h Bool.false_ne_true, fun hi => absurd hi (Nat.lt_irrefl _)⟩
theorem DS.old {g : List Nd} {mk : Nat → Bool} {st : List Int} {i k : Nat} (h : DS g mk st i k) (hi : i < g.length) (hk : k < (g[i]).ln.length) (hm : mk ((g[i]).ln[k]).2.toNat = true) : DS g mk st i (k + 1) :=
  ⟨h.zero, h.only, h.stk, h.cl, fun _ => ⟨(h.me hi).1, fun x hx => by
    rw [List.take_succ_eq_append_getElem hk] at hx
    rcases List.mem_append.1 hx with hx | hx
    · exact (h.me hi).2 x hx
    · rw [List.mem_singleton.1 hx]; exact hm⟩⟩
theorem DS.new {g : List Nd} {mk : Nat → Bool} {st : List Int} {i k t : Nat} (h : DS g mk st i k) (hi : i < g.length) (hk : k < (g[i]).ln.length) (ht : ((g[i]).ln[k]).2 = (t : Int)) (htl : t < g.length) : DS g (setB mk t) (st ++ [(t : Int)]) i (k + 1) :=
  ⟨setB_mono h.zero, fun j hj => by
    rcases setB_cases hj with rfl | hj
    · have := Rch.step (h.only i (h.me hi).1) hi (List.getElem_mem hk)
      rw [ht] at this; simpa using this
    · exact h.only j hj, fun s hs => by
    rcases List.mem_append.1 hs with hs | hs
    · obtain ⟨n, h1, h2, h3⟩ := h.stk s hs
      exact ⟨n, h1, h2, setB_mono h3⟩
    · exact ⟨t, List.mem_singleton.1 hs, htl, setB_self _ _⟩, fun j hj hm hne => by
    rcases setB_cases hm with rfl | hm
    · exact .inl (by simp)
    · rcases h.cl j hj hm hne with h1 | h1
      · exact .inl (by simp [h1])
      · exact .inr (fun x hx => setB_mono (h1 x hx)), fun _ => ⟨setB_mono (h.me hi).1, fun x hx => by
    rw [List.take_succ_eq_append_getElem hk] at hx
    rcases List.mem_append.1 hx with hx | hx
    · exact setB_mono ((h.me hi).2 x hx)
    · rw [List.mem_singleton.1 hx, ht]; simp [setB_self]⟩⟩
theorem DS.done {g : List Nd} {mk : Nat → Bool} {st : List Int} {i k : Nat} (h : DS g mk st i k) (hi : i < g.length) (hk : k = (g[i]).ln.length) : DS g mk st g.length 0 :=
  ⟨h.zero, h.only, h.stk, fun j hj hm _ => by
    by_cases e : j = i
    · subst e
      have h1 := (h.me hj).2
      rw [hk, List.take_length] at h1
      exact .inr h1
    · exact h.cl j hj hm e, fun hi => absurd hi (Nat.lt_irrefl _)⟩
theorem DS.end_ {g : List Nd} {mk : Nat → Bool} (h : DS g mk [] g.length 0) : AllM g mk :=
  ⟨h.zero, h.only, fun i hi hm x hx => by
    rcases h.cl i hi hm om with h1 | h1
    · cases h1
    · exact h1 x hx⟩
def cntN (n : Nat) (mk : Nat → Bool) : Nat := (List.range n).countP mk
theorem cnt_le (n : Nat) (mk : Nat → Bool) : cntN n mk ≤ n := by
  have := List.countP_le_length (p := mk) (l := List.range n)
  simpa [cntN] using this
structure PS (g : List Nd) (mk : Nat → Bool) (p : Nat) : Prop where
  zero : mk 0 = true
  only : Only g mk
  far : CL g mk ∨ p + 1 ≤ cntN g.length mk
structure PP (g : List Nd) (m0 mk : Nat → Bool) (i k : Nat) : Prop where
  zero : mk 0 = true
  only : Only g mk
  sup : ∀ j, m0 j = true → mk j = true
  same : CL g m0 → ∀ j, mk j = true → m0 j = true
  done : ∀ j (hj : j < g.length), j < i → m0 j = true → ∀ x ∈ (g[j]).ln, mk x.2.toNat = true
  me : ∀ (hi : i < g.length), m0 i = true → ∀ x ∈ (g[i]).ln.take k, mk x.2.toNat = true
theorem PS.start {g : List Nd} (h : 0 < g.length) : PS g (setB (fun _ => false) 0) 0 :=
  ⟨by simp [setB], fun i hi => by
    rcases setB_cases hi with rfl | h
    · exact .zero
    · exact absurd h Bool.false_ne_true, .inr (by
    have : 0 < cntN g.length (setB (fun _ => false) 0) := List.countP_pos_iff.2 ⟨0, List.mem_range.2 h, by simp [setB]⟩
    omega)⟩
theorem PP.start {g : List Nd} {mk : Nat → Bool} {p : Nat} (h : PS g mk p) : PP g mk mk 0 0 :=
  ⟨h.zero, h.only, fun _ h => h, fun _ _ h => h, fun j _ hj => by omega, fun _ _ x hx => by simp at hx⟩
theorem PP.skip {g : List Nd} {m0 mk : Nat → Bool} {i k : Nat} (h : PP g m0 mk i k) (hm : mk i = false) : PP g m0 mk i (k + 1) :=
  ⟨h.zero, h.only, h.sup, h.same, h.done, fun _ h0 => absurd ((h.sup i h0).symm.trans hm) (by simp)⟩
theorem PP.next {g : List Nd} {m0 mk : Nat → Bool} {i k : Nat} (h : PP g m0 mk i k) (hi : i < g.length) (hk : k = (g[i]).ln.length) : PP g m0 mk (i + 1) 0 :=
  ⟨h.zero, h.only, h.sup, h.same, fun j hj hji h0 x hx => by
    by_cases e : j = i
    · subst e
      have := h.me hj h0
      rw [hk, List.take_length] at this
      exact this x hx
    · exact h.done j hj om h0 x hx, fun _ _ x hx => by simp at hx⟩
theorem PP.end_ {g : List Nd} (hr : ∀ i (hi : i < g.length), ∀ x ∈ (g[i]).ln, x.2.toNat < g.length) {m0 mk : Nat → Bool} {p : Nat} (h0 : PS g m0 p) (h : PP g m0 mk g.length 0) : PS g mk (p + 1) := by
  refine ⟨h.zero, h.only, ?_⟩
  have hcl : CL g m0 → CL g mk := fun hc i hi hm x hx => h.sup _ (hc i hi (h.same hc i hm) x hx)
  by_cases hc : CL g m0
  · exact .inl (hcl hc)
  · right
    rcases h0.far with h1 | h1
    · exact absurd h1 hc
    · have hex : ∃ i, ∃ hi : i < g.length, m0 i = true ∧ ∃ x, x ∈ (g[i]).ln ∧ m0 x.2.toNat = false := Classical.byContradiction (fun hn => hc (fun i hi hm x hx => by
        cases hv : m0 x.2.toNat with
        | true => rfl
        | false => exact absurd ⟨i, hi, hm, x, hx, hv⟩ hn))
      obtain ⟨i, hi, hm, x, hx, hv⟩ := hex
      have hnew := h.done i hi hi hm x hx
      have hl := hr i hi x hx
      have : cntN g.length m0 < cntN g.length mk := countP_lt h.sup (List.range g.length) _ (List.mem_range.2 hl) hnew hv
      omega
theorem PS.end_ {g : List Nd} {mk : Nat → Bool} (h : PS g mk g.length) : AllM g mk :=
  ⟨h.zero, h.only, by
    rcases h.far with h1 | h1
    · exact h1
    · have := cnt_le g.length mk
      omega⟩
structure FOk (nt : Nat) (fs : List Ft) : Prop where
  at_ : ∀ i (h : i < fs.length), 0 ≤ (fs[i]).of ∧ (fs[i]).of < nt ∧ 0 ≤ (fs[i]).val ∧ (fs[i]).val < nt
end Go.Proofs.YtegngekpmpdngaaDoor
namespace Go.Proofs.YtegngekpmpdngaaDoor
open Go.RowKit
def nd (g : List Nd) (i : Nat) : Nd := g.getD i ⟨0, []⟩
theorem nd_eq {g : List Nd} {i : Nat} (hi : i < g.length) : nd g i = g[i] := by simp [nd, List.getD, hi]
def succN (g : List Nd) (i : Nat) : List Nat := (nd g i).ln.map (fun x => x.2.toNat)
inductive DL (g : List Nd) : List Nat → List Nat → List Nat → Prop
  | nil {o : List Nat} : DL g [] o o
  | old {i : Nat} {is o o' : List Nat} (h : i ∈ o) (t : DL g is o o') : DL g (i :: is) o o'
  | new {i : Nat} {is o o1 o' : List Nat} (h : ¬ i ∈ o) (s : DL g (succN g i) (o ++ [i]) o1) (t : DL g is o1 o') : DL g (i :: is) o o'
theorem DL.append {g : List Nd} {xs a b : List Nat} (h : DL g xs a b) : ∀ {ys c : List Nat}, DL g ys b c → DL g (xs ++ ys) a c := by
  induction h with
  | nil => intro ys c k; exact k
  | old h t ih => intro ys c k; exact .old h (ih k)
  | new h s t ihs iht => intro ys c k; exact .new h s (iht k)
def memB (o : List Nat) (x : Nat) : Bool := decide (x ∈ o)
structure OOk (n : Nat) (o : List Nat) : Prop where
  lt : ∀ x ∈ o, x < n
  cnt : o.length + lackN n (memB o) ≤ n
theorem OOk.nil (n : Nat) : OOk n [] := ⟨fun x hx => by simp at hx, by have := lack_le n (memB []); simpa using this⟩
theorem lack_snoc {n i : Nat} {o : List Nat} (hi : i < n) (h : ¬ i ∈ o) : lackN n (memB (o ++ [i])) < lackN n (memB o) :=
  countP_lt (fun x hx => by
    simp only [memB, Bool.not_eq_true', decide_eq_false_iff_not, List.mem_append, not_or] at hx ⊢
    exact hx.1) (List.range n) i (List.mem_range.2 hi) (by simp [memB, h]) (by simp [memB])
theorem OOk.snoc {n i : Nat} {o : List Nat} (h : OOk n o) (hi : i < n) (hn : ¬ i ∈ o) : OOk n (o ++ [i]) :=
  ⟨fun x hx => by
    rcases List.mem_append.1 hx with hx | hx
    · exact h.lt x hx
    · rw [List.mem_singleton.1 hx]; exact hi, by
    have h1 := lack_snoc hi hn
    have h2 := h.cnt
    simp only [List.length_append, List.length_cons, List.length_nil]
    omega⟩
theorem DL.ok {g : List Nd} (hr : ∀ i, i < g.length → ∀ t ∈ succN g i, t < g.length) {is o o' : List Nat} (h : DL g is o o') : (∀ i ∈ is, i < g.length) → OOk g.length o → OOk g.length o' ∧ ∃ s, o' = o ++ s := by
  induction h with
  | nil => intro _ k; exact ⟨k, [], by simp⟩
  | old h t ih => intro hi k; exact ih (fun i h => hi i (List.mem_cons_of_mem _ h)) k
  | new h s t ihs iht =>
    intro hi k
    have hlt := hi _ (List.mem_cons_self ..)
    obtain ⟨h1, s1, e1⟩ := ihs (hr _ hlt) (k.snoc hlt h)
    obtain ⟨h2, s2, e2⟩ := iht (fun i h => hi i (List.mem_cons_of_mem _ h)) h1
    exact ⟨h2, _, by rw [e2, e1, List.append_assoc, List.append_assoc]⟩
def numO (o : List Nat) (x : Nat) : Int := if x ∈ o then (o.idxOf x : Nat) else -1
structure Chg (base : Nat) (X : List Nat) (w w' : World) : Prop where
  os : w'.os = w.os
  tape : w'.tape = w.tape
  output : w'.output = w.output
  size : w.heap.size ≤ w'.heap.size
  blk : ∀ k, k < base → ¬ k ∈ X → w'.heap[k]? = w.heap[k]?
theorem Chg.refl (base : Nat) (X : List Nat) (w : World) : Chg base X w w := ⟨rfl, rfl, rfl, Nat.le_refl _, fun _ _ _ => rfl⟩
theorem Chg.trans {base : Nat} {X : List Nat} {a b c : World} (h : Chg base X a b) (k : Chg base X b c) : Chg base X a c :=
  ⟨k.os.trans h.os, k.tape.trans h.tape, k.output.trans h.output, nLT h.size k.size, fun i hi hx => (k.blk i hi hx).trans (h.blk i hi hx)⟩
theorem Chg.st {base : Nat} {X Y : List Nat} {a b c : World} (h : Chg base X a b) (k : Same Y b c) (hb : base ≤ b.heap.size) (hy : ∀ g ∈ Y, g ∈ X ∨ base ≤ g) : Chg base X a c :=
  h.trans ⟨k.os, k.tape, k.output, k.size, fun i hi hx => k.blk i (nLL hi hb) (fun hm => by
    rcases hy i hm with h1 | h1
    · exact hx h1
    · omega)⟩
def canL (o : List Nat) (x : Int × Int) : Int × Int := (x.1, numO o x.2.toNat)
def canN (g : List Nd) (o : List Nat) (i : Nat) : Nd := ⟨(nd g i).ty, (nd g i).ln.map (canL o)⟩
def canG (g : List Nd) (o : List Nat) : List Nd := o.map (canN g o)
def lnV (xs : List (Int × Int)) : List Value := xs.flatMap (fun x => [Value.int .i64 x.1, Value.int .i64 x.2])
structure FrSame (B : Nat) (w w2 : World) : Prop where
  size : w.heap.size ≤ w2.heap.size
  blk : ∀ k, B ≤ k → k < w.heap.size → w2.heap[k]? = w.heap[k]?
theorem FrSame.of {B : Nat} {w0 w w' : World} {X : List Nat} (h : FrSame B w0 w) (hs : Same X w w') (hx : ∀ g ∈ X, g < B ∨ w0.heap.size ≤ g) : FrSame B w0 w' :=
  ⟨nLT h.size hs.size, fun k hk hk2 => by
    rw [hs.blk k (nLL hk2 h.size) (fun hm => by have := hx k hm; omega)]
    exact h.blk k hk hk2⟩
theorem FrSame.refl (B : Nat) (w : World) : FrSame B w w := ⟨Nat.le_refl _, fun _ _ _ => rfl⟩
theorem FrSame.at_ {B b t : Nat} {w w2 : World} {cs : Array Value} (h : FrSame B w w2) (hb : Blk w b t cs) (hl : B ≤ b) : Blk w2 b t cs := (h.blk b hl hb.lt).trans hb
def RowO (w : World) (lo bs : Nat) (v : Value) (xs : List (Int × Int)) : Prop := ∃ A c, v = .slice A xs.length c ∧ Own w lo 30 2 A xs.length c (lnV xs) ∧ ∀ g ∈ aL A, g < bs
theorem Own.typ {w : World} {base : Nat} {e : TypeId} {sz : Nat} {A : Option Addr} {k cap : Nat} {xs : List Value} (h : Own w base e sz A k cap xs) : ∀ g ∈ aL A, ∃ cs, Blk w g e cs := fun g hg => by
  rcases h.2 with ⟨hn, _⟩ | ⟨g', c, cur, hv, hb, hgg, r⟩
  · cases hn; cases hg
  · cases hv
    simp only [aL, List.mem_singleton] at hg
    subst hg; exact ⟨cur, hgg⟩
theorem RowO.tr {w w' : World} {lo bs : Nat} {v : Value} {xs : List (Int × Int)} {X : List Nat} (h : RowO w lo bs v xs) (hs : Same X w w') (hx : ∀ g ∈ X, bs ≤ g ∨ ∃ cs t, Blk w g t cs ∧ t ≠ 30) : RowO w' lo bs v xs := by
  obtain ⟨A, c, h1, h2, h3⟩ := h
  refine ⟨A, c, h1, h2.tr hs (fun g hg hm => ?_), h3⟩
  rcases hx g hm with h4 | ⟨cs, t, h4, h5⟩
  · have := h3 g hg; omega
  · obtain ⟨cs2, h6⟩ := h2.typ g hg
    exact h5 (blk_type h4 h6)
theorem RowO.up {w : World} {lo bs bs' : Nat} {v : Value} {xs : List (Int × Int)} (h : RowO w lo bs v xs) (hb : bs ≤ bs') : RowO w lo bs' v xs := by
  obtain ⟨A, c, h1, h2, h3⟩ := h
  exact ⟨A, c, h1, h2, fun g hg => nLL (h3 g hg) hb⟩
theorem RowO.of {w : World} {lo base : Nat} {A : Option Addr} {cap : Nat} {xs : List (Int × Int)} (hl : lo ≤ base) (h : Own w base 30 2 A xs.length cap (lnV xs)) : RowO w lo w.heap.size (.slice A xs.length cap) xs := ⟨A, cap, rfl, h.low hl, fun g hg => (h.lt g hg).2⟩
theorem RowO.fr {w w2 : World} {lo bs : Nat} {v : Value} {xs : List (Int × Int)} (h : RowO w lo bs v xs) (hf : FrSame lo w w2) : RowO w2 lo bs v xs := by
  obtain ⟨A, c, h1, h2, h3⟩ := h
  refine ⟨A, c, h1, ⟨h2.1, ?_⟩, h3⟩
  rcases h2.2 with hn | ⟨g, c, cur, hv, hb, hg, r⟩
  · exact .inl hn
  · exact .inr ⟨g, c, cur, hv, hb, (hf.blk g hb (lt_of_heap hg)).trans hg, r⟩
def OrdF (w : World) (bn bd : Nat) (A : Option Addr) (o : List Nat) : Prop :=
  (o = [] ∧ A = none) ∨ (o ≠ [] ∧ ∃ b, A = some ⟨b, 0, none⟩ ∧ b ≠ bn ∧ b < bd ∧ b < w.heap.size ∧ ∀ k (hk : k < o.length), w.cell? ⟨b, 0 + k, none⟩ = some (.int .i64 (o[k] : Nat)))
theorem OrdF.nil (w : World) (bn bd : Nat) : OrdF w bn bd none [] := .inl ⟨rfl, rfl⟩
theorem OrdF.tr {w w' : World} {bn bd : Nat} {A : Option Addr} {o : List Nat} {X : List Nat} (h : OrdF w bn bd A o) (hs : Same X w w') (hx : ∀ g ∈ X, g = bn ∨ bd ≤ g) : OrdF w' bn bd A o := by
  rcases h with h | ⟨h1, b, h2, h3, h4, h5, h6⟩
  · exact .inl h
  · refine .inr ⟨h1, b, h2, h3, h4, nLL h5 hs.size, fun k hk => ?_⟩
    rw [World.cell?_of_block (hs.blk b h5 (fun hm => by rcases hx b hm with h | h <;> omega))]
    exact h6 k hk
theorem OrdF.up {w : World} {bn bd bd' : Nat} {A : Option Addr} {o : List Nat} (h : OrdF w bn bd A o) (hb : bd ≤ bd') : OrdF w bn bd' A o := by
  rcases h with h | ⟨h1, b, h2, h3, h4, h5, h6⟩
  · exact .inl h
  · exact .inr ⟨h1, b, h2, h3, nLL h4 hb, h5, h6⟩
def ndV (f h : Nat → Value) (k : Nat) : List Value := (List.range k).flatMap (fun x => [f x, h x])
theorem ndV_snoc (f h : Nat → Value) (k : Nat) : ndV f h (k + 1) = ndV f h k ++ [f k, h k] := by simp [ndV, List.range_succ, List.flatMap_append]
theorem ndV_congr {f f' h h' : Nat → Value} : ∀ {k : Nat}, (∀ x, x < k → f x = f' x) → (∀ x, x < k → h x = h' x) → ndV f h k = ndV f' h' k
  | 0, _, _ => rfl
  | k + 1, h1, h2 => by rw [ndV_snoc, ndV_snoc, ndV_congr (fun x hx => h1 x om) (fun x hx => h2 x om), h1 k om, h2 k om]
theorem ndV_len (f h : Nat → Value) : ∀ k, (ndV f h k).length = k * 2
  | 0 => rfl
  | k + 1 => by rw [ndV_snoc, List.length_append, ndV_len f h k]; simp only [List.length_cons, List.length_nil]; omega
theorem ndV_get (f h : Nat → Value) : ∀ {k x : Nat}, x < k → (ndV f h k)[x * 2]? = some (f x) ∧ (ndV f h k)[x * 2 + 1]? = some (h x)
  | 0, _, hx => by omega
  | k + 1, x, hx => by
    have hl := ndV_len f h k
    rw [ndV_snoc]
    by_cases e : x < k
    · have ih := ndV_get f h e
      rw [List.getElem?_append_left om, List.getElem?_append_left om]
      exact ih
    · have e2 : x = k := by omega
      subst e2
      rw [List.getElem?_append_right om, List.getElem?_append_right om, hl]
      have e3 : x * 2 - x * 2 = 0 := by omega
      have e4 : x * 2 + 1 - x * 2 = 1 := by omega
      rw [e3, e4]; exact ⟨rfl, rfl⟩
theorem Own.fr {w w2 : World} {lo base : Nat} {e : TypeId} {sz : Nat} {A : Option Addr} {k cap : Nat} {xs : List Value} (h : Own w base e sz A k cap xs) (hl : lo ≤ base) (hf : FrSame lo w w2) : Own w2 base e sz A k cap xs := by
  refine ⟨h.1, ?_⟩
  rcases h.2 with hn | ⟨g, c, cur, hv, hb, hg, r⟩
  · exact .inl hn
  · exact .inr ⟨g, c, cur, hv, hb, (hf.blk g (nLT hl hb) (lt_of_heap hg)).trans hg, r⟩
end Go.Proofs.YtegngekpmpdngaaDoor
namespace Go.Proofs.YtegngekpmpdngaaDoor
open Go.RowKit
section eng4
variable {P : Program} {Q : Exit → Act → World → Prop} {n : Nat} {f : Fr} {w w' : World} {ops : Array Oper} {rest : List Oper} {d : Tmp} {ty t e : TypeId} {pos : String} {af : Array Edge} {x y : Operand}
variable {base sz k cap : Nat} {A : Option Addr} {xs : List Value}
theorem Own.open_ (h : Own w base e sz A k cap xs) (hk : 0 < k) : ∃ (g : Nat) (cur : Array Value), A = some ⟨g, 0, none⟩ ∧ base ≤ g ∧ Blk w g e cur ∧ k * sz ≤ cur.size ∧ (∀ j, j < k * sz → cur[j]? = xs[j]?) ∧ ∀ w1 o v, Blk w1 g e (cur.setIfInBounds o v) → Own w1 base e sz (some ⟨g, 0, none⟩) k cap (xs.set o v) := by
  rcases h.2 with ⟨_, hn⟩ | ⟨g, c, cur, hv, hb, hg, hkc, hm, hs, ht⟩
  · omega
  · cases hv
    have hle : k * sz ≤ cap * sz := Nat.mul_le_mul_right sz hkc
    refine ⟨g, cur, rfl, hb, hg, by omega, fun j hj => ?_, fun w1 o v hw => ⟨by rw [List.length_set]; exact h.1, .inr ⟨g, cap, _, rfl, hb, hw, hkc, hm, by rw [Array.size_setIfInBounds]; exact hs, ?_⟩⟩⟩
    · rw [← ht, List.getElem?_take_of_lt hj]; simp
    · rw [Array.toList_setIfInBounds, List.take_set, ht]
theorem own_ne {b1 b2 s1 s2 k1 k2 c1 c2 : Nat} {e1 e2 : TypeId} {A1 A2 : Option Addr} {x1 x2 : List Value} (h : Own w b1 e1 s1 A1 k1 c1 x1) (k : Own w b2 e2 s2 A2 k2 c2 x2) (hne : e1 ≠ e2) : ∀ g ∈ aL A1, ¬ g ∈ aL A2 := fun g h1 h2 => by
  have ht : ∀ {b s k c : Nat} {e : TypeId} {A : Option Addr} {x : List Value}, Own w b e s A k c x → g ∈ aL A → ∃ cs, Blk w g e cs := fun h hg => by
    rcases h.2 with ⟨hv, _⟩ | ⟨g', c', cur, hv, _, hb, _⟩
    · cases hv; cases hg
    · cases hv
      simp only [aL, List.mem_singleton] at hg
      subst hg; exact ⟨cur, hb⟩
  obtain ⟨c1, q1⟩ := ht h h1
  obtain ⟨c2, q2⟩ := ht k h2
  exact hne (blk_type q1 q2)
end eng4
end Go.Proofs.YtegngekpmpdngaaDoor
namespace Go.Proofs.YtegngekpmpdngaaDoor
open Go.RowKit
def SameQ (X : List Nat) (w w' : World) : Prop := Same X w w'
theorem SameQ.trans {X : List Nat} {a b c : World} (h : SameQ X a b) {Y : List Nat} (k : Same Y b c) (hy : ∀ g ∈ Y, g ∈ X) : SameQ X a c := Same.trans h (k.weak hy)
structure ChG (Z : Nat → Prop) (w w' : World) : Prop where
  os : w'.os = w.os
  tape : w'.tape = w.tape
  output : w'.output = w.output
  size : w.heap.size ≤ w'.heap.size
  blk : ∀ k, k < w.heap.size → ¬ Z k → w'.heap[k]? = w.heap[k]?
theorem ChG.refl (Z : Nat → Prop) (w : World) : ChG Z w w := ⟨rfl, rfl, rfl, Nat.le_refl _, fun _ _ _ => rfl⟩
theorem ChG.st {Z : Nat → Prop} {Y : List Nat} {a b c : World} (h : ChG Z a b) (k : Same Y b c) (hy : ∀ g ∈ Y, Z g ∨ a.heap.size ≤ g) : ChG Z a c :=
  ⟨k.os.trans h.os, k.tape.trans h.tape, k.output.trans h.output, nLT h.size k.size, fun i hi hx => (k.blk i (nLL hi h.size) (fun hm => (hy i hm).elim hx (fun h2 => by omega))).trans (h.blk i hi hx)⟩
theorem ChG.trans {Z Z' : Nat → Prop} {a b c : World} (h : ChG Z a b) (k : ChG Z' b c) (hz : ∀ g, Z' g → Z g ∨ a.heap.size ≤ g) : ChG Z a c :=
  ⟨k.os.trans h.os, k.tape.trans h.tape, k.output.trans h.output, nLT h.size k.size, fun i hi hx => (k.blk i (nLL hi h.size) (fun hm => (hz i hm).elim hx (fun h2 => by omega))).trans (h.blk i hi hx)⟩
theorem ChG.bel {Z : Nat → Prop} {w w' : World} (h : Bel w w') : ChG Z w w' := ⟨h.os, h.tape, h.output, h.size, fun k hk _ => h.block k hk⟩
def GrT (w : World) (lo hi : Nat) (A : Option Addr) (c : Nat) (gr : List Nd) (T : Nat → Int) : Prop :=
  ∃ V : Nat → Value, Own w lo 33 2 A gr.length c (ndV (fun x => .int .i64 (T x)) V gr.length) ∧ (∀ g ∈ aL A, g < hi) ∧ ∀ x, x < gr.length → RowO w lo hi (V x) (nd gr x).ln
def Dis (V : Nat → Value) (n : Nat) : Prop := ∀ x y, x < n → y < n → x ≠ y → ∀ A m c A' m' c', V x = .slice A m c → V y = .slice A' m' c' → ∀ g ∈ aL A, ¬ g ∈ aL A'
theorem Dis.congr {V V' : Nat → Value} {n : Nat} (h : Dis V n) (e : ∀ x, x < n → V x = V' x) : Dis V' n := fun x y hx hy hne A m c A' m' c' h1 h2 => h x y hx hy hne A m c A' m' c' ((e x hx).trans h1) ((e y hy).trans h2)
theorem Dis.snoc {V : Nat → Value} {L : Nat → List (Int × Int)} {w : World} {lo bs k n c : Nat} {A : Option Addr} (h : Dis V k) (hr : ∀ x, x < k → RowO w lo bs (V x) (L x)) (hg : ∀ g ∈ aL A, bs ≤ g) : Dis (fun x => if x = k then .slice A n c else V x) (k + 1) := fun x y hx hy hne A1 m1 c1 A2 m2 c2 h1 h2 g hg1 hg2 => by
  have far : ∀ z, z < k → ∀ A3 m3 c3, V z = .slice A3 m3 c3 → ∀ g ∈ aL A3, g < bs := fun z hz A3 m3 c3 e g hg => by
    obtain ⟨A4, c4, e4, _, h4⟩ := hr z hz
    rw [e] at e4
    cases e4
    exact h4 g hg
  by_cases e : x = k
  · simp only [e, if_true, Value.slice.injEq] at h1
    by_cases e2 : y = k
    · exact hne (by rw [e, e2])
    · simp only [e2, if_false] at h2
      rw [← h1.1] at hg1
      have := far y om _ _ _ h2 g hg2
      have := hg g hg1
      omega
  · simp only [e, if_false] at h1
    by_cases e2 : y = k
    · simp only [e2, if_true, Value.slice.injEq] at h2
      rw [← h2.1] at hg2
      have := far x om _ _ _ h1 g hg1
      have := hg g hg2
      omega
    · simp only [e2, if_false] at h2
      exact h x y om om hne _ _ _ _ _ _ h1 h2 g hg1 hg2
def GrD (w : World) (lo hi : Nat) (A : Option Addr) (c : Nat) (gr : List Nd) (T : Nat → Int) : Prop :=
  ∃ V : Nat → Value, Own w lo 33 2 A gr.length c (ndV (fun x => .int .i64 (T x)) V gr.length) ∧ (∀ g ∈ aL A, g < hi) ∧ (∀ x, x < gr.length → RowO w lo hi (V x) (nd gr x).ln) ∧ Dis V gr.length
section
variable {w w' : World} {lo hi c : Nat} {A : Option Addr} {gr : List Nd} {T : Nat → Int}
theorem GrD.mk {base bs m : Nat} {V f : Nat → Value} (ho : Own w base 33 2 A m c (ndV f V m)) (hm : gr.length = m) (hb : lo ≤ base) (hf : ∀ x, x < m → f x = .int .i64 (T x)) (hA : ∀ g ∈ aL A, g < hi) (hbs : bs ≤ hi) (hr : ∀ x, x < m → RowO w lo bs (V x) (nd gr x).ln) (hd : Dis V m) : GrD w lo hi A c gr T := by
  subst hm
  refine ⟨V, ?_, hA, fun x hx => (hr x hx).up hbs, hd⟩
  rw [ndV_congr (f' := f) (h' := V) (fun x hx => (hf x hx).symm) (fun _ _ => rfl)]
  exact ho.low hb
theorem GrT.cap_le (h : GrT w lo hi A c gr T) : gr.length ≤ c := by obtain ⟨V, ho, _⟩ := h; exact ho.cap_le
theorem GrT.congr (h : GrT w lo hi A c gr T) {T' : Nat → Int} (e : ∀ i, i < gr.length → T i = T' i) : GrT w lo hi A c gr T' := by
  obtain ⟨V, ho, hA, hr⟩ := h
  exact ⟨V, by rw [ndV_congr (f' := fun x => .int .i64 (T x)) (h' := V) (fun x hx => by rw [e x hx]) (fun _ _ => rfl)]; exact ho, hA, hr⟩
theorem GrT.tr {X : List Nat} (h : GrT w lo hi A c gr T) (hs : Same X w w') (hx : ∀ g ∈ X, g < lo ∨ hi ≤ g) : GrT w' lo hi A c gr T := by
  obtain ⟨V, ho, hA, hr⟩ := h
  refine ⟨V, ho.tr hs (fun g hg hm => ?_), hA, fun x hxl => ?_⟩
  · have h1 := hx g hm
    have h2 := (ho.lt g hg).1
    have h3 := hA g hg
    omega
  · obtain ⟨A2, c2, e, h1, h2⟩ := hr x hxl
    refine ⟨A2, c2, e, h1.tr hs (fun g hg hm => ?_), h2⟩
    have h3 := hx g hm
    have h4 := (h1.lt g hg).1
    have h5 := h2 g hg
    omega
theorem GrT.fr {w2 : World} (h : GrT w lo hi A c gr T) (hf : FrSame lo w w2) : GrT w2 lo hi A c gr T := by
  obtain ⟨V, ho, hA, hr⟩ := h
  exact ⟨V, ho.fr (Nat.le_refl _) hf, hA, fun x hx => (hr x hx).fr hf⟩
theorem GrT.up {hi' : Nat} (h : GrT w lo hi A c gr T) (hh : hi ≤ hi') : GrT w lo hi' A c gr T := by
  obtain ⟨V, ho, hA, hr⟩ := h
  exact ⟨V, ho, fun g hg => nLL (hA g hg) hh, fun x hx => (hr x hx).up hh⟩
theorem RowO.low {lo' bs : Nat} {v : Value} {xs : List (Int × Int)} (h : RowO w lo bs v xs) (hl : lo' ≤ lo) : RowO w lo' bs v xs := by
  obtain ⟨A, c, e, h1, h2⟩ := h
  exact ⟨A, c, e, h1.low hl, h2⟩
theorem GrT.low {lo' : Nat} (h : GrT w lo hi A c gr T) (hl : lo' ≤ lo) : GrT w lo' hi A c gr T := by
  obtain ⟨V, ho, hA, hr⟩ := h
  exact ⟨V, ho.low hl, hA, fun x hx => (hr x hx).low hl⟩
theorem GrT.mk {base bs m : Nat} {V f : Nat → Value} (ho : Own w base 33 2 A m c (ndV f V m)) (hm : gr.length = m) (hb : lo ≤ base) (hf : ∀ x, x < m → f x = .int .i64 (T x)) (hA : ∀ g ∈ aL A, g < hi) (hbs : bs ≤ hi) (hr : ∀ x, x < m → RowO w lo bs (V x) (nd gr x).ln) : GrT w lo hi A c gr T := by
  subst hm
  refine ⟨V, ?_, hA, fun x hx => (hr x hx).up hbs⟩
  rw [ndV_congr (f' := f) (h' := V) (fun x hx => (hf x hx).symm) (fun _ _ => rfl)]
  exact ho.low hb
theorem ndV_set0 {f V : Nat → Value} {n k : Nat} {v : Value} : (ndV f V n).set (0 + k * 2 + 0) v = ndV (fun x => if x = k then v else f x) V n := by
  refine List.ext_getElem? (fun j => ?_)
  by_cases hj : j < n * 2
  · have h2 : j / 2 < n := by omega
    rcases Nat.mod_two_eq_zero_or_one j with e | e
    · have e2 : j = j / 2 * 2 := by omega
      by_cases hjk : j / 2 = k
      · rw [show 0 + k * 2 + 0 = j by omega, List.getElem?_set_self (by rw [ndV_len]; exact hj)]
        have h3 := (ndV_get (fun x => if x = k then v else f x) V h2).1
        rw [← e2] at h3
        rw [h3, if_pos hjk]
      · rw [List.getElem?_set_ne om]
        have h3 := (ndV_get (fun x => if x = k then v else f x) V h2).1
        have h4 := (ndV_get f V h2).1
        rw [← e2] at h3 h4
        rw [h3, h4, if_neg hjk]
    · have e2 : j = j / 2 * 2 + 1 := by omega
      rw [List.getElem?_set_ne om]
      have h3 := (ndV_get (fun x => if x = k then v else f x) V h2).2
      have h4 := (ndV_get f V h2).2
      rw [← e2] at h3 h4
      rw [h3, h4]
  · rw [List.getElem?_eq_none (by rw [List.length_set, ndV_len]; omega), List.getElem?_eq_none (by rw [ndV_len]; omega)]
theorem GrT.open_ {k : Nat} (h : GrT w lo hi A c gr T) (hk : k < gr.length) : ∃ (V : Nat → Value) (g : Nat) (cur : Array Value), A = some ⟨g, 0, none⟩ ∧ lo ≤ g ∧ g < hi ∧ Blk w g 33 cur ∧ gr.length * 2 ≤ cur.size ∧ (∀ x, x < gr.length → cur[0 + x * 2 + 0]? = some (.int .i64 (T x))) ∧ (∀ x, x < gr.length → cur[0 + x * 2 + 1]? = some (V x)) ∧ (∀ x, x < gr.length → RowO w lo hi (V x) (nd gr x).ln) ∧
    ∀ w1 v, Blk w1 g 33 (cur.setIfInBounds (0 + k * 2 + 0) (.int .i64 v)) → (∀ x, x < gr.length → RowO w1 lo hi (V x) (nd gr x).ln) → GrT w1 lo hi (some ⟨g, 0, none⟩) c gr (fun x => if x = k then v else T x) := by
  obtain ⟨V, ho, hA, hr⟩ := h
  obtain ⟨g, cur, rfl, hg, hb, hsz, hrd, hcl⟩ := ho.open_ om
  refine ⟨V, g, cur, rfl, hg, hA g (List.mem_singleton.2 rfl), hb, hsz, fun x hx => ?_, fun x hx => ?_, hr, fun w1 v hw hr2 => ⟨V, ?_, hA, hr2⟩⟩
  · rw [hrd _ om, show 0 + x * 2 + 0 = x * 2 by omega]; exact (ndV_get _ _ hx).1
  · rw [hrd _ om, show 0 + x * 2 + 1 = x * 2 + 1 by omega]; exact (ndV_get _ _ hx).2
  · have h1 := hcl w1 _ _ hw
    rw [ndV_set0, ndV_congr (f' := fun x => .int .i64 (if x = k then v else T x)) (h' := V) (fun x _ => by by_cases e : x = k <;> simp [e]) (fun _ _ => rfl)] at h1
    exact h1
end
end Go.Proofs.YtegngekpmpdngaaDoor
namespace Go.Proofs.YtegngekpmpdngaaDoor
open Go.RowKit
section six
variable {P : Program} {Q : Exit → Act → World → Prop} {n : Nat} {f : Fr} {w : World} {ops : Array Oper} {rest : List Oper} {d : Tmp} {ty t e : TypeId} {pos : String} {af : Array Edge} {x y : Operand} {v : Value}
theorem Own.whole {base sz k cap : Nat} {A : Option Addr} {xs : List Value} (h : Own w base e sz A k cap xs) (hk : 0 < k) : ∃ (g : Nat) (cur : Array Value), A = some ⟨g, 0, none⟩ ∧ base ≤ g ∧ Blk w g e cur ∧ cap ≤ 9223372036854775807 ∧ cur.size = cap * sz ∧ cur.toList.take (k * sz) = xs := by
  rcases h.2 with ⟨_, h0⟩ | ⟨g, c, cur, hv, hb, hg, hkc, hm, hs, ht⟩
  · omega
  · cases hv
    exact ⟨g, cur, rfl, hb, hg, by simpa [maxLen] using hm, hs, ht⟩
end six
end Go.Proofs.YtegngekpmpdngaaDoor
namespace Go.Proofs.YtegngekpmpdngaaDoor
open Go.RowKit
def bl (s : ByteArray) : List UInt8 := s.data.toList
theorem bl_app (p q : ByteArray) : bl (p ++ q) = bl p ++ bl q := by
  unfold bl
  rw [ByteArray.data_append, Array.toList_append]
theorem bl_size (p : ByteArray) : (bl p).length = p.size := by unfold bl; rw [Array.length_toList]; rfl
theorem bl_ext {p q : ByteArray} (h : bl p = bl q) : p = q := by
  cases p; cases q
  unfold bl at h
  simp only [ByteArray.mk.injEq]
  exact Array.toList_inj.1 h
section rules
variable {P : Program} {Q : Exit → Act → World → Prop} {n : Nat} {f : Fr} {w w' : World} {ops : Array Oper} {rest : List Oper} {d : Nat} {ty : TypeId} {pos : String} {af : Array Edge} {x y z : Operand} {t t' e : TypeId}
theorem r_addS {dst : Option Tmp} {gd : Option (Nat × Bool)} {p q : ByteArray} (hx : ev n f x = .string p) (hy : ev n f y = .string q) (hb : p.size + q.size ≤ 9223372036854775807) :
    RV P n f w ⟨dst, .binOp .add t x y t', ty, pos, af, gd⟩ (.string (p ++ q)) w := by
  have h : ¬ ((p.size + q.size : Nat) : Int) > IntKind.i64.max := by
    have e : IntKind.i64.max = 9223372036854775807 := by decide
    rw [e]; omega
  simp only [RV, execOp, hx, hy, eqGuard, binOp, Op.stringOp, if_neg h]
  rfl
theorem r_minN {dst : Option Tmp} {gd : Option (Nat × Bool)} {ats : Array TypeId} {a b : Nat} (hx : ev n f x = .int .i64 (a : Int)) (hy : ev n f y = .int .i64 (b : Int)) :
    RV P n f w ⟨dst, .call { callee := .builtin .min, args := #[x, y], argTypes := ats }, ty, pos, af, gd⟩ (.int .i64 ((min a b : Nat) : Int)) w := by
  have e : (if b < a then (b : Int) else (a : Int)) = ((min a b : Nat) : Int) := by
    by_cases h : b < a
    · rw [if_pos h]; omega
    · rw [if_neg h]; omega
  simp [RV, execOp, resolve, invoke, builtin, hx, hy, Builtin.min_, Builtin.min2, e]
end rules
def BldI (w : World) (B b : Nat) (bs : List Value) : Prop := B ≤ b ∧ ∃ p A cap, (p = .pointer none ∨ p = .pointer (some ⟨b, 0, none⟩)) ∧ Blk w b 131 #[p, .slice A bs.length cap] ∧ Own w B 5 1 A bs.length cap bs
structure KB (B b : Nat) (w w' : World) : Prop where
  os : w'.os = w.os
  tape : w'.tape = w.tape
  output : w'.output = w.output
  size : w.heap.size ≤ w'.heap.size
  blk : ∀ k, k < w.heap.size → k ≠ b → (k < B ∨ ∀ cs, ¬ Blk w k 5 cs) → w'.heap[k]? = w.heap[k]?
theorem KB.refl (B b : Nat) (w : World) : KB B b w w := ⟨rfl, rfl, rfl, Nat.le_refl _, fun _ _ _ _ => rfl⟩
theorem KB.st {B b : Nat} {Y : List Nat} {a c d : World} (h : KB B b a c) (k : Same Y c d) (hy : ∀ g ∈ Y, g = b ∨ a.heap.size ≤ g ∨ (B ≤ g ∧ ∃ cs, Blk a g 5 cs)) : KB B b a d :=
  ⟨k.os.trans h.os, k.tape.trans h.tape, k.output.trans h.output, nLT h.size k.size, fun i hi hn hc => (k.blk i (nLL hi h.size) (fun hm => by
    rcases hy i hm with e | e | ⟨e, cs, hcs⟩
    · exact hn e
    · omega
    · rcases hc with hc | hc
      · omega
      · exact hc cs hcs)).trans (h.blk i hi hn hc)⟩
theorem KB.bel {B b : Nat} {w0 w w' : World} (h : Bel w0 w) (k : KB B b w w') (h1 : w0.heap.size ≤ B) (h2 : w0.heap.size ≤ b) : Bel w0 w' :=
  ⟨k.os.trans h.os, k.tape.trans h.tape, k.output.trans h.output, nLT h.size k.size, fun i hi => (k.blk i (nLL hi h.size) om (.inl om)).trans (h.block i hi)⟩
theorem BldI.tr {w w' : World} {B b : Nat} {bs : List Value} {X : List Nat} (h : BldI w B b bs) (hs : Same X w w') (hx : ∀ g ∈ X, g ≠ b ∧ ∃ cs t, Blk w g t cs ∧ t ≠ 5) : BldI w' B b bs := by
  obtain ⟨h1, p, A, cap, hp, hb, ho⟩ := h
  refine ⟨h1, p, A, cap, hp, hb.tr hs (fun hm => (hx b hm).1 rfl), ho.tr hs (fun g hg hm => ?_)⟩
  obtain ⟨_, cs, t, hbt, hne⟩ := hx g hm
  obtain ⟨c2, hb2⟩ := ho.typ g hg
  exact hne (blk_type hbt hb2)
theorem BldI.tr0 {w w' : World} {B b : Nat} {bs : List Value} (h : BldI w B b bs) (hs : Same [] w w') : BldI w' B b bs := h.tr hs (by simp)
theorem BldI.tr1 {w w' : World} {B b q t : Nat} {bs : List Value} {cs : Array Value} (h : BldI w B b bs) (hs : Same [q] w w') (hq : Blk w q t cs) (ht : t ≠ 5) (hne : q ≠ b) : BldI w' B b bs :=
  h.tr hs (fun g hg => by rw [List.mem_singleton.1 hg]; exact ⟨hne, cs, t, hq, ht⟩)
theorem BldI.lt {w : World} {B b : Nat} {bs : List Value} (h : BldI w B b bs) : b < w.heap.size := by
  obtain ⟨_, _, _, _, _, hb, _⟩ := h
  exact hb.lt
theorem BldI.is {w : World} {B b : Nat} {bs : List Value} (h : BldI w B b bs) : Lib.IsBuilder 131 5 B b bs w := by
  obtain ⟨h1, p, A, cap, hp, hb, ho⟩ := h
  have hn : (Value.slice A bs.length cap).ownBlock ≠ some b := fun e => by
    cases A with
    | none => cases e
    | some a =>
      simp only [Value.ownBlock, Option.some.injEq] at e
      obtain ⟨c2, hb2⟩ := ho.typ b (by rw [← e]; exact List.mem_singleton.2 rfl)
      exact absurd (blk_type hb2 hb) dE
  rcases hp with rfl | rfl
  · exact .inl ⟨h1, _, hb, ho, hn⟩
  · exact .inr ⟨h1, _, hb, ho, hn⟩
theorem BldI.new {w : World} {B b : Nat} (hb : Blk w b 131 #[.pointer none, .slice none 0 0]) (h : B ≤ b) : BldI w B b [] := ⟨h, _, none, 0, .inl rfl, hb, Own.nil _ _ _ _⟩
end Go.Proofs.YtegngekpmpdngaaDoor
