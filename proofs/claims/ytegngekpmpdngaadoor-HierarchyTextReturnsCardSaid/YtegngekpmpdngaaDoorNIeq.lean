/- Feature graphs as plain values, their faults, and what is reached in them. No program in sight but for how a world holds them. What these functions of the program compute, at every world: slices.Index[[]bool,bool], glosswright/graph.fault, glosswright/graph.Loose, glosswright/glosswrightref3.LooseFault. What these functions of the program compute, at every world: glosswright/graph.Unreached, glosswright/glosswrightref3.Unreached. What these functions of the program compute, at every world: glosswright/graph.Within, glosswright/glosswrightref3.InHierarchy, glosswright/graph.Validate, glosswright/glosswrightref3.GraphFault. What these functions of the program compute, at every world: glosswright/glosswrightlaw3.pairOf. What these functions of the program compute, at every world: slices.Equal[[]int,int]. -/
import Derived.Test.YtegngekpmpdngaaDoorHLaw
import Derived.Test.YtegngekpmpdngaaDoorName
import Derived.Test.YtegngekpmpdngaaDoorU
namespace Go.Proofs.YtegngekpmpdngaaDoor
open Go.RowKit
structure Nd where
  ty : Int
  ln : List (Int × Int)
theorem nd_ext {a b : Nd} (h1 : a.ty = b.ty) (h2 : a.ln = b.ln) : a = b := by
  cases a; cases b; simp only at h1 h2; rw [h1, h2]
instance : DecidableEq Nd := fun a b => decidable_of_iff (a.ty = b.ty ∧ a.ln = b.ln) ⟨fun h => nd_ext h.1 h.2, fun h => by rw [h]; exact ⟨rfl, rfl⟩⟩
def LinksIn (w : World) (A : Option Addr) (xs : List (Int × Int)) : Prop :=
  xs.length ≤ maxI ∧ (xs ≠ [] → ∃ b o, A = some ⟨b, o, none⟩ ∧ b < w.heap.size ∧ ∀ k (h : k < xs.length), w.rangeAt b (o + k * 2) [.int .i64 (xs[k]).1, .int .i64 (xs[k]).2])
theorem LinksIn.mono {w w' : World} {A : Option Addr} {xs : List (Int × Int)} (h : LinksIn w A xs) (hb : Bel w w') : LinksIn w' A xs :=
  ⟨h.1, fun hn => by
    obtain ⟨b, o, e, hl, hc⟩ := h.2 hn
    exact ⟨b, o, e, nLL hl hb.size, fun k hk => hb.range hl (hc k hk)⟩⟩
theorem LinksIn.at_ {w w' : World} {A : Option Addr} {xs : List (Int × Int)} (h : LinksIn w A xs) (hb : Bel w w') {k : Nat} (hk : k < xs.length) :
    ∃ b o, A = some ⟨b, o, none⟩ ∧ b < w.heap.size ∧ w'.rangeAt b (o + k * 2) [.int .i64 (xs[k]).1, .int .i64 (xs[k]).2] := by
  obtain ⟨b, o, e, hl, hc⟩ := h.2 (by rintro rfl; simp at hk)
  exact ⟨b, o, e, hl, hb.range hl (hc k hk)⟩
def NdIn (w : World) (b o : Nat) (n : Nd) : Prop := ∃ A c, w.rangeAt b o [.int .i64 n.ty, .slice A n.ln.length c] ∧ LinksIn w A n.ln
def NodesIn (w : World) (A : Option Addr) (g : List Nd) : Prop :=
  g.length ≤ maxI ∧ (g ≠ [] → ∃ b o, A = some ⟨b, o, none⟩ ∧ b < w.heap.size ∧ ∀ k (h : k < g.length), NdIn w b (o + k * 2) g[k])
theorem NdIn.mono {w w' : World} {b o : Nat} {n : Nd} (h : NdIn w b o n) (hb : Bel w w') (hl : b < w.heap.size) : NdIn w' b o n := by
  obtain ⟨A, c, h1, h2⟩ := h
  exact ⟨A, c, hb.range hl h1, h2.mono hb⟩
theorem NodesIn.mono {w w' : World} {A : Option Addr} {g : List Nd} (h : NodesIn w A g) (hb : Bel w w') : NodesIn w' A g :=
  ⟨h.1, fun hn => by
    obtain ⟨b, o, e, hl, hc⟩ := h.2 hn
    exact ⟨b, o, e, nLL hl hb.size, fun k hk => (hc k hk).mono hb hl⟩⟩
theorem NodesIn.at_ {w w' : World} {A : Option Addr} {g : List Nd} (h : NodesIn w A g) (hb : Bel w w') {k : Nat} (hk : k < g.length) :
    ∃ b o A' c, A = some ⟨b, o, none⟩ ∧ b < w.heap.size ∧ w'.rangeAt b (o + k * 2) [.int .i64 (g[k]).ty, .slice A' (g[k]).ln.length c] ∧ LinksIn w A' (g[k]).ln := by
  obtain ⟨b, o, e, hl, hc⟩ := h.2 (by rintro rfl; simp at hk)
  obtain ⟨A', c, h1, h2⟩ := hc k hk
  exact ⟨b, o, A', c, e, hl, hb.range hl h1, h2⟩
def lnBad (nf n : Nat) (x : Int × Int) : Prop := x.1 < 0 ∨ (nf : Int) ≤ x.1 ∨ x.2 < 0 ∨ (n : Int) ≤ x.2
instance (nf n : Nat) (x : Int × Int) : Decidable (lnBad nf n x) := by unfold lnBad; infer_instance
def lnFault (nf n : Nat) : Int → List (Int × Int) → Int
  | _, [] => 0
  | last, x :: xs => if lnBad nf n x then 3 else if x.1 ≤ last then 13 else lnFault nf n x.1 xs
def ndFault (nt nf n : Nat) (x : Nd) : Int := if x.ty < 0 ∨ (nt : Int) ≤ x.ty then 3 else lnFault nf n (-1) x.ln
def looseN (nt nf : Nat) (g : List Nd) (i : Nat) : Int := match g[i]? with
  | none => 0
  | some x => ndFault nt nf g.length x
def looseF (nt nf : Nat) (g : List Nd) : Fl := if g.length = 0 ∨ 60 < g.length then (2, -2) else firstF (looseN nt nf g) 0 g.length
structure GOk (nt nf : Nat) (g : List Nd) : Prop where
  pos : 0 < g.length
  le : g.length ≤ 60
  ty : ∀ i (h : i < g.length), 0 ≤ (g[i]).ty ∧ (g[i]).ty < nt
  ln : ∀ i (h : i < g.length), ∀ x ∈ (g[i]).ln, 0 ≤ x.1 ∧ x.1 < nf ∧ 0 ≤ x.2 ∧ x.2 < g.length
  few : ∀ i (h : i < g.length), (g[i]).ln.length ≤ nf
structure GOk2 (nf : Nat) (g : List Nd) : Prop where
  pos : 0 < g.length
  le : g.length ≤ 1000000
  ln : ∀ i (h : i < g.length), ∀ x ∈ (g[i]).ln, 0 ≤ x.1 ∧ x.1 < nf ∧ 0 ≤ x.2 ∧ x.2 < g.length
  few : ∀ i (h : i < g.length), (g[i]).ln.length ≤ nf
def ftAt (fs : List Ft) (z : Int) : Ft := fs.getD z.toNat ⟨⟨#[]⟩, 0, 0⟩
def ndAt (g : List Nd) (z : Int) : Nd := g.getD z.toNat ⟨0, []⟩
def lnTy (l : List Ty) (fs : List Ft) (g : List Nd) (t : Int) (x : Int × Int) : Bool :=
  !(sub l t.toNat (ftAt fs x.1).of.toNat) || !(sub l (ndAt g x.2).ty.toNat (ftAt fs x.1).val.toNat)
def tyN (l : List Ty) (fs : List Ft) (g : List Nd) (i : Nat) : Int := match g[i]? with
  | none => 0
  | some x => if x.ln.any (lnTy l fs g x.ty) then 12 else 0
def tyF (l : List Ty) (fs : List Ft) (g : List Nd) : Fl := firstF (tyN l fs g) 0 g.length
inductive Rch (g : List Nd) : Nat → Prop
  | zero : Rch g 0
  | step {i : Nat} {x : Int × Int} (h : Rch g i) (hi : i < g.length) (hx : x ∈ (g[i]).ln) : Rch g x.2.toNat
def CL (g : List Nd) (mk : Nat → Bool) : Prop := ∀ i (hi : i < g.length), mk i = true → ∀ x ∈ (g[i]).ln, mk x.2.toNat = true
def Only (g : List Nd) (mk : Nat → Bool) : Prop := ∀ i, mk i = true → Rch g i
theorem reach_cl {g : List Nd} {mk : Nat → Bool} (h0 : mk 0 = true) (hc : CL g mk) {i : Nat} (h : Rch g i) : mk i = true := by
  induction h with
  | zero => exact h0
  | step h hi hx ih => exact hc _ hi ih _ hx
def UnrIs (g : List Nd) (r : Int) : Prop := (r = -1 ∧ ∀ i, i < g.length → Rch g i) ∨ ∃ k : Nat, r = k ∧ k < g.length ∧ ¬ Rch g k ∧ ∀ i, i < k → Rch g i
theorem UnrIs.uniq {g : List Nd} {r s : Int} (h : UnrIs g r) (k : UnrIs g s) : r = s := by
  rcases h with ⟨h1, h2⟩ | ⟨a, h1, h2, h3, h4⟩ <;> rcases k with ⟨k1, k2⟩ | ⟨b, k1, k2, k3, k4⟩
  · omega
  · exact absurd (h2 b k2) k3
  · exact absurd (k2 a h2) h3
  · have : ¬ a < b := fun h => h3 (k4 a h)
    have : ¬ b < a := fun h => k3 (h4 b h)
    omega
noncomputable def unrI (g : List Nd) : Int := @Classical.epsilon Int ⟨0⟩ (UnrIs g)
theorem unr_is {g : List Nd} {r : Int} (h : UnrIs g r) : r = unrI g := h.uniq (@Classical.epsilon_spec Int (UnrIs g) ⟨r, h⟩)
structure AllM (g : List Nd) (mk : Nat → Bool) : Prop where
  zero : mk 0 = true
  only : Only g mk
  cl : CL g mk
theorem AllM.no {g : List Nd} {mk : Nat → Bool} (h : AllM g mk) {k : Nat} (hk : k < g.length) (hm : mk k = false) (hb : ∀ i, i < k → mk i = true) : ((k : Nat) : Int) = unrI g :=
  unr_is (.inr ⟨k, rfl, hk, fun hr => absurd ((reach_cl h.zero h.cl hr).symm.trans hm) (by simp), fun i hi => h.only i (hb i hi)⟩)
theorem AllM.yes {g : List Nd} {mk : Nat → Bool} (h : AllM g mk) (hb : ∀ i, i < g.length → mk i = true) : (-1 : Int) = unrI g :=
  unr_is (.inl ⟨rfl, fun i hi => h.only i (hb i hi)⟩)
def setB (mk : Nat → Bool) (j : Nat) (x : Nat) : Bool := if x = j then true else mk x
theorem setB_self (mk : Nat → Bool) (j : Nat) : setB mk j j = true := by simp [setB]
theorem setB_mono {mk : Nat → Bool} {j x : Nat} (h : mk x = true) : setB mk j x = true := by
  unfold setB; split
  · rfl
  · exact h
theorem setB_cases {mk : Nat → Bool} {j x : Nat} (h : setB mk j x = true) : x = j ∨ mk x = true := by
  unfold setB at h
  by_cases e : x = j
  · exact .inl e
  · rw [if_neg e] at h; exact .inr h
def lackN (n : Nat) (mk : Nat → Bool) : Nat := (List.range n).countP (fun i => !mk i)
theorem lack_le (n : Nat) (mk : Nat → Bool) : lackN n mk ≤ n := by
  have := List.countP_le_length (p := fun i => !mk i) (l := List.range n)
  simpa [lackN] using this
structure DS (g : List Nd) (mk : Nat → Bool) (st : List Int) (i k : Nat) : Prop where
  zero : mk 0 = true
  only : Only g mk
  stk : ∀ s ∈ st, ∃ n : Nat, s = (n : Int) ∧ n < g.length ∧ mk n = true
  cl : ∀ j (hj : j < g.length), mk j = true → j ≠ i → (j : Int) ∈ st ∨ ∀ x ∈ (g[j]).ln, mk x.2.toNat = true
  me : ∀ (hi : i < g.length), mk i = true ∧ ∀ x ∈ (g[i]).ln.take k, mk x.2.toNat = true
theorem DS.start {g : List Nd} (h : 0 < g.length) : DS g (setB (fun _ => false) 0) [0] g.length 0 :=
  ⟨by simp [setB], fun i hi => by
    rcases setB_cases hi with rfl | h
    · exact .zero
    · exact absurd h Bool.false_ne_true, fun s hs => by
    obtain rfl := List.mem_singleton.1 hs
    exact ⟨0, rfl, h, by simp [setB]⟩, fun j hj hm _ => by
    rcases setB_cases hm with rfl | h
    · exact .inl (by simp)
    · exact absurd h Bool.false_ne_true, fun hi => absurd hi (Nat.lt_irrefl _)⟩
theorem DS.old {g : List Nd} {mk : Nat → Bool} {st : List Int} {i k : Nat} (h : DS g mk st i k) (hi : i < g.length) (hk : k < (g[i]).ln.length) (hm : mk ((g[i]).ln[k]).2.toNat = true) : DS g mk st i (k + 1) :=
  ⟨h.zero, h.only, h.stk, h.cl, fun _ => ⟨(h.me hi).1, fun x hx => by
    rw [List.take_succ_eq_append_getElem hk] at hx
    rcases List.mem_append.1 hx with hx | hx
    · exact (h.me hi).2 x hx
    · rw [List.mem_singleton.1 hx]; exact hm⟩⟩
theorem DS.new {g : List Nd} {mk : Nat → Bool} {st : List Int} {i k t : Nat} (h : DS g mk st i k) (hi : i < g.length) (hk : k < (g[i]).ln.length) (ht : ((g[i]).ln[k]).2 = (t : Int)) (htl : t < g.length) : DS g (setB mk t) (st ++ [(t : Int)]) i (k + 1) :=
  ⟨setB_mono h.zero, fun j hj => by
    rcases setB_cases hj with rfl | hj
    · have := Rch.step (h.only i (h.me hi).1) hi (List.getElem_mem hk)
      rw [ht] at this; simpa using this
    · exact h.only j hj, fun s hs => by
    rcases List.mem_append.1 hs with hs | hs
    · obtain ⟨n, h1, h2, h3⟩ := h.stk s hs
      exact ⟨n, h1, h2, setB_mono h3⟩
    · exact ⟨t, List.mem_singleton.1 hs, htl, setB_self _ _⟩, fun j hj hm hne => by
    rcases setB_cases hm with rfl | hm
    · exact .inl (by simp)
    · rcases h.cl j hj hm hne with h1 | h1
      · exact .inl (by simp [h1])
      · exact .inr (fun x hx => setB_mono (h1 x hx)), fun _ => ⟨setB_mono (h.me hi).1, fun x hx => by
    rw [List.take_succ_eq_append_getElem hk] at hx
    rcases List.mem_append.1 hx with hx | hx
    · exact setB_mono ((h.me hi).2 x hx)
    · rw [List.mem_singleton.1 hx, ht]; simp [setB_self]⟩⟩
theorem DS.done {g : List Nd} {mk : Nat → Bool} {st : List Int} {i k : Nat} (h : DS g mk st i k) (hi : i < g.length) (hk : k = (g[i]).ln.length) : DS g mk st g.length 0 :=
  ⟨h.zero, h.only, h.stk, fun j hj hm _ => by
    by_cases e : j = i
    · subst e
      have h1 := (h.me hj).2
      rw [hk, List.take_length] at h1
      exact .inr h1
    · exact h.cl j hj hm e, fun hi => absurd hi (Nat.lt_irrefl _)⟩
theorem DS.end_ {g : List Nd} {mk : Nat → Bool} (h : DS g mk [] g.length 0) : AllM g mk :=
  ⟨h.zero, h.only, fun i hi hm x hx => by
    rcases h.cl i hi hm om with h1 | h1
    · cases h1
    · exact h1 x hx⟩
def cntN (n : Nat) (mk : Nat → Bool) : Nat := (List.range n).countP mk
theorem cnt_le (n : Nat) (mk : Nat → Bool) : cntN n mk ≤ n := by
  have := List.countP_le_length (p := mk) (l := List.range n)
  simpa [cntN] using this
structure PS (g : List Nd) (mk : Nat → Bool) (p : Nat) : Prop where
  zero : mk 0 = true
  only : Only g mk
  far : CL g mk ∨ p + 1 ≤ cntN g.length mk
structure PP (g : List Nd) (m0 mk : Nat → Bool) (i k : Nat) : Prop where
  zero : mk 0 = true
  only : Only g mk
  sup : ∀ j, m0 j = true → mk j = true
  same : CL g m0 → ∀ j, mk j = true → m0 j = true
  done : ∀ j (hj : j < g.length), j < i → m0 j = true → ∀ x ∈ (g[j]).ln, mk x.2.toNat = true
  me : ∀ (hi : i < g.length), m0 i = true → ∀ x ∈ (g[i]).ln.take k, mk x.2.toNat = true
theorem PS.start {g : List Nd} (h : 0 < g.length) : PS g (setB (fun _ => false) 0) 0 :=
  ⟨by simp [setB], fun i hi => by
    rcases setB_cases hi with rfl | h
    · exact .zero
    · exact absurd h Bool.false_ne_true, .inr (by
    have : 0 < cntN g.length (setB (fun _ => false) 0) := List.countP_pos_iff.2 ⟨0, List.mem_range.2 h, by simp [setB]⟩
    omega)⟩
theorem PP.start {g : List Nd} {mk : Nat → Bool} {p : Nat} (h : PS g mk p) : PP g mk mk 0 0 :=
  ⟨h.zero, h.only, fun _ h => h, fun _ _ h => h, fun j _ hj => by omega, fun _ _ x hx => by simp at hx⟩
theorem PP.skip {g : List Nd} {m0 mk : Nat → Bool} {i k : Nat} (h : PP g m0 mk i k) (hm : mk i = false) : PP g m0 mk i (k + 1) :=
  ⟨h.zero, h.only, h.sup, h.same, h.done, fun _ h0 => absurd ((h.sup i h0).symm.trans hm) (by simp)⟩
theorem PP.next {g : List Nd} {m0 mk : Nat → Bool} {i k : Nat} (h : PP g m0 mk i k) (hi : i < g.length) (hk : k = (g[i]).ln.length) : PP g m0 mk (i + 1) 0 :=
  ⟨h.zero, h.only, h.sup, h.same, fun j hj hji h0 x hx => by
    by_cases e : j = i
    · subst e
      have := h.me hj h0
      rw [hk, List.take_length] at this
      exact this x hx
    · exact h.done j hj om h0 x hx, fun _ _ x hx => by simp at hx⟩
theorem PP.end_ {g : List Nd} (hr : ∀ i (hi : i < g.length), ∀ x ∈ (g[i]).ln, x.2.toNat < g.length) {m0 mk : Nat → Bool} {p : Nat} (h0 : PS g m0 p) (h : PP g m0 mk g.length 0) : PS g mk (p + 1) := by
  refine ⟨h.zero, h.only, ?_⟩
  have hcl : CL g m0 → CL g mk := fun hc i hi hm x hx => h.sup _ (hc i hi (h.same hc i hm) x hx)
  by_cases hc : CL g m0
  · exact .inl (hcl hc)
  · right
    rcases h0.far with h1 | h1
    · exact absurd h1 hc
    · have hex : ∃ i, ∃ hi : i < g.length, m0 i = true ∧ ∃ x, x ∈ (g[i]).ln ∧ m0 x.2.toNat = false := Classical.byContradiction (fun hn => hc (fun i hi hm x hx => by
        cases hv : m0 x.2.toNat with
        | true => rfl
        | false => exact absurd ⟨i, hi, hm, x, hx, hv⟩ hn))
      obtain ⟨i, hi, hm, x, hx, hv⟩ := hex
      have hnew := h.done i hi hi hm x hx
      have hl := hr i hi x hx
      have : cntN g.length m0 < cntN g.length mk := countP_lt h.sup (List.range g.length) _ (List.mem_range.2 hl) hnew hv
      omega
theorem PS.end_ {g : List Nd} {mk : Nat → Bool} (h : PS g mk g.length) : AllM g mk :=
  ⟨h.zero, h.only, by
    rcases h.far with h1 | h1
    · exact h1
    · have := cnt_le g.length mk
      omega⟩
structure FOk (nt : Nat) (fs : List Ft) : Prop where
  at_ : ∀ i (h : i < fs.length), 0 ≤ (fs[i]).of ∧ (fs[i]).of < nt ∧ 0 ≤ (fs[i]).val ∧ (fs[i]).val < nt
end Go.Proofs.YtegngekpmpdngaaDoor
namespace Go.Proofs.YtegngekpmpdngaaDoor
open Go.RowKit
theorem sz22_GLoose : (Tryd.prog.info? 22).map (·.size) = some 1 := by kernel_rfl
theorem sz23_GLoose : (Tryd.prog.info? 23).map (·.size) = some 1 := by kernel_rfl
theorem sz3_GLoose : (Tryd.prog.info? 3).map (·.size) = some 1 := by kernel_rfl
theorem sz35_GLoose : (Tryd.prog.info? 35).map (·.size) = some 2 := by kernel_rfl
theorem ze35_GLoose : (Tryd.prog.info? 35).map (·.zero) = some (some (.agg #[.int .i64 0, .int .i64 0])) := by kernel_rfl
end Go.Proofs.YtegngekpmpdngaaDoor
namespace Go.Proofs.YtegngekpmpdngaaDoor
open Go.RowKit
theorem in3 : (Tryd.prog.info? 3).map (fun i => (i.zero, i.size, i.bytes)) = some (some (.int .i64 0), 1, 8) := by kernel_rfl
theorem ze3_GUnr : (Tryd.prog.info? 3).map (·.zero) = some (some (.int .i64 0)) := by kernel_rfl
end Go.Proofs.YtegngekpmpdngaaDoor
namespace Go.Proofs.YtegngekpmpdngaaDoor
open Go.RowKit
theorem fn27 : callable Tryd.prog 27 = true := by kernel_rfl
theorem fn44 : callable Tryd.prog 44 = true := by kernel_rfl
theorem sz25 : (Tryd.prog.info? 25).map (·.size) = some 2 := by kernel_rfl
theorem sz63_GVal : (Tryd.prog.info? 63).map (·.size) = some 3 := by kernel_rfl
theorem ze63_GVal : (Tryd.prog.info? 63).map (·.zero) = some (some (.agg #[.string ⟨#[]⟩, .int .i64 0, .int .i64 0])) := by kernel_rfl
end Go.Proofs.YtegngekpmpdngaaDoor
namespace Go.Proofs.YtegngekpmpdngaaDoor
open Go.RowKit
theorem ints_of_blk {w : World} {b t : Nat} (xs : List Int) (h : Blk w b t (xs.map (Value.int .i64)).toArray) (hl : xs.length ≤ maxI) : IntsIn w (some ⟨b, 0, none⟩) xs :=
  ⟨hl, fun _ => ⟨b, 0, rfl, h.lt, fun k hk => h.cell (by simp [hk])⟩⟩
theorem feats_of_blk {w : World} {b t : Nat} (fs : List Ft) (h : Blk w b t (fs.flatMap (fun f => [Value.string f.name, .int .i64 f.of, .int .i64 f.val])).toArray) (hl : fs.length ≤ maxI) : FeatsIn w (some ⟨b, 0, none⟩) fs := by
  refine ⟨hl, fun _ => ⟨b, 0, rfl, h.lt, fun k hk => ?_⟩⟩
  have key : ∀ (l : List Ft) (k : Nat) (hk : k < l.length) (j : Nat) (v : Value), [Value.string (l[k]).name, .int .i64 (l[k]).of, .int .i64 (l[k]).val][j]? = some v → (l.flatMap (fun f => [Value.string f.name, .int .i64 f.of, .int .i64 f.val]))[k * 3 + j]? = some v := by
    intro l
    induction l with
    | nil => intro k hk; simp at hk
    | cons a r ih =>
      intro k hk j v hj
      match k, hk with
      | 0, _ =>
        have hj3 : j < 3 := (List.getElem?_eq_some_iff.1 hj).1
        rw [List.flatMap_cons, List.getElem?_append_left (by simpa using hj3)]
        simpa using hj
      | k + 1, hk =>
        rw [List.flatMap_cons, List.getElem?_append_right (by simp; omega)]
        have := ih k (by simpa using hk) j v hj
        have e : (k + 1) * 3 + j - [Value.string a.name, .int .i64 a.of, .int .i64 a.val].length = k * 3 + j := by simp; omega
        rw [e]; exact this
  intro j v hj
  have := key fs k hk j v hj
  exact h.cell (by simpa using this)
inductive TyVs (w : World) : List Ty → List Value → Prop
  | nil : TyVs w [] []
  | cons {t : Ty} {l : List Ty} {vs : List Value} {A : Option Addr} {c : Nat} (h : IntsIn w A t.par) (r : TyVs w l vs) : TyVs w (t :: l) (.string t.name :: .slice A t.par.length c :: vs)
theorem TyVs.get {w : World} {l : List Ty} {vs : List Value} (h : TyVs w l vs) : ∀ k (hk : k < l.length), ∃ A c, vs[k * 2]? = some (.string (l[k]).name) ∧ vs[k * 2 + 1]? = some (.slice A (l[k]).par.length c) ∧ IntsIn w A (l[k]).par := by
  induction h with
  | nil => intro k hk; simp at hk
  | cons h r ih =>
    intro k hk
    match k, hk with
    | 0, _ => exact ⟨_, _, rfl, rfl, h⟩
    | k + 1, hk =>
      obtain ⟨A, c, h1, h2, h3⟩ := ih k (by simpa using hk)
      refine ⟨A, c, ?_, ?_, h3⟩
      · rw [show (k + 1) * 2 = k * 2 + 1 + 1 from by omega]; simpa using h1
      · rw [show (k + 1) * 2 + 1 = k * 2 + 1 + 1 + 1 from by omega]; simpa using h2
theorem types_of_blk {w : World} {b t : Nat} {l : List Ty} {vs : List Value} (h : Blk w b t vs.toArray) (hv : TyVs w l vs) (hl : l.length ≤ maxI) : TypesIn w (some ⟨b, 0, none⟩) l :=
  ⟨hl, fun _ => ⟨b, 0, rfl, h.lt, fun k hk => by
    obtain ⟨A, c, h1, h2, h3⟩ := hv.get k hk
    refine ⟨A, c, h.range (fun j v hj => ?_), h3⟩
    match j, hj with
    | 0, hj => cases hj; simpa using h1
    | 1, hj => cases hj; simpa using h2
    | _ + 2, hj => cases hj⟩⟩
theorem ints_nil (w : World) (A : Option Addr) : IntsIn w A [] := ⟨Nat.zero_le _, fun h => absurd rfl h⟩
theorem sz77_GLaw : (Tryd.prog.info? 77).map (·.size) = some 2 := by kernel_rfl
theorem ze25 : (Tryd.prog.info? 25).map (·.zero) = some (some (.agg #[.slice none 0 0, .slice none 0 0])) := by kernel_rfl
end Go.Proofs.YtegngekpmpdngaaDoor
namespace Go.Proofs.YtegngekpmpdngaaDoor
open Go.RowKit
theorem ieq_any (A B : Option Addr) (c d : Nat) (xs ys : List Int) (w : World) (hX : IntsIn w A xs) (hY : IntsIn w B ys) : Calls Tryd.prog 12 #[.slice A xs.length c, .slice B ys.length d] w fun e w' => e = .returned (.bool (decide (xs = ys))) ∧ Bel w w' := by
 have hmx := hX.1
 unfold maxI at hmx
 refine enter Tryd.func12 Tryd.ntmps12 rfl (Nat.le_of_ble_eq_true rfl) ?_
 have hB : Bel w w := Below.refl _ _
 refine c_seq (c_region (waB rfl (x_nil (e_S (c_seq ?_)))))
 refine c_seq (c_region (wmS rfl (wl (r_len U43 rfl) (wmS rfl (wl (r_len U43 rfl) ?_)))))
 refine wl (r_neq rfl rfl) (x_nil (e_S ?_))
 refine c_ifd rfl (fun c10 => ?_) (fun c10 => ?_)
 ·
  have hne : ¬ xs = ys := fun e => c10 (by rw [e])
  refine c_seq (c_region (waB rfl (x_nil (e_S (c_ret ?_)))))
  refine e_Sr (fin1 (.inl rfl) rfl rfl ?_)
  exact ⟨ret_bool (decide_eq_false hne), hB⟩
 have hle : xs.length = ys.length := by omega
 refine c_skip (e_S (c_seq (c_seq (c_region (wmS rfl ?_)))))
 refine wl (r_len U43 rfl) (wmI rfl (x_nil (e_S (c_block ?_))))
 refine c_loopS [4, 5, 13, 14, 15, 16, 17, 18, 19, 20, 21, 22, 23, 24, 25] (fun m g w' => ∃ k : Nat, k ≤ xs.length ∧ m = xs.length - k ∧ g 13 = .int .i64 k ∧ Bel w w' ∧ (∀ j (hj : j < xs.length) (hj2 : j < ys.length), j < k → xs[j] = ys[j])) (xs.length) ?_ (fun m g4 w1 hI => ?_)
 ·
  exact ⟨0, Nat.zero_le _, rfl, rfl, hB, fun j _ _ h => by omega⟩
 obtain ⟨k, hk, hm, h13, hB, hall⟩ := hI
 refine c_know 13 (.int .i64 k) h13 nu (c_seq (c_region (wl (r_lss rfl rfl) (x_nil (e_S ?_)))))
 refine c_seq ?_
 refine c_ifd rfl (fun c14 => ?_) (fun c14 => ?_)
 ·
  have hlt : k < xs.length := by omega
  have hlt2 : k < ys.length := by omega
  obtain ⟨xb, xo, rfl, hxb, hxc⟩ := hX.at_ hlt
  obtain ⟨yb, yo, rfl, hyb, hyc⟩ := hY.at_ hlt2
  refine c_skip (e_S (c_seq (c_block (c_seq (c_region ?_)))))
  refine wmI rfl (waI rfl (x_nil (e_S (c_seq ?_))))
  refine c_still kR kR (fun w2 hs => ?_)
  replace hB := hB.tr0 hs
  clear hs
  refine ws (r_mv (v := .slice _ _ _) rfl) (ws (r_mv (v := .int _ _) rfl) (ws (r_ia (i := k) U43 sz3_GLoose rfl rfl om rfl) (ws (r_ld1 (v := .int _ _) U3 rfl rfl (hB.cell hxb hxc)) (ws (r_mv (v := .slice _ _ _) rfl) (ws (r_mv (v := .int _ _) rfl) ?_)))))
  refine ws (r_ia (i := k) U43 sz3_GLoose rfl rfl om rfl) (ws (r_ld1 (v := .int _ _) U3 rfl rfl (hB.cell hyb hyc)) (ws (r_neq rfl rfl) (s_nil (e_S ?_))))
  refine c_ifd rfl (fun c24 => ?_) (fun c24 => ?_)
  ·
   have hne : ¬ xs = ys := fun e => c24 (by simp only [e])
   refine c_seq (c_region (waB rfl (x_nil (e_S (c_ret ?_)))))
   refine e_Br (e_Sr (e_LSr (e_Br (e_Sr (fin1 (.inl rfl) rfl rfl ?_)))))
   exact ⟨ret_bool (decide_eq_false hne), hB⟩
  refine c_skip (e_B (e_S (c_region (wl (r_add rfl rfl rfl om) (wmI rfl ?_)))))
  refine x_nil (e_LS (xs.length - (k + 1)) om agA ?_)
  exact ⟨k + 1, by omega, rfl, rfl, hB, fun j hj hj2 h => by
    by_cases e : j = k
    · subst e; exact Decidable.not_not.1 c24
    · exact hall j hj hj2 om⟩
 have heq : xs = ys := List.ext_getElem hle (fun j h1 h2 => hall j h1 h2 om)
 refine c_exit (e_Sx (e_LSx (e_Bx (e_S (c_seq ?_)))))
 refine c_region (waB rfl (x_nil (e_S (c_ret (fin1 (.inl rfl) rfl rfl ?_)))))
 exact ⟨ret_bool (decide_eq_true heq), hB⟩
end Go.Proofs.YtegngekpmpdngaaDoor
