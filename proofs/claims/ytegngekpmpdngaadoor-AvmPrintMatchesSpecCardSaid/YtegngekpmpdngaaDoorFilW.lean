/- Filling a graph: each missing feature leads to a new node. Nodes are named by the paths that lead to them, so that two ways to fill a graph agree. No program in sight. Rows of links in memory that are apart from one another, so that each may be written in place. No program in sight. Filling, step by step: the program's one pass, the reference's rounds; what Fill and Total are to return. No program in sight. -/
import Derived.Test.YtegngekpmpdngaaDoorShf
import Derived.Test.YtegngekpmpdngaaDoorGro
namespace Go.Proofs.YtegngekpmpdngaaDoor
open Go.RowKit
def insF (xs : List (Int × Int)) (f t : Int) : List (Int × Int) := xs.filter (fun y => decide (y.1 < f)) ++ (f, t) :: xs.filter (fun y => decide (f < y.1))
theorem tgt_neg {xs : List (Int × Int)} {f : Int} (hs : Srt xs) (hp : ∀ z ∈ xs, 0 ≤ z.2) (h : tgt xs f < 0) : ∀ z ∈ xs, ¬ z.1 = f := fun z hz e => by
  have h1 := tgt_in hs hz
  rw [e] at h1
  have := hp z hz
  omega
theorem insF_mem {xs : List (Int × Int)} {f t : Int} (hn : ∀ z ∈ xs, ¬ z.1 = f) (z : Int × Int) : z ∈ insF xs f t ↔ z ∈ xs ∨ z = (f, t) := by
  unfold insF
  simp only [List.mem_append, List.mem_cons, List.mem_filter, decide_eq_true_eq]
  constructor
  · rintro (⟨h, _⟩ | h | ⟨h, _⟩)
    · exact .inl h
    · exact .inr h
    · exact .inl h
  · rintro (h | h)
    · have := hn z h
      rcases Int.lt_trichotomy z.1 f with h1 | h1 | h1
      · exact .inl ⟨h, h1⟩
      · exact absurd h1 this
      · exact .inr (.inr ⟨h, h1⟩)
    · exact .inr (.inl h)
theorem insF_srt {xs : List (Int × Int)} {f t : Int} (hs : Srt xs) : Srt (insF xs f t) := by
  unfold insF Srt
  rw [List.pairwise_append]
  refine ⟨List.Pairwise.filter _ hs, List.pairwise_cons.2 ⟨fun z hz => ?_, List.Pairwise.filter _ hs⟩, fun a ha b hb => ?_⟩
  · have := (List.mem_filter.1 hz).2
    simpa using this
  · have h1 : a.1 < f := by simpa using (List.mem_filter.1 ha).2
    rcases List.mem_cons.1 hb with e | hb
    · rw [e]; exact h1
    · have h2 : f < b.1 := by simpa using (List.mem_filter.1 hb).2
      omega
theorem nm_inj {α : Type} {xs : List α} (h : xs.Nodup) {i j : Nat} {z : α} (h1 : xs[i]? = some z) (h2 : xs[j]? = some z) : i = j := by
  obtain ⟨hi, e1⟩ := List.getElem?_eq_some_iff.1 h1
  obtain ⟨hj, e2⟩ := List.getElem?_eq_some_iff.1 h2
  rcases Nat.lt_trichotomy i j with h3 | h3 | h3
  · exact absurd (e1.trans e2.symm) (List.pairwise_iff_getElem.1 h i j hi hj h3)
  · exact h3
  · exact absurd (e2.trans e1.symm) (List.pairwise_iff_getElem.1 h j i hj hi h3)
theorem nodup_leA {α : Type} [DecidableEq α] : ∀ {xs ys : List α}, xs.Nodup → (∀ x ∈ xs, x ∈ ys) → xs.length ≤ ys.length
  | [], _, _, _ => Nat.zero_le _
  | x :: xs, ys, hn, h => by
    obtain ⟨h1, h2⟩ := List.nodup_cons.1 hn
    have hx := h x (List.mem_cons_self ..)
    have hl := List.length_erase_of_mem hx
    have hp := List.length_pos_of_mem hx
    have := nodup_leA (xs := xs) (ys := ys.erase x) h2 (fun y hy => (List.mem_erase_of_ne (fun e : y = x => h1 (by rw [← e]; exact hy))).2 (h y (List.mem_cons_of_mem _ hy)))
    rw [List.length_cons]; omega
abbrev Nm := Nat × List Nat
section names
variable (l : List Ty) (fs : List Ft) (C : List Nd)
def tyNm : Nm → Nat
  | (i, []) => (nd C i).ty.toNat
  | (_, k :: _) => (ftAt fs (k : Int)).val.toNat
def LackN (z : Nm) (k : Nat) : Prop := k < fs.length ∧ sub l (tyNm fs C z) (ftAt fs (k : Int)).of.toNat = true ∧ (z.2 = [] → tgt (nd C z.1).ln (k : Int) < 0)
inductive Need : Nm → Prop
  | base {i : Nat} (h : i < C.length) : Need (i, [])
  | step {i k : Nat} {p : List Nat} (h : Need (i, p)) (hl : LackN l fs C (i, p) k) : Need (i, k :: p)
structure Fil (A : List Nd) (nm : List Nm) : Prop where
  len : nm.length = A.length
  nodup : nm.Nodup
  base : ∀ i, i < C.length → nm[i]? = some (i, [])
  need : ∀ z ∈ nm, Need l fs C z
  par : ∀ i k p, (i, k :: p) ∈ nm → (i, p) ∈ nm
  ty : ∀ (x : Nat) z, nm[x]? = some z → (nd A x).ty = ((tyNm fs C z : Nat) : Int)
  srt : ∀ x, x < A.length → Srt (nd A x).ln
  ln : ∀ (x i : Nat) p, nm[x]? = some (i, p) → ∀ f t : Int, (f, t) ∈ (nd A x).ln ↔ (∃ k y : Nat, f = (k : Int) ∧ t = (y : Int) ∧ nm[y]? = some (i, k :: p)) ∨ (p = [] ∧ (f, t) ∈ (nd C i).ln)
def Tot (A : List Nd) : Prop := ∀ x, x < A.length → ∀ k : Nat, k < fs.length → sub l (nd A x).ty.toNat (ftAt fs (k : Int)).of.toNat = true → 0 ≤ tgt (nd A x).ln (k : Int)
end names
def addN (A : List Nd) (x k : Nat) (v : Int) : List Nd := (A.set x ⟨(nd A x).ty, insF (nd A x).ln (k : Int) (A.length : Int)⟩) ++ [⟨v, []⟩]
theorem addN_len (A : List Nd) (x k : Nat) (v : Int) : (addN A x k v).length = A.length + 1 := by simp [addN]
theorem addN_at {A : List Nd} {x k : Nat} {v : Int} (hx : x < A.length) : nd (addN A x k v) x = ⟨(nd A x).ty, insF (nd A x).ln (k : Int) (A.length : Int)⟩ := by
  rw [nd_eq (by rw [addN_len]; omega)]
  simp [addN, hx]
theorem addN_ne {A : List Nd} {x y k : Nat} {v : Int} (hy : y < A.length) (hne : ¬ y = x) : nd (addN A x k v) y = nd A y := by
  rw [nd_eq (by rw [addN_len]; omega), nd_eq hy]
  simp only [addN, List.getElem_append, List.length_set, hy, dif_pos]
  rw [List.getElem_set_ne (fun e => hne e.symm)]
theorem addN_new {A : List Nd} {x k : Nat} {v : Int} : nd (addN A x k v) A.length = ⟨v, []⟩ := by
  rw [nd_eq (by rw [addN_len]; omega)]
  simp [addN]
section fil
variable {l : List Ty} {fs : List Ft} {C A B : List Nd} {nm nb : List Nm}
theorem ft_ok (hf : FOk l.length fs) {k : Nat} (hk : k < fs.length) : 0 ≤ (ftAt fs (k : Int)).of ∧ (ftAt fs (k : Int)).of < l.length ∧ 0 ≤ (ftAt fs (k : Int)).val ∧ (ftAt fs (k : Int)).val < l.length := by
  have h := hf.at_ k hk
  have e : ftAt fs (k : Int) = fs[k] := by simp [ftAt, List.getD, hk]
  rw [e]; omega
theorem Fil.lt (h : Fil l fs C A nm) {x : Nat} {z : Nm} (hx : nm[x]? = some z) : x < A.length := by
  have := (List.getElem?_eq_some_iff.1 hx).1
  rw [h.len] at this; exact this
theorem Fil.at_ (h : Fil l fs C A nm) {x : Nat} (hx : x < A.length) : ∃ i p, nm[x]? = some (i, p) := by
  rw [← h.len] at hx
  exact ⟨_, _, List.getElem?_eq_getElem hx⟩
theorem Fil.ge (h : Fil l fs C A nm) : C.length ≤ A.length := by
  rcases Nat.eq_zero_or_pos C.length with e | e
  · omega
  · have := h.lt (h.base (C.length - 1) om); omega
theorem Fil.tpos (hC : GV l fs C) (h : Fil l fs C A nm) {x i : Nat} {p : List Nat} (hx : nm[x]? = some (i, p)) : ∀ z ∈ (nd A x).ln, 0 ≤ z.2 := fun z hz => by
  rcases (h.ln x i p hx z.1 z.2).1 hz with ⟨k, y, _, e, _⟩ | ⟨hp, hm⟩
  · omega
  · subst hp
    have hn := h.need _ (List.mem_of_getElem? hx)
    cases hn with
    | base hi => exact (hC.gx.lr i hi _ hm).1
theorem Fil.start (hC : GV l fs C) : Fil l fs C C ((List.range C.length).map (fun i => (i, []))) := by
  have hat : ∀ (x : Nat) z, ((List.range C.length).map (fun i => ((i, []) : Nm)))[x]? = some z → x < C.length ∧ z = (x, []) := fun x z hx => by
    rw [List.getElem?_map] at hx
    by_cases h : x < C.length
    · rw [List.getElem?_range h] at hx
      exact ⟨h, (Option.some.inj hx).symm⟩
    · rw [List.getElem?_eq_none (by simpa using h)] at hx; cases hx
  refine ⟨by simp, ?_, fun i hi => by simp [hi], fun z hz => ?_, fun i k p hz => ?_, fun x z hx => ?_, hC.gx.srt, fun x i p hx f t => ?_⟩
  · refine List.pairwise_map.2 (List.nodup_range.imp (fun h e => h (congrArg Prod.fst e)))
  · obtain ⟨i, hi, rfl⟩ := List.mem_map.1 hz
    exact .base (List.mem_range.1 hi)
  · obtain ⟨j, _, e⟩ := List.mem_map.1 hz
    cases e
  · obtain ⟨h1, rfl⟩ := hat x z hx
    have := hC.gx.tr x h1
    show _ = (((nd C x).ty.toNat : Nat) : Int)
    omega
  · obtain ⟨h1, e⟩ := hat x _ hx
    cases e
    constructor
    · exact fun hm => .inr ⟨rfl, hm⟩
    · rintro (⟨k, y, _, _, hy⟩ | ⟨_, hm⟩)
      · obtain ⟨_, e⟩ := hat y _ hy; cases e
      · exact hm
theorem Fil.fresh (hC : GV l fs C) (h : Fil l fs C A nm) {x i k : Nat} {p : List Nat} (hx : nm[x]? = some (i, p)) (ht : tgt (nd A x).ln (k : Int) < 0) : ¬ (i, k :: p) ∈ nm := fun hm => by
  obtain ⟨y, hy⟩ := List.getElem?_of_mem hm
  exact tgt_neg (h.srt x (h.lt hx)) (h.tpos hC hx) ht _ ((h.ln x i p hx (k : Int) (y : Int)).2 (.inl ⟨k, y, rfl, rfl, hy⟩)) rfl
theorem Fil.add (hC : GV l fs C) (h : Fil l fs C A nm) {x i k : Nat} {p : List Nat} (hx : nm[x]? = some (i, p)) (hl : LackN l fs C (i, p) k) (ht : tgt (nd A x).ln (k : Int) < 0) : Fil l fs C (addN A x k (ftAt fs (k : Int)).val) (nm ++ [(i, k :: p)]) := by
  have hxl := h.lt hx
  have hfr := h.fresh hC hx ht
  have hlen := h.len
  have hno := tgt_neg (h.srt x hxl) (h.tpos hC hx) ht
  have hat : ∀ (y : Nat) z, (nm ++ [(i, k :: p)])[y]? = some z → (y < A.length ∧ nm[y]? = some z) ∨ (y = A.length ∧ z = (i, k :: p)) := fun y z hy => by
    by_cases e : y < nm.length
    · rw [List.getElem?_append_left e] at hy
      exact .inl ⟨by omega, hy⟩
    · rw [List.getElem?_append_right om] at hy
      by_cases e2 : y - nm.length = 0
      · rw [e2] at hy
        exact .inr ⟨by omega, (Option.some.inj hy).symm⟩
      · rw [List.getElem?_eq_none (by simp; omega)] at hy; cases hy
  have hold : ∀ (y : Nat) z, nm[y]? = some z → (nm ++ [(i, k :: p)])[y]? = some z := fun y z hy => by
    rw [List.getElem?_append_left (List.getElem?_eq_some_iff.1 hy).1]; exact hy
  have hnew : (nm ++ [(i, k :: p)])[A.length]? = some (i, k :: p) := by rw [← hlen]; simp
  refine ⟨by rw [addN_len, List.length_append, hlen]; rfl, ?_, fun j hj => hold _ _ (h.base j hj), fun z hz => ?_, fun j k2 p2 hz => ?_, fun y z hy => ?_, fun y hy => ?_, fun y j q hy f t => ?_⟩
  · exact List.nodup_append.2 ⟨h.nodup, by simp, fun a ha b hb e => by rw [List.mem_singleton.1 hb] at e; exact hfr (e ▸ ha)⟩
  · rcases List.mem_append.1 hz with hz | hz
    · exact h.need z hz
    · rw [List.mem_singleton.1 hz]
      exact .step (h.need _ (List.mem_of_getElem? hx)) hl
  · rcases List.mem_append.1 hz with hz | hz
    · exact List.mem_append_left _ (h.par _ _ _ hz)
    · cases List.mem_singleton.1 hz
      exact List.mem_append_left _ (List.mem_of_getElem? hx)
  · rcases hat y z hy with ⟨hyl, hy2⟩ | ⟨rfl, rfl⟩
    · by_cases e : y = x
      · subst e; rw [addN_at hyl]; exact h.ty y z hy2
      · rw [addN_ne hyl e]; exact h.ty y z hy2
    · rw [addN_new]
      have := (ft_ok hC.f hl.1).2.2.1
      show (ftAt fs (k : Int)).val = (((ftAt fs (k : Int)).val.toNat : Nat) : Int)
      omega
  · by_cases e : y = A.length
    · subst e; rw [addN_new]; exact List.Pairwise.nil
    · have hyl : y < A.length := by rw [addN_len] at hy; omega
      by_cases e2 : y = x
      · subst e2; rw [addN_at hyl]; exact insF_srt (h.srt y hyl)
      · rw [addN_ne hyl e2]; exact h.srt y hyl
  · rcases hat y _ hy with ⟨hyl, hy2⟩ | ⟨rfl, hyn⟩
    · by_cases e : y = x
      · subst e
        rw [hx] at hy2
        cases hy2
        rw [addN_at hyl]
        show (f, t) ∈ insF (nd A y).ln (k : Int) (A.length : Int) ↔ _
        rw [insF_mem hno, h.ln y i p hx f t]
        constructor
        · rintro ((⟨k2, y2, h1, h2, h3⟩ | h1) | h1)
          · exact .inl ⟨k2, y2, h1, h2, hold _ _ h3⟩
          · exact .inr h1
          · cases h1
            exact .inl ⟨k, A.length, rfl, rfl, hnew⟩
        · rintro (⟨k2, y2, h1, h2, h3⟩ | h1)
          · rcases hat y2 _ h3 with ⟨_, h4⟩ | ⟨rfl, h4⟩
            · exact .inl (.inl ⟨k2, y2, h1, h2, h4⟩)
            · cases h4
              exact .inr (by rw [h1, h2])
          · exact .inl (.inr h1)
      · rw [addN_ne hyl e, h.ln y j q hy2 f t]
        constructor
        · rintro (⟨k2, y2, h1, h2, h3⟩ | h1)
          · exact .inl ⟨k2, y2, h1, h2, hold _ _ h3⟩
          · exact .inr h1
        · rintro (⟨k2, y2, h1, h2, h3⟩ | h1)
          · rcases hat y2 _ h3 with ⟨_, h4⟩ | ⟨rfl, h4⟩
            · exact .inl ⟨k2, y2, h1, h2, h4⟩
            · cases h4
              exact absurd (nm_inj h.nodup hy2 hx) e
          · exact .inr h1
    · cases hyn
      rw [addN_new]
      constructor
      · intro hm; cases hm
      · rintro (⟨k2, y2, h1, h2, h3⟩ | ⟨h1, _⟩)
        · rcases hat y2 _ h3 with ⟨_, h4⟩ | ⟨rfl, h4⟩
          · exact absurd (h.par _ _ _ (List.mem_of_getElem? h4)) hfr
          · have := congrArg (fun z : Nm => z.2.length) h4
            simp at this
        · cases h1
theorem Fil.all (hC : GV l fs C) (h : Fil l fs C A nm) (ht : Tot l fs A) {z : Nm} (hz : Need l fs C z) : z ∈ nm := by
  induction hz with
  | base hi => exact List.mem_of_getElem? (h.base _ hi)
  | step hn hl ih =>
    rename_i i k p
    obtain ⟨x, hx⟩ := List.getElem?_of_mem ih
    have h1 := ht x (h.lt hx) k hl.1 (by rw [h.ty x _ hx]; exact hl.2.1)
    have h2 := mem_tgt h1
    rcases (h.ln x i p hx _ _).1 h2 with ⟨k2, y, e, _, hy⟩ | ⟨hp, hm⟩
    · have e : k = k2 := by omega
      rw [e]; exact List.mem_of_getElem? hy
    · have h3 := hl.2.2 hp
      cases hn with
      | base hi => exact absurd rfl (tgt_neg (hC.gx.srt i hi) (fun z hz => (hC.gx.lr i hi z hz).1) h3 _ hm)
      | step _ _ => cases hp
theorem Fil.zero (hC : GV l fs C) (h : Fil l fs C A nm) : nm[0]? = some (0, []) := h.base 0 hC.gx.pos
theorem Fil.hom (hC : GV l fs C) (h : Fil l fs C A nm) (k : Fil l fs C B nb) (hs : ∀ z ∈ nm, z ∈ nb) : Maps l A B := by
  have hix : ∀ (x : Nat) z, nm[x]? = some z → nb[nb.idxOf (nm.getD x (0, []))]? = some z ∧ nm.getD x (0, []) = z := fun x z hx => by
    have e : nm.getD x (0, []) = z := by simp [List.getD, hx]
    rw [e]
    have hm := hs z (List.mem_of_getElem? hx)
    exact ⟨by rw [List.getElem?_eq_getElem (List.idxOf_lt_length_of_mem hm), List.getElem_idxOf], rfl⟩
  have huq : ∀ (x y : Nat) z, nm[x]? = some z → nb[y]? = some z → nb.idxOf (nm.getD x (0, [])) = y := fun x y z hx hy => nm_inj k.nodup (hix x z hx).1 hy
  refine ⟨fun x => nb.idxOf (nm.getD x (0, [])), huq 0 0 _ (h.zero hC) (k.zero hC), fun x hx => ?_, fun x hx => ?_, fun x hx y hy => ?_⟩
  · obtain ⟨i, p, hi⟩ := h.at_ hx
    exact k.lt (hix x _ hi).1
  · obtain ⟨i, p, hi⟩ := h.at_ hx
    rw [k.ty _ _ (hix x _ hi).1, h.ty _ _ hi]
    exact sub_refl hC.s.vt _
  · obtain ⟨i, p, hi⟩ := h.at_ hx
    obtain ⟨f, t⟩ := y
    have hb := (hix x _ hi).1
    have hin : ∀ (y : Nat), (f, (y : Int)) ∈ (nd B (nb.idxOf (nm.getD x (0, [])))).ln → tgt (nd B (nb.idxOf (nm.getD x (0, [])))).ln f = (y : Int) := fun y hy => tgt_in (k.srt _ (k.lt hb)) hy
    rcases (h.ln x i p hi f t).1 hy with ⟨k2, y2, rfl, rfl, h3⟩ | ⟨rfl, hm⟩
    · rw [Int.toNat_natCast]
      exact hin _ ((k.ln _ i p hb _ _).2 (.inl ⟨k2, _, rfl, rfl, (hix y2 _ h3).1⟩))
    · have hn := h.need _ (List.mem_of_getElem? hi)
      cases hn with
      | base hil =>
        have h4 := hC.gx.lr i hil _ hm
        have h5 := huq t.toNat t.toNat _ (h.base _ h4.2) (k.base _ h4.2)
        show tgt _ f = ((nb.idxOf (nm.getD t.toNat (0, [])) : Nat) : Int)
        rw [h5]
        refine hin _ ((k.ln _ i [] hb _ _).2 (.inr ⟨rfl, ?_⟩))
        rw [Int.toNat_of_nonneg h4.1]; exact hm
theorem Fil.gx (hC : GV l fs C) (h : Fil l fs C A nm) : GX l A := by
  have htl : ∀ z, Need l fs C z → tyNm fs C z < l.length := fun z hz => by
    cases hz with
    | base hi => have := hC.gx.tr _ hi; show Int.toNat _ < _; omega
    | step _ hl => have := ft_ok hC.f hl.1; show Int.toNat _ < _; omega
  have hlr : ∀ x, x < A.length → ∀ y ∈ (nd A x).ln, 0 ≤ y.2 ∧ y.2.toNat < A.length := fun x hx y hy => by
    obtain ⟨i, p, hi⟩ := h.at_ hx
    rcases (h.ln x i p hi y.1 y.2).1 hy with ⟨k2, y2, _, e, h3⟩ | ⟨rfl, hm⟩
    · have := h.lt h3; omega
    · have hn := h.need _ (List.mem_of_getElem? hi)
      cases hn with
      | base hil => have := hC.gx.lr i hil _ hm; have := h.ge; omega
  have hrb : ∀ i, Rch C i → i < C.length → Rch A i := fun i hr => by
    induction hr with
    | zero => exact fun _ => .zero
    | step hr hi hx ih =>
      rename_i i y
      intro _
      have h1 := h.base i hi
      have h2 : y ∈ (nd A i).ln := (h.ln i i [] h1 y.1 y.2).2 (.inr ⟨rfl, by rw [nd_eq hi]; exact hx⟩)
      refine Rch.step (ih hi) (h.lt h1) ?_
      rw [nd_eq (h.lt h1)] at h2; exact h2
  have hra : ∀ (p : List Nat) (i x : Nat), nm[x]? = some (i, p) → Rch A x := fun p => by
    induction p with
    | nil =>
      intro i x hx
      have hn := h.need _ (List.mem_of_getElem? hx)
      cases hn with
      | base hi =>
        have e := nm_inj h.nodup hx (h.base i hi)
        subst e
        exact hrb _ (hC.gx.rch _ hi) hi
    | cons k p ih =>
      intro i x hx
      obtain ⟨y, hy⟩ := List.getElem?_of_mem (h.par _ _ _ (List.mem_of_getElem? hx))
      have h2 : ((k : Int), (x : Int)) ∈ (nd A y).ln := (h.ln y i p hy _ _).2 (.inl ⟨k, x, rfl, rfl, hx⟩)
      rw [nd_eq (h.lt hy)] at h2
      have := Rch.step (ih i y hy) (h.lt hy) h2
      rwa [Int.toNat_natCast] at this
  refine ⟨⟨hC.s.vt, nLL hC.gx.pos h.ge, fun x hx => ?_, h.srt, hlr⟩, fun x hx => ?_⟩
  · obtain ⟨i, p, hi⟩ := h.at_ hx
    rw [h.ty x _ hi]
    have := htl _ (h.need _ (List.mem_of_getElem? hi))
    omega
  · obtain ⟨i, p, hi⟩ := h.at_ hx
    exact hra p i x hi
theorem Fil.feats (hC : GV l fs C) (h : Fil l fs C A nm) : ∀ x, x < A.length → ∀ y ∈ (nd A x).ln, 0 ≤ y.1 ∧ y.1 < fs.length := fun x hx y hy => by
  obtain ⟨i, p, hi⟩ := h.at_ hx
  rcases (h.ln x i p hi y.1 y.2).1 hy with ⟨k2, y2, e, _, h3⟩ | ⟨rfl, hm⟩
  · have hn := h.need _ (List.mem_of_getElem? h3)
    cases hn with
    | step _ hl => have := hl.1; omega
  · have hn := h.need _ (List.mem_of_getElem? hi)
    cases hn with
    | base hil =>
      have h1 := hC.lt hil hm
      exact ⟨h1.1, h1.2.1⟩
theorem Fil.valid (hC : GV l fs C) (h : Fil l fs C A nm) (h60 : A.length ≤ 60) : graphF l fs A = (0, 0) := by
  refine gf_mk hC.h (h.gx hC) h60 (h.feats hC) (fun x hx y hy => ?_)
  obtain ⟨i, p, hi⟩ := h.at_ hx
  have hty := h.ty x _ hi
  rcases (h.ln x i p hi y.1 y.2).1 hy with ⟨k2, y2, e, e2, h3⟩ | ⟨rfl, hm⟩
  · have hn := h.need _ (List.mem_of_getElem? h3)
    cases hn with
    | step _ hl =>
      rw [e, e2, Int.toNat_natCast, hty, h.ty y2 _ h3]
      exact ⟨hl.2.1, sub_refl hC.s.vt _⟩
  · have hn := h.need _ (List.mem_of_getElem? hi)
    cases hn with
    | base hil =>
      obtain ⟨_, _, h3, h4⟩ := hC.lt hil hm
      have h5 := hC.gx.lr i hil _ hm
      have h6 := h.ty _ _ (h.base _ h5.2)
      rw [hty, h6]
      exact ⟨h3, h4⟩
theorem Fil.same (hC : GV l fs C) (h : Fil l fs C A nm) (k : Fil l fs C B nb) (hA : Tot l fs A) (hB : Tot l fs B) {oa ob : List Nat} (da : DL A [0] [] oa) (db : DL B [0] [] ob) : canG A oa = canG B ob :=
  (can_eq (k.gx hC) (h.gx hC) (k.hom hC h (fun z hz => h.all hC hA (k.need z hz))) (h.hom hC k (fun z hz => k.all hC hB (h.need z hz))) db da)
theorem Fil.many (hC : GV l fs C) (k : Fil l fs C B nb) (hB : Tot l fs B) {xs : List Nm} (hn : xs.Nodup) (hx : ∀ z ∈ xs, Need l fs C z) : xs.length ≤ B.length := by
  rw [← k.len]
  exact nodup_leA hn (fun z hz => k.all hC hB (hx z hz))
end fil
end Go.Proofs.YtegngekpmpdngaaDoor
namespace Go.Proofs.YtegngekpmpdngaaDoor
open Go.RowKit
def putG (V : Nat → Value) (m : Nat) (v : Value) (x : Nat) : Value := if x = m then v else V x
def RowsG (w : World) (base n : Nat) (V : Nat → Value) (L : Nat → List (Int × Int)) : Prop :=
  (∀ x, x < n → ∃ A c, V x = .slice A (L x).length c ∧ Own w base 30 2 A (L x).length c (lnV (L x))) ∧
  (∀ x y, x < n → y < n → x ≠ y → ∀ A m c A' m' c', V x = .slice A m c → V y = .slice A' m' c' → ∀ g ∈ aL A, ¬ g ∈ aL A')
theorem RowsG.nil (w : World) (base : Nat) (V : Nat → Value) (L : Nat → List (Int × Int)) : RowsG w base 0 V L := ⟨fun x hx => by omega, fun x y hx => by omega⟩
theorem RowsG.tr {w w' : World} {base n : Nat} {V : Nat → Value} {L : Nat → List (Int × Int)} {X : List Nat} (h : RowsG w base n V L) (hs : Same X w w') (hx : ∀ g ∈ X, g < base ∨ (∃ cs t, Blk w g t cs ∧ t ≠ 30) ∨ ∀ x A m c, x < n → V x = .slice A m c → ∀ k ∈ aL A, k < g) : RowsG w' base n V L :=
  ⟨fun x hxn => by
    obtain ⟨A, c, e, ho⟩ := h.1 x hxn
    refine ⟨A, c, e, ho.tr hs (fun g hg hgx => ?_)⟩
    rcases hx g hgx with h1 | ⟨cs, t, h1, h2⟩ | h1
    · have := (ho.lt g hg).1; omega
    · obtain ⟨c2, h3⟩ := ho.typ g hg
      exact h2 (blk_type h1 h3)
    · have := h1 x A _ c hxn e g hg; omega, h.2⟩
theorem RowsG.bd {w : World} {base n : Nat} {V : Nat → Value} {L : Nat → List (Int × Int)} (h : RowsG w base n V L) {x m c k : Nat} {A : Option Addr} (hx : x < n) (hV : V x = .slice A m c) (hk : k ∈ aL A) : base ≤ k ∧ k < w.heap.size ∧ ∃ cs, Blk w k 30 cs := by
  obtain ⟨A2, c2, e, ho⟩ := h.1 x hx
  rw [hV] at e
  cases e
  exact ⟨(ho.lt k hk).1, (ho.lt k hk).2, ho.typ k hk⟩
theorem RowsG.snoc {w : World} {base n : Nat} {V : Nat → Value} {L : Nat → List (Int × Int)} (h : RowsG w base n V L) : RowsG w base (n + 1) (putG V n (.slice none 0 0)) (fun x => if x = n then [] else L x) := by
  refine ⟨fun x hx => ?_, fun x y hx hy hne A m c A' m' c' h1 h2 => ?_⟩
  · by_cases e : x = n
    · simp only [putG, e, if_true]
      exact ⟨none, 0, rfl, Own.nil _ _ _ _⟩
    · simp only [putG, e, if_false]
      exact h.1 x om
  · by_cases e : x = n
    · simp only [putG, e, if_true, Value.slice.injEq] at h1
      rw [← h1.1]; exact fun g hg => by cases hg
    · by_cases e2 : y = n
      · simp only [putG, e2, if_true, Value.slice.injEq] at h2
        rw [← h2.1]; exact fun g _ hg => by cases hg
      · simp only [putG, e, e2, if_false] at h1 h2
        exact h.2 x y om om hne A m c A' m' c' h1 h2
theorem RowsG.put {w w' : World} {base n k m c c' : Nat} {A A' : Option Addr} {V : Nat → Value} {L : Nat → List (Int × Int)} {ys : List (Int × Int)} (h : RowsG w base n V L) (hk : k < n) (hV : V k = .slice A m c) (hs : Same (aL A) w w')
    (ho : Own w' base 30 2 A' ys.length c' (lnV ys)) (hg : ∀ g ∈ aL A', g ∈ aL A ∨ w.heap.size ≤ g) :
    RowsG w' base n (fun x => if x = k then .slice A' ys.length c' else V x) (fun x => if x = k then ys else L x) := by
  have hfar : ∀ x, x < n → x ≠ k → ∀ A2 m2 c2, V x = .slice A2 m2 c2 → ∀ g ∈ aL A', ¬ g ∈ aL A2 := fun x hx hne A2 m2 c2 h1 g h3 h2 => by
    rcases hg g h3 with hg | hg
    · exact h.2 k x hk hx (Ne.symm hne) _ _ _ _ _ _ hV h1 g hg h2
    · obtain ⟨A3, c3, e, h3⟩ := h.1 x hx
      rw [h1] at e
      cases e
      have := (h3.lt g h2).2; omega
  refine ⟨fun x hx => ?_, fun x z hx hz hne A1 m1 c1 A2 m2 c2 h1 h2 q hq1 hq2 => ?_⟩
  · by_cases e : x = k
    · simp only [e, if_true]
      exact ⟨_, c', rfl, ho⟩
    · simp only [e, if_false]
      obtain ⟨A1, c1, e1, h1⟩ := h.1 x hx
      exact ⟨A1, c1, e1, h1.tr hs (fun q hq hqa => h.2 k x hk hx (Ne.symm e) _ _ _ _ _ _ hV e1 q hqa hq)⟩
  · by_cases e : x = k
    · by_cases e2 : z = k
      · exact hne (by rw [e, e2])
      · simp only [e, if_true, Value.slice.injEq] at h1
        simp only [e2, if_false] at h2
        rw [← h1.1] at hq1
        exact hfar z hz e2 _ _ _ h2 q hq1 hq2
    · simp only [e, if_false] at h1
      by_cases e2 : z = k
      · simp only [e2, if_true, Value.slice.injEq] at h2
        rw [← h2.1] at hq2
        exact hfar x hx e _ _ _ h1 q hq2 hq1
      · simp only [e2, if_false] at h2
        exact h.2 x z hx hz hne _ _ _ _ _ _ h1 h2 q hq1 hq2
theorem RowsG.congr {w : World} {base n : Nat} {V V' : Nat → Value} {L L' : Nat → List (Int × Int)} (h : RowsG w base n V L) (hv : ∀ x, x < n → V x = V' x) (hl : ∀ x, x < n → L x = L' x) : RowsG w base n V' L' :=
  ⟨fun x hx => by rw [← hv x hx, ← hl x hx]; exact h.1 x hx, fun x y hx hy hne A m c A' m' c' h1 h2 => h.2 x y hx hy hne A m c A' m' c' ((hv x hx).trans h1) ((hv y hy).trans h2)⟩
end Go.Proofs.YtegngekpmpdngaaDoor
namespace Go.Proofs.YtegngekpmpdngaaDoor
open Go.RowKit
section fil
variable {l : List Ty} {fs : List Ft} {C A D : List Nd} {nm na : List Nm}
def CompN (l : List Ty) (fs : List Ft) (A : List Nd) (x k : Nat) : Prop := sub l (nd A x).ty.toNat (ftAt fs (k : Int)).of.toNat = true → 0 ≤ tgt (nd A x).ln (k : Int)
def DoneP (l : List Ty) (fs : List Ft) (A : List Nd) (i k : Nat) : Prop := (∀ x, x < i → ∀ k', k' < fs.length → CompN l fs A x k') ∧ ∀ k', k' < k → CompN l fs A i k'
theorem DoneP.start : DoneP l fs A 0 0 := ⟨fun x hx => by omega, fun k hk => by omega⟩
theorem DoneP.skip {i k : Nat} (h : DoneP l fs A i k) (hc : CompN l fs A i k) : DoneP l fs A i (k + 1) := ⟨h.1, fun k' hk => by
  by_cases e : k' = k
  · subst e; exact hc
  · exact h.2 k' om⟩
theorem DoneP.row {i : Nat} (h : DoneP l fs A i fs.length) : DoneP l fs A (i + 1) 0 := ⟨fun x hx k' hk => by
  by_cases e : x = i
  · subst e; exact h.2 k' hk
  · exact h.1 x om k' hk, fun k hk => by omega⟩
theorem comp_add (hC : GV l fs C) (hF : Fil l fs C A nm) {x k : Nat} {v : Int} (hx : x < A.length) (ht : tgt (nd A x).ln (k : Int) < 0) {y k' : Nat} (hy : y < A.length) (h : CompN l fs A y k' ∨ (y = x ∧ k' = k)) : CompN l fs (addN A x k v) y k' := by
  obtain ⟨j, p, hj⟩ := hF.at_ hx
  have hno := tgt_neg (hF.srt x hx) (hF.tpos hC hj) ht
  unfold CompN
  by_cases e : y = x
  · subst e
    rw [addN_at hy]
    intro hs
    have hsrt : Srt (insF (nd A y).ln (k : Int) (A.length : Int)) := insF_srt (hF.srt y hy)
    rcases h with h | ⟨_, rfl⟩
    · have h1 := mem_tgt (h hs)
      have h2 := tgt_in hsrt ((insF_mem hno (t := (A.length : Int)) _).2 (.inl h1))
      have := h hs
      show 0 ≤ tgt (insF (nd A y).ln (k : Int) (A.length : Int)) (k' : Int)
      rw [h2]; exact this
    · have h2 := tgt_in hsrt ((insF_mem hno (t := (A.length : Int)) _).2 (.inr rfl))
      show 0 ≤ tgt (insF (nd A y).ln (k' : Int) (A.length : Int)) (k' : Int)
      rw [h2]; show (0 : Int) ≤ (A.length : Int); omega
  · rw [addN_ne hy e]
    rcases h with h | ⟨h, _⟩
    · exact h
    · exact absurd h e
theorem DoneP.add (hC : GV l fs C) (hF : Fil l fs C A nm) {i k : Nat} {v : Int} (hi : i < A.length) (ht : tgt (nd A i).ln (k : Int) < 0) (h : DoneP l fs A i k) : DoneP l fs (addN A i k v) i (k + 1) :=
  ⟨fun x hx k' hk => comp_add hC hF hi ht om (.inl (h.1 x hx k' hk)), fun k' hk => comp_add hC hF hi ht hi (by
    by_cases e : k' = k
    · exact .inr ⟨rfl, e⟩
    · exact .inl (h.2 k' om))⟩
theorem Fil.lack (hC : GV l fs C) (h : Fil l fs C A nm) {x i k : Nat} {p : List Nat} (hx : nm[x]? = some (i, p)) (hk : k < fs.length) (hs : sub l (nd A x).ty.toNat (ftAt fs (k : Int)).of.toNat = true) (ht : tgt (nd A x).ln (k : Int) < 0) : LackN l fs C (i, p) k := by
  refine ⟨hk, ?_, fun hp => ?_⟩
  · rw [h.ty x _ hx] at hs; exact hs
  · have hp : p = [] := hp
    subst hp
    refine Classical.byContradiction (fun hc => ?_)
    have h1 := mem_tgt (xs := (nd C i).ln) (f := (k : Int)) (by show 0 ≤ tgt (nd C i).ln (k : Int); have : ¬ tgt (nd C i).ln (k : Int) < 0 := hc; omega)
    exact tgt_neg (h.srt x (h.lt hx)) (h.tpos hC hx) ht _ ((h.ln x i [] hx _ _).2 (.inr ⟨rfl, h1⟩)) rfl
def Many (l : List Ty) (fs : List Ft) (C : List Nd) : Prop := ∃ xs : List Nm, xs.Nodup ∧ (∀ z ∈ xs, Need l fs C z) ∧ 60 < xs.length
theorem Fil.few (hC : GV l fs C) (h : Fil l fs C A nm) (ht : Tot l fs A) (hl : A.length ≤ 60) : ¬ Many l fs C := fun ⟨_, h1, h2, h3⟩ => by
  have := h.many hC ht h1 h2
  omega
structure Rnd (l : List Ty) (fs : List Ft) (C A D : List Nd) (na nm : List Nm) (i k : Nat) : Prop where
  fa : Fil l fs C A na
  fd : Fil l fs C D nm
  pre : ∃ s, nm = na ++ s
  ge : A.length ≤ D.length
  same : ∀ x, i < x → (nd D x).ln = (nd A x).ln
  rest : ∀ f t : Int, (k : Int) ≤ f → ((f, t) ∈ (nd D i).ln ↔ (f, t) ∈ (nd A i).ln)
  done : DoneP l fs D i k
theorem Rnd.start (h : Fil l fs C A na) : Rnd l fs C A A na na 0 0 := ⟨h, h, ⟨[], by simp⟩, Nat.le_refl _, fun _ _ => rfl, fun _ _ _ => Iff.rfl, DoneP.start⟩
theorem Rnd.skip {i k : Nat} (h : Rnd l fs C A D na nm i k) (hc : CompN l fs D i k) : Rnd l fs C A D na nm i (k + 1) :=
  ⟨h.fa, h.fd, h.pre, h.ge, h.same, fun f t hf => h.rest f t om, h.done.skip hc⟩
theorem Rnd.add (hC : GV l fs C) {i k : Nat} (h : Rnd l fs C A D na nm i k) (hi : i < A.length) (hk : k < fs.length) (hs : sub l (nd D i).ty.toNat (ftAt fs (k : Int)).of.toNat = true) (ht : tgt (nd D i).ln (k : Int) < 0) : ∃ nm', Rnd l fs C A (addN D i k (ftAt fs (k : Int)).val) na nm' i (k + 1) := by
  have hd := h.ge
  obtain ⟨j, p, hj⟩ := h.fd.at_ (show i < D.length by omega)
  obtain ⟨s, hs2⟩ := h.pre
  refine ⟨_, h.fa, h.fd.add hC hj (h.fd.lack hC hj hk hs ht) ht, ⟨s ++ _, by rw [hs2, List.append_assoc]⟩, by rw [addN_len]; omega, fun x hx => ?_, fun f t hf => ?_, h.done.add hC h.fd om ht⟩
  · rw [← h.same x hx]
    by_cases e : x < D.length
    · rw [addN_ne e om]
    · rw [nd_out (g := D) e]
      by_cases e2 : x = D.length
      · subst e2; rw [addN_new]
      · rw [nd_out (by rw [addN_len]; omega)]
  · rw [addN_at om]
    show (f, t) ∈ insF (nd D i).ln (k : Int) (D.length : Int) ↔ _
    rw [insF_mem (tgt_neg (h.fd.srt i om) (h.fd.tpos hC hj) ht)]
    constructor
    · rintro (h1 | h1)
      · exact (h.rest f t om).1 h1
      · cases h1; omega
    · exact fun h1 => .inl ((h.rest f t om).2 h1)
theorem Rnd.row {i : Nat} (h : Rnd l fs C A D na nm i fs.length) : Rnd l fs C A D na nm (i + 1) 0 :=
  ⟨h.fa, h.fd, h.pre, h.ge, fun x hx => h.same x om, fun f t _ => by rw [h.same (i + 1) om], h.done.row⟩
end fil
section says
variable {l : List Ty} {fs : List Ft} {C g : List Nd}
theorem gv_can (h : GV l fs g) {o : List Nat} (hd : DL g [0] [] o) : GV l fs (canG g o) := gv_of ((h.gx.toGY.trr h.gok.pos hd).valid h)
end says
end Go.Proofs.YtegngekpmpdngaaDoor
