/- Raising types, one demand after the other: the greatest types that meet all demands, or none. For Infer. No program in sight. Loose graphs (types not yet raised), and what Infer returns of them. No program in sight. The reference's Inferred, in memory: what is asked of a node, the first common subtype, and the types at the end. No program in sight. The engine: a region that draws its order, in which some operations store into blocks of a list X; every operation leaves what the others have told. -/
import Derived.Test.YtfhmpbmgddaiiaaDoorSBase
import Derived.Test.YtfhmpbmgddaiiaaDoorGro
import Derived.Test.YtfhmpbmgddaiiaaDoorEng2
namespace Go.Proofs.YtfhmpbmgddaiiaaDoor
open Go.RowKit
def raiseT (l : List Ty) (T : Nat → Nat) (c : Nat × Nat) (x : Nat) : Nat := if x = c.1 then (meet l (T c.1) c.2).1 else T x
def raiseL (l : List Ty) : List (Nat × Nat) → (Nat → Nat) → Option (Nat → Nat)
  | [], T => some T
  | c :: r, T => if (meet l (T c.1) c.2).2.1 = true then raiseL l r (raiseT l T c) else none
theorem meet_iff {l : List Ty} (hs : Sound l) {a b z : Nat} (h : (meet l a b).2.1 = true) (hz : z < l.length) : sub l z (meet l a b).1 = true ↔ sub l z a = true ∧ sub l z b = true := by
  obtain ⟨h1, h2, h3⟩ := meet_spec hs.le h
  constructor
  · intro h4
    simp only [comm, Bool.and_eq_true] at h2
    exact ⟨sub_trans hs.vt _ z z _ (Nat.le_refl _) h4 h2.1, sub_trans hs.vt _ z z _ (Nat.le_refl _) h4 h2.2⟩
  · intro h4
    exact h3 z hz (by simp [comm, h4.1, h4.2])
def Below1 (l : List Ty) (T : Nat → Nat) (cs : List (Nat × Nat)) (i z : Nat) : Prop := sub l z (T i) = true ∧ ∀ c ∈ cs, c.1 = i → sub l z c.2 = true
theorem raise_below {l : List Ty} (hs : Sound l) {T : Nat → Nat} {c : Nat × Nat} {r : List (Nat × Nat)} (h : (meet l (T c.1) c.2).2.1 = true) {i z : Nat} (hz : z < l.length) : Below1 l (raiseT l T c) r i z ↔ Below1 l T (c :: r) i z := by
  unfold Below1 raiseT
  by_cases e : i = c.1
  · subst e
    simp only [if_true]
    rw [meet_iff hs h hz]
    constructor
    · rintro ⟨⟨h1, h2⟩, h3⟩
      exact ⟨h1, fun d hd he => by
        rcases List.mem_cons.1 hd with hd | hd
        · rw [hd]; exact h2
        · exact h3 d hd he⟩
    · rintro ⟨h1, h2⟩
      exact ⟨⟨h1, h2 c (List.mem_cons_self ..) rfl⟩, fun d hd he => h2 d (List.mem_cons_of_mem _ hd) he⟩
  · simp only [if_neg e]
    constructor
    · rintro ⟨h1, h2⟩
      exact ⟨h1, fun d hd he => by
        rcases List.mem_cons.1 hd with hd | hd
        · rw [hd] at he; exact absurd he.symm e
        · exact h2 d hd he⟩
    · rintro ⟨h1, h2⟩
      exact ⟨h1, fun d hd he => h2 d (List.mem_cons_of_mem _ hd) he⟩
theorem raise_some {l : List Ty} (hs : Sound l) : ∀ {cs : List (Nat × Nat)} {T T' : Nat → Nat}, raiseL l cs T = some T' → ∀ i z, z < l.length → (sub l z (T' i) = true ↔ Below1 l T cs i z)
  | [], T, T', h, i, z, hz => by
    cases h
    exact ⟨fun h1 => ⟨h1, fun c hc => by cases hc⟩, fun h1 => h1.1⟩
  | c :: r, T, T', h, i, z, hz => by
    unfold raiseL at h
    by_cases hm : (meet l (T c.1) c.2).2.1 = true
    · rw [if_pos hm] at h
      rw [raise_some hs h i z hz, raise_below hs hm hz]
    · rw [if_neg hm] at h; cases h
theorem raise_lt {l : List Ty} (hs : Sound l) : ∀ {cs : List (Nat × Nat)} {T T' : Nat → Nat}, raiseL l cs T = some T' → (∀ i, T i < l.length) → ∀ i, T' i < l.length
  | [], T, T', h, ht, i => by cases h; exact ht i
  | c :: r, T, T', h, ht, i => by
    unfold raiseL at h
    by_cases hm : (meet l (T c.1) c.2).2.1 = true
    · rw [if_pos hm] at h
      refine raise_lt hs h (fun x => ?_) i
      unfold raiseT
      split
      · exact (meet_spec hs.le hm).1
      · exact ht x
    · rw [if_neg hm] at h; cases h
theorem raise_none {l : List Ty} (hs : Sound l) : ∀ {cs : List (Nat × Nat)} {T : Nat → Nat}, raiseL l cs T = none → (∀ i, T i < l.length) → (∀ c ∈ cs, c.2 < l.length) → ∃ i, ∀ z, z < l.length → ¬ Below1 l T cs i z
  | [], T, h, _, _ => by cases h
  | c :: r, T, h, ht, hc => by
    unfold raiseL at h
    by_cases hm : (meet l (T c.1) c.2).2.1 = true
    · rw [if_pos hm] at h
      obtain ⟨i, hi⟩ := raise_none hs h (fun x => by
        unfold raiseT
        split
        · exact (meet_spec hs.le hm).1
        · exact ht x) (fun d hd => hc d (List.mem_cons_of_mem _ hd))
      exact ⟨i, fun z hz h1 => hi z hz ((raise_below hs hm hz).2 h1)⟩
    · exact ⟨c.1, fun z hz h1 => hm (hs.all _ _ z (ht _) (hc c (List.mem_cons_self ..)) hz (by simp [comm, h1.1, h1.2 c (List.mem_cons_self ..) rfl]))⟩
theorem raise_app {l : List Ty} : ∀ {xs bs : List (Nat × Nat)} {T : Nat → Nat}, raiseL l (xs ++ bs) T = (raiseL l xs T).bind (raiseL l bs)
  | [], bs, T => rfl
  | c :: r, bs, T => by
    simp only [List.cons_append, raiseL]
    split
    · exact raise_app
    · rfl
def demN (fs : List Ft) (G : List Nd) (i : Nat) : List (Nat × Nat) := (nd G i).ln.flatMap (fun x => [(i, (ftAt fs x.1).of.toNat), (x.2.toNat, (ftAt fs x.1).val.toNat)])
def dem (fs : List Ft) (G : List Nd) : List (Nat × Nat) := (List.range G.length).flatMap (demN fs G)
theorem dem_mem {fs : List Ft} {G : List Nd} {c : Nat × Nat} : c ∈ dem fs G ↔ ∃ i, i < G.length ∧ ∃ x ∈ (nd G i).ln, c = (i, (ftAt fs x.1).of.toNat) ∨ c = (x.2.toNat, (ftAt fs x.1).val.toNat) := by
  simp only [dem, demN, List.mem_flatMap, List.mem_range, List.mem_cons, List.not_mem_nil, or_false]
def tyO (G : List Nd) (i : Nat) : Nat := (nd G i).ty.toNat
def reG (G : List Nd) (T : Nat → Nat) : List Nd := (List.range G.length).map (fun i => ⟨(T i : Int), (nd G i).ln⟩)
theorem reG_len (G : List Nd) (T : Nat → Nat) : (reG G T).length = G.length := by simp [reG]
theorem reG_nd {G : List Nd} {T : Nat → Nat} {i : Nat} (hi : i < G.length) : nd (reG G T) i = ⟨(T i : Int), (nd G i).ln⟩ := by simp [nd, reG, hi]
section infer
variable {l : List Ty} {fs : List Ft} {G v : List Nd} {T : Nat → Nat} {φ : Nat → Nat}
theorem rch_re {i : Nat} (h : Rch G i) : Rch (reG G T) i := by
  induction h with
  | zero => exact .zero
  | step hr hi hx ih =>
    rename_i i x
    have hl : i < (reG G T).length := by rw [reG_len]; exact hi
    refine Rch.step ih hl ?_
    have h1 := reG_nd (T := T) hi
    rw [nd_eq hl] at h1
    rw [h1, nd_eq hi]; exact hx
theorem inf_gx (hs : Sound l) (hx : GX l G) (hr : raiseL l (dem fs G) (tyO G) = some T) : GX l (reG G T) := by
  have ht : ∀ i, tyO G i < l.length := fun i => by
    by_cases hi : i < G.length
    · have := hx.tr i hi
      unfold tyO; omega
    · have := hs.pos
      simp [tyO, nd, List.getD, hi]; exact this
  have hl := raise_lt hs hr ht
  refine ⟨⟨hx.vt, by rw [reG_len]; exact hx.pos, fun i hi => ?_, fun i hi => ?_, fun i hi x hxm => ?_⟩, fun i hi => ?_⟩ <;> rw [reG_len] at hi
  · rw [reG_nd hi]
    have := hl i
    exact ⟨by show (0 : Int) ≤ (T i : Int); omega, by show (T i : Int) < l.length; omega⟩
  · rw [reG_nd hi]; exact hx.srt i hi
  · rw [reG_nd hi] at hxm
    rw [reG_len]; exact hx.lr i hi x hxm
  · exact rch_re (hx.rch i hi)
end infer
def askedL (fs : List Ft) (G : List Nd) (i : Nat) : List Nat := tyO G i :: ((nd G i).ln.map (fun x => (ftAt fs x.1).of.toNat) ++ (List.range G.length).flatMap (fun j => ((nd G j).ln.filter (fun x => decide (x.2 = (i : Int)))).map (fun x => (ftAt fs x.1).val.toNat)))
def firstC (l : List Ty) (as_ : List Nat) : Option Nat := (List.range l.length).find? (fun k => as_.all (fun a => sub l k a))
theorem asked_iff {l : List Ty} {fs : List Ft} {G : List Nd} {i z : Nat} (hi : i < G.length) (hlr : ∀ i, i < G.length → ∀ x ∈ (nd G i).ln, 0 ≤ x.2) : (∀ a ∈ askedL fs G i, sub l z a = true) ↔ Below1 l (tyO G) (dem fs G) i z := by
  constructor
  · intro h
    refine ⟨h _ (List.mem_cons_self ..), fun c hc he => ?_⟩
    obtain ⟨j, hj, x, hx, e⟩ := dem_mem.1 hc
    rcases e with e | e
    · rw [e] at he ⊢
      have he : j = i := he
      subst he
      exact h _ (List.mem_cons_of_mem _ (List.mem_append_left _ (List.mem_map.2 ⟨x, hx, rfl⟩)))
    · rw [e] at he ⊢
      have he : x.2.toNat = i := he
      have h0 := hlr j hj x hx
      exact h _ (List.mem_cons_of_mem _ (List.mem_append_right _ (List.mem_flatMap.2 ⟨j, List.mem_range.2 hj, List.mem_map.2 ⟨x, List.mem_filter.2 ⟨hx, decide_eq_true om⟩, rfl⟩⟩)))
  · rintro ⟨h1, h2⟩ a ha
    rcases List.mem_cons.1 ha with e | ha
    · rw [e]; exact h1
    · rcases List.mem_append.1 ha with ha | ha
      · obtain ⟨x, hx, rfl⟩ := List.mem_map.1 ha
        exact h2 (i, _) (dem_mem.2 ⟨i, hi, x, hx, .inl rfl⟩) rfl
      · obtain ⟨j, hj, ha⟩ := List.mem_flatMap.1 ha
        obtain ⟨x, hx, rfl⟩ := List.mem_map.1 ha
        obtain ⟨hx, he⟩ := List.mem_filter.1 hx
        have he := of_decide_eq_true he
        exact h2 (x.2.toNat, _) (dem_mem.2 ⟨j, List.mem_range.1 hj, x, hx, .inr rfl⟩) (by show x.2.toNat = i; omega)
theorem firstC_some {l : List Ty} {as_ : List Nat} {t : Nat} (ht : t < l.length) (h1 : ∀ a ∈ as_, sub l t a = true) (h2 : ∀ k, k < t → ¬ ∀ a ∈ as_, sub l k a = true) : firstC l as_ = some t := by
  unfold firstC
  rw [List.find?_range_eq_some]
  refine ⟨by rw [List.all_eq_true]; exact h1, List.mem_range.2 ht, fun k hk => ?_⟩
  have := h2 k hk
  rw [Bool.not_eq_true', ← Bool.not_eq_true, List.all_eq_true]
  exact this
theorem firstC_none {l : List Ty} {as_ : List Nat} (h : ∀ k, k < l.length → ¬ ∀ a ∈ as_, sub l k a = true) : firstC l as_ = none := by
  unfold firstC
  rw [List.find?_eq_none]
  intro k hk hc
  rw [List.all_eq_true] at hc
  exact h k (List.mem_range.1 hk) hc
theorem first_glb {l : List Ty} {fs : List Ft} {G : List Nd} {T : Nat → Nat} (hs : Sound l) (hx : GX l G) (hr : raiseL l (dem fs G) (tyO G) = some T) {i : Nat} (hi : i < G.length) : firstC l (askedL fs G i) = some (T i) := by
  have hg := inf_gx hs hx hr
  have h1 := hg.tr i (by rw [reG_len]; exact hi)
  rw [reG_nd hi] at h1
  have h2 : T i < l.length := by have := h1.2; simp only at this; omega
  have hlr : ∀ i, i < G.length → ∀ x ∈ (nd G i).ln, 0 ≤ x.2 := fun i hi x hxm => (hx.lr i hi x hxm).1
  refine firstC_some h2 ((asked_iff hi hlr).2 ((raise_some hs hr i _ h2).1 (sub_refl hs.vt _))) (fun k hk h => ?_)
  have h3 := (raise_some hs hr i k om).2 ((asked_iff hi hlr).1 h)
  have := sub_le' hs.vt h3
  omega
theorem first_none {l : List Ty} {fs : List Ft} {G : List Nd} (hs : Sound l) (hx : GX l G) (hr : raiseL l (dem fs G) (tyO G) = none) (hc : ∀ c ∈ dem fs G, c.2 < l.length) : ∃ i, i < G.length ∧ firstC l (askedL fs G i) = none := by
  have ht : ∀ i, tyO G i < l.length := fun i => by
    by_cases hi : i < G.length
    · have := hx.tr i hi
      unfold tyO; omega
    · have := hs.pos
      simp [tyO, nd, List.getD, hi]; exact this
  have hlr : ∀ i, i < G.length → ∀ x ∈ (nd G i).ln, 0 ≤ x.2 := fun i hi x hxm => (hx.lr i hi x hxm).1
  obtain ⟨i, h⟩ := raise_none hs hr ht hc
  have hi : i < G.length := by
    by_cases hi : i < G.length
    · exact hi
    · refine absurd ⟨?_, fun c hc2 he => ?_⟩ (h (tyO G i) (ht i))
      · exact sub_refl hs.vt _
      · obtain ⟨j, hj, x, hxm, e⟩ := dem_mem.1 hc2
        rcases e with e | e
        · rw [e] at he; exact absurd (show j = i from he ▸ rfl) om
        · rw [e] at he
          have h5 := (hx.lr j hj x hxm).2
          have he : x.2.toNat = i := he
          omega
  exact ⟨i, hi, firstC_none (fun k hk h2 => h k hk ((asked_iff hi hlr).1 h2))⟩
end Go.Proofs.YtfhmpbmgddaiiaaDoor
namespace Go.Proofs.YtfhmpbmgddaiiaaDoor
open Go.RowKit
noncomputable def looseT (l : List Ty) (fs : List Ft) (g : List Nd) : Fl := if ¬ (hierFault l fs).1 = 0 then hierFault l fs else if ¬ (looseF l.length fs.length g).1 = 0 then looseF l.length fs.length g else if 0 ≤ unrI g then (5, unrI g) else (0, 0)
section
variable {l : List Ty} {fs : List Ft} {g : List Nd}
theorem lt_hier (h : ¬ (hierFault l fs).1 = 0) : looseT l fs g = ((hierFault l fs).1, (hierFault l fs).2) := by unfold looseT; rw [if_pos h]
theorem lt_loose (h : (hierFault l fs).1 = 0) (h1 : ¬ (looseF l.length fs.length g).1 = 0) : looseT l fs g = ((looseF l.length fs.length g).1, (looseF l.length fs.length g).2) := by unfold looseT; rw [if_neg (fun k => k h), if_pos h1]
theorem lt_unr (h : (hierFault l fs).1 = 0) (h1 : (looseF l.length fs.length g).1 = 0) (h2 : 0 ≤ unrI g) : looseT l fs g = (5, unrI g) := by unfold looseT; rw [if_neg (fun k => k h), if_neg (fun k => k h1), if_pos h2]
theorem lt_zero (h : (hierFault l fs).1 = 0) (h1 : (looseF l.length fs.length g).1 = 0) (h2 : ¬ 0 ≤ unrI g) : looseT l fs g = (0, 0) := by unfold looseT; rw [if_neg (fun k => k h), if_neg (fun k => k h1), if_neg h2]
structure GL (l : List Ty) (fs : List Ft) (g : List Nd) : Prop where
  h : (hierFault l fs).1 = 0
  s : Sound l
  few : fs.length ≤ 40
  f : FOk l.length fs
  gok : GOk l.length fs.length g
  lo : (looseF l.length fs.length g).1 = 0
  u : ¬ 0 ≤ unrI g
  gx : GX l g
theorem gx_loose (hs : Sound l) (hk : GOk l.length fs.length g) (h1 : (looseF l.length fs.length g).1 = 0) (h2 : ¬ 0 ≤ unrI g) : GX l g :=
  ⟨⟨hs.vt, hk.pos, fun i hi => by rw [nd_eq hi]; exact hk.ty i hi, fun i hi => by rw [nd_eq hi]; exact srt_of (loose_ln h1 i hi), fun i hi x hx => by
    rw [nd_eq hi] at hx
    have := hk.ln i hi x hx
    omega⟩, by
    obtain ⟨r, hr⟩ := unr_ex g
    have hu := h2
    rw [← unr_is hr] at hu
    rcases hr with ⟨_, h3⟩ | ⟨k, h3, _⟩
    · exact h3
    · exact absurd (show 0 ≤ r by omega) hu⟩
theorem few_of (h : (hierFault l fs).1 = 0) : fs.length ≤ 40 := by
  unfold hierFault at h
  by_cases h4 : 40 < fs.length
  · rw [if_pos h4] at h; cases h
  · omega
theorem gl_of (h : (looseT l fs g).1 = 0) : GL l fs g := by
  by_cases h0 : (hierFault l fs).1 = 0
  · by_cases h1 : (looseF l.length fs.length g).1 = 0
    · by_cases h2 : 0 ≤ unrI g
      · rw [lt_unr h0 h1 h2] at h; exact absurd (show (5 : Int) = 0 from h) dE
      · have hk := gok_of h1
        exact ⟨h0, sound_of h0, few_of h0, fok_of h0, hk, h1, h2, gx_loose (sound_of h0) hk h1 h2⟩
    · rw [lt_loose h0 h1] at h; exact absurd h h1
  · rw [lt_hier h0] at h; exact absurd h h0
theorem GL.zero (h : GL l fs g) : looseT l fs g = (0, 0) := lt_zero h.h h.lo h.u
end
def InfS (l : List Ty) (fs : List Ft) (g : List Nd) (ok : Bool) (f : Fl) (X : List Nd) : Prop :=
  (¬ (looseT l fs g).1 = 0 ∧ ok = false ∧ f = looseT l fs g ∧ X = []) ∨
  ((looseT l fs g).1 = 0 ∧ f = (0, 0) ∧ ∃ o, DL g [0] [] o ∧ ((∃ T, raiseL l (dem fs (canG g o)) (tyO (canG g o)) = some T ∧ ok = true ∧ X = reG (canG g o) T) ∨ (raiseL l (dem fs (canG g o)) (tyO (canG g o)) = none ∧ ok = false ∧ X = [])))
section
variable {l : List Ty} {fs : List Ft} {g v X : List Nd} {ok : Bool} {f : Fl}
theorem tyO_lt (hx : GX l g) (hs : Sound l) (i : Nat) : tyO g i < l.length := by
  by_cases hi : i < g.length
  · have := hx.tr i hi
    unfold tyO; omega
  · have := hs.pos
    unfold tyO
    rw [nd_out hi]; exact this
theorem dem_lt {G : List Nd} (hf : FOk l.length fs) (hl : ∀ i, i < G.length → ∀ x ∈ (nd G i).ln, 0 ≤ x.1 ∧ x.1 < fs.length) : ∀ c ∈ dem fs G, c.2 < l.length := fun c hc => by
  obtain ⟨i, hi, x, hx, e⟩ := dem_mem.1 hc
  have h1 := hl i hi x hx
  have h2 := hf.at_ x.1.toNat om
  have e2 : ftAt fs x.1 = fs[x.1.toNat]'om := by simp [ftAt, List.getD, show x.1.toNat < fs.length by omega]
  rcases e with e | e <;> rw [e] <;> show Int.toNat _ < _ <;> rw [e2] <;> omega
theorem GL.can (h : GL l fs g) {o : List Nat} (hd : DL g [0] [] o) : GX l (canG g o) ∧ (canG g o).length ≤ 60 ∧ (∀ i, i < (canG g o).length → ∀ x ∈ (nd (canG g o) i).ln, 0 ≤ x.1 ∧ x.1 < fs.length) ∧ Maps l g (canG g o) ∧ Maps l (canG g o) g := by
  have ht := h.gx.toGY.trr h.gok.pos hd
  have hl := ht.ok.cnt
  have h6 := h.gok.le
  refine ⟨ht.gx h.gx.toGY, by rw [canG_len]; omega, fun i hi x hx => ?_, maps_can h.gx ht⟩
  rw [canG_len] at hi
  rw [nd_canG hi] at hx
  obtain ⟨y, hy, rfl⟩ := List.mem_map.1 hx
  have h1 : o.getD i 0 < g.length := ht.ok.lt _ (by simp [List.getD, hi])
  rw [nd_eq h1] at hy
  have := h.gok.ln _ h1 y hy
  exact ⟨this.1, this.2.1⟩
end
def demP (fs : List Ft) (G : List Nd) (i q : Nat) : List (Nat × Nat) := (List.range i).flatMap (demN fs G) ++ ((nd G i).ln.take q).flatMap (fun x => [(i, (ftAt fs x.1).of.toNat), (x.2.toNat, (ftAt fs x.1).val.toNat)])
section
variable {l : List Ty} {fs : List Ft} {G : List Nd} {i q : Nat}
theorem demP_zero : demP fs G i 0 = (List.range i).flatMap (demN fs G) := by simp [demP]
theorem demP_all (h : (nd G i).ln.length ≤ q) : demP fs G i q = (List.range (i + 1)).flatMap (demN fs G) := by
  unfold demP
  rw [List.take_of_length_le h, List.range_succ, List.flatMap_append]
  simp [demN]
theorem demP_succ (h : q < (nd G i).ln.length) : demP fs G i (q + 1) = (demP fs G i q ++ [(i, (ftAt fs ((nd G i).ln[q]).1).of.toNat)]) ++ [(((nd G i).ln[q]).2.toNat, (ftAt fs ((nd G i).ln[q]).1).val.toNat)] := by
  unfold demP
  rw [List.take_succ_eq_append_getElem h, List.flatMap_append]
  simp
theorem dem_pre (hi : i < G.length) : ∀ q, ∃ E, dem fs G = demP fs G i q ++ E := fun q => by
  have h1 : ∃ E, dem fs G = (List.range (i + 1)).flatMap (demN fs G) ++ E := by
    refine ⟨((List.range G.length).drop (i + 1)).flatMap (demN fs G), ?_⟩
    unfold dem
    rw [← List.flatMap_append]
    have : List.range (i + 1) = (List.range G.length).take (i + 1) := by rw [List.take_range]; congr 1; omega
    rw [this, List.take_append_drop]
  obtain ⟨E, h1⟩ := h1
  refine ⟨((nd G i).ln.drop q).flatMap (fun x => [(i, (ftAt fs x.1).of.toNat), (x.2.toNat, (ftAt fs x.1).val.toNat)]) ++ E, ?_⟩
  rw [h1, List.range_succ, List.flatMap_append]
  unfold demP
  have e : [i].flatMap (demN fs G) = ((nd G i).ln.take q).flatMap (fun x => [(i, (ftAt fs x.1).of.toNat), (x.2.toNat, (ftAt fs x.1).val.toNat)]) ++ ((nd G i).ln.drop q).flatMap (fun x => [(i, (ftAt fs x.1).of.toNat), (x.2.toNat, (ftAt fs x.1).val.toNat)]) := by
    rw [← List.flatMap_append, List.take_append_drop]
    simp [demN]
  rw [e]
  simp
theorem raise_snoc {D : List (Nat × Nat)} {T0 T : Nat → Nat} {c : Nat × Nat} (h : raiseL l D T0 = some T) (hm : (meet l (T c.1) c.2).2.1 = true) : raiseL l (D ++ [c]) T0 = some (raiseT l T c) := by
  rw [raise_app, h]
  show raiseL l [c] T = _
  unfold raiseL
  rw [if_pos hm]; rfl
theorem raise_fail {D E : List (Nat × Nat)} {T0 T : Nat → Nat} {c : Nat × Nat} (h : raiseL l D T0 = some T) (hm : ¬ (meet l (T c.1) c.2).2.1 = true) : raiseL l (D ++ [c] ++ E) T0 = none := by
  rw [List.append_assoc, raise_app, h]
  show raiseL l (c :: E) T = _
  unfold raiseL
  rw [if_neg hm]
theorem raise_no {i q a : Nat} {T0 T : Nat → Nat} (hi : i < G.length) (hq : q < (nd G i).ln.length) (h : raiseL l (demP fs G i q) T0 = some T) (ha : (ftAt fs ((nd G i).ln[q]).1).of.toNat = a) (hm : ¬ (meet l (T i) a).2.1 = true) : raiseL l (dem fs G) T0 = none := by
  obtain ⟨E, he⟩ := dem_pre (fs := fs) hi (q + 1)
  rw [he, demP_succ hq, List.append_assoc]
  exact raise_fail (c := (i, _)) h (by subst ha; exact hm)
theorem raise_no2 {i q a t b : Nat} {T0 T : Nat → Nat} (hi : i < G.length) (hq : q < (nd G i).ln.length) (h : raiseL l (demP fs G i q) T0 = some T) (ha : (ftAt fs ((nd G i).ln[q]).1).of.toNat = a) (ht : ((nd G i).ln[q]).2.toNat = t) (hb : (ftAt fs ((nd G i).ln[q]).1).val.toNat = b) (hm1 : (meet l (T i) a).2.1 = true) (hm : ¬ (meet l (raiseT l T (i, a) t) b).2.1 = true) : raiseL l (dem fs G) T0 = none := by
  obtain ⟨E, he⟩ := dem_pre (fs := fs) hi (q + 1)
  rw [he, demP_succ hq]
  subst ha ht hb
  exact raise_fail (c := (_, _)) (raise_snoc (c := (i, _)) h hm1) hm
theorem raise_yes {i q a t b : Nat} {T0 T : Nat → Nat} (hq : q < (nd G i).ln.length) (h : raiseL l (demP fs G i q) T0 = some T) (ha : (ftAt fs ((nd G i).ln[q]).1).of.toNat = a) (ht : ((nd G i).ln[q]).2.toNat = t) (hb : (ftAt fs ((nd G i).ln[q]).1).val.toNat = b) (hm1 : (meet l (T i) a).2.1 = true) (hm : (meet l (raiseT l T (i, a) t) b).2.1 = true) : raiseL l (demP fs G i (q + 1)) T0 = some (raiseT l (raiseT l T (i, a)) (t, b)) := by
  rw [demP_succ hq]
  subst ha ht hb
  exact raise_snoc (c := (_, _)) (raise_snoc (c := (i, _)) h hm1) hm
end
end Go.Proofs.YtfhmpbmgddaiiaaDoor
namespace Go.Proofs.YtfhmpbmgddaiiaaDoor
open Go.RowKit
theorem GrT.nd_ {w : World} {lo hi c k g : Nat} {gr : List Nd} {T : Nat → Int} (h : GrT w lo hi (some ⟨g, 0, none⟩) c gr T) (hk : k < gr.length) : ∃ LA lc, w.rangeAt g (0 + k * 2) [.int .i64 (T k), .slice LA (nd gr k).ln.length lc] ∧ RowO w lo hi (.slice LA (nd gr k).ln.length lc) (nd gr k).ln := by
  obtain ⟨V, g2, cur, e, _, _, hb, _, h0, h1, hr, _⟩ := h.open_ hk
  cases e
  obtain ⟨A2, c2, e2, h3⟩ := hr k hk
  have h2 := h1 k hk
  rw [e2] at h2
  refine ⟨A2, c2, hb.range (fun j v hj => ?_), A2, c2, rfl, h3⟩
  match j, hj with
  | 0, hj => cases hj; exact h0 k hk
  | 1, hj => cases hj; exact h2
theorem oV_cell {w : World} {base q cap y sz : Nat} {e : TypeId} {xs : List Nat} (h : Own w base e sz (some ⟨q, 0, none⟩) xs.length cap (oV xs)) (hy : y < xs.length) : w.cell? ⟨q, 0 + y * 1, none⟩ = some (.int .i64 ((xs[y] : Nat) : Int)) := by
  have h1 : (oV xs)[y]? = some (.int .i64 ((xs[y] : Nat) : Int)) := by simp [oV, hy]
  obtain ⟨g, e1, _, _, hc⟩ := h.cell (fun e => by rw [e] at h1; cases h1)
  cases e1
  rw [show 0 + y * 1 = y by omega]
  exact hc _ _ h1
theorem oV_addr {w : World} {base cap sz : Nat} {e : TypeId} {A : Option Addr} {xs : List Nat} (h : Own w base e sz A xs.length cap (oV xs)) (hy : 0 < xs.length) : ∃ q, A = some ⟨q, 0, none⟩ := by
  have h1 : (oV xs)[0]? = some (.int .i64 ((xs[0] : Nat) : Int)) := by simp [oV, hy]
  obtain ⟨g, e1, _⟩ := h.cell (fun e => by rw [e] at h1; cases h1)
  exact ⟨g, e1⟩
theorem oV_snoc (xs : List Nat) (n : Nat) : oV xs ++ [Value.int .i64 (n : Int)] = oV (xs ++ [n]) := by simp [oV]
def askP (fs : List Ft) (G : List Nd) (i q : Nat) : List Nat := tyO G i :: ((nd G i).ln.take q).map (fun x => (ftAt fs x.1).of.toNat)
def askJ (fs : List Ft) (G : List Nd) (i j p : Nat) : List Nat := (((nd G j).ln.take p).filter (fun x => decide (x.2 = (i : Int)))).map (fun x => (ftAt fs x.1).val.toNat)
def askQ (fs : List Ft) (G : List Nd) (i j p : Nat) : List Nat := askP fs G i (nd G i).ln.length ++ ((List.range j).flatMap (fun j => askJ fs G i j (nd G j).ln.length) ++ askJ fs G i j p)
section
variable {l : List Ty} {fs : List Ft} {G : List Nd} {i j p q : Nat}
theorem askP_succ (h : q < (nd G i).ln.length) : askP fs G i (q + 1) = askP fs G i q ++ [(ftAt fs ((nd G i).ln[q]).1).of.toNat] := by
  unfold askP
  rw [List.take_succ_eq_append_getElem h, List.map_append]; rfl
theorem askP_len (i q : Nat) : (askP fs G i q).length ≤ q + 1 := by
  unfold askP
  rw [List.length_cons, List.length_map, List.length_take]; omega
theorem askQ_start (h : (nd G i).ln.length ≤ q) : askQ fs G i 0 0 = askP fs G i q := by
  unfold askQ askP askJ
  rw [List.take_length, List.take_of_length_le h]; simp
theorem askQ_yes (h : p < (nd G j).ln.length) (e : ((nd G j).ln[p]).2 = (i : Int)) : askQ fs G i j (p + 1) = askQ fs G i j p ++ [(ftAt fs ((nd G j).ln[p]).1).val.toNat] := by
  unfold askQ askJ
  rw [List.take_succ_eq_append_getElem h, List.filter_append, List.map_append]
  simp [e]
theorem askQ_no (h : p < (nd G j).ln.length) (e : ¬ ((nd G j).ln[p]).2 = (i : Int)) : askQ fs G i j (p + 1) = askQ fs G i j p := by
  unfold askQ askJ
  rw [List.take_succ_eq_append_getElem h, List.filter_append]
  simp [e]
theorem askQ_row (h : (nd G j).ln.length ≤ p) : askQ fs G i (j + 1) 0 = askQ fs G i j p := by
  unfold askQ
  have e1 : askJ fs G i (j + 1) 0 = [] := by simp [askJ]
  have e2 : askJ fs G i j p = askJ fs G i j (nd G j).ln.length := by unfold askJ; rw [List.take_length, List.take_of_length_le h]
  rw [e1, e2, List.range_succ, List.flatMap_append]
  simp
theorem askQ_all : askQ fs G i G.length 0 = askedL fs G i := by
  unfold askQ askedL askP askJ
  simp [List.take_length]
theorem askQ_len {n : Nat} (hn : ∀ i, (nd G i).ln.length ≤ n) (i j p : Nat) : (askQ fs G i j p).length ≤ 1 + n + j * n + p := by
  have h1 : ∀ (j p : Nat), (askJ fs G i j p).length ≤ p := fun j p => by
    unfold askJ
    rw [List.length_map]
    exact nLT (List.length_filter_le _ _) (by rw [List.length_take]; omega)
  have h2 : ∀ j, ((List.range j).flatMap (fun j => askJ fs G i j (nd G j).ln.length)).length ≤ j * n := by
    intro j
    induction j with
    | zero => simp
    | succ j ih =>
      rw [List.range_succ, List.flatMap_append, List.length_append, Nat.succ_mul]
      have e : ([j].flatMap (fun j => askJ fs G i j (nd G j).ln.length)).length ≤ n := by
        simp only [List.flatMap_cons, List.flatMap_nil, List.append_nil]
        exact nLT (h1 _ _) (hn j)
      omega
  unfold askQ
  rw [List.length_append, List.length_append]
  have := askP_len (fs := fs) (G := G) i (nd G i).ln.length
  have := hn i
  have := h1 j p
  have := h2 j
  omega
theorem asked_lt (hgx : GX l G) (hs : Sound l) (hf : FOk l.length fs) (hl : ∀ i, i < G.length → ∀ x ∈ (nd G i).ln, 0 ≤ x.1 ∧ x.1 < fs.length) (hi : i < G.length) : ∀ a ∈ askedL fs G i, a < l.length := fun a ha => by
  have hd := dem_lt hf hl
  rcases List.mem_cons.1 ha with e | ha
  · rw [e]; exact tyO_lt hgx hs i
  · rcases List.mem_append.1 ha with ha | ha
    · obtain ⟨x, hx, rfl⟩ := List.mem_map.1 ha
      exact hd (i, _) (dem_mem.2 ⟨i, hi, x, hx, .inl rfl⟩)
    · obtain ⟨j, hj, ha⟩ := List.mem_flatMap.1 ha
      obtain ⟨x, hx, rfl⟩ := List.mem_map.1 ha
      obtain ⟨hx, _⟩ := List.mem_filter.1 hx
      exact hd (x.2.toNat, _) (dem_mem.2 ⟨j, List.mem_range.1 hj, x, hx, .inr rfl⟩)
end
def FstK (l : List Ty) (xs : List Nat) (k : Nat) (t : Int) : Prop := (t = -1 ∧ ∀ k', k' < k → ¬ ∀ a ∈ xs, sub l k' a = true) ∨ ∃ n : Nat, t = (n : Int) ∧ n < k ∧ (∀ a ∈ xs, sub l n a = true) ∧ ∀ k', k' < n → ¬ ∀ a ∈ xs, sub l k' a = true
section
variable {l : List Ty} {xs : List Nat} {k : Nat} {t : Int}
theorem FstK.start : FstK l xs 0 (-1) := .inl ⟨rfl, fun k' h => by omega⟩
theorem FstK.yes (h : FstK l xs k t) (ha : xs.all (fun a => sub l k a) = true) (ht : t < 0) : FstK l xs (k + 1) (k : Int) := by
  rcases h with ⟨_, h⟩ | ⟨n, rfl, _⟩
  · exact .inr ⟨k, rfl, by omega, by simpa using ha, h⟩
  · omega
theorem FstK.no (h : FstK l xs k t) (hc : ¬ (xs.all (fun a => sub l k a) = true ∧ t < 0)) : FstK l xs (k + 1) t := by
  rcases h with ⟨rfl, h⟩ | ⟨n, rfl, h1, h2, h3⟩
  · refine .inl ⟨rfl, fun k' hk' ha => ?_⟩
    by_cases e : k' = k
    · subst e; exact hc ⟨by simpa using ha, by decide⟩
    · exact h k' om ha
  · exact .inr ⟨n, rfl, by omega, h2, h3⟩
theorem FstK.none (h : FstK l xs l.length t) (ht : t < 0) : firstC l xs = none := by
  rcases h with ⟨_, h⟩ | ⟨n, rfl, _⟩
  · exact firstC_none h
  · omega
theorem FstK.some (h : FstK l xs l.length t) (ht : ¬ t < 0) : ∃ n : Nat, t = (n : Int) ∧ n < l.length ∧ firstC l xs = some n := by
  rcases h with ⟨rfl, _⟩ | ⟨n, rfl, h1, h2, h3⟩
  · exact absurd dE ht
  · exact ⟨n, rfl, h1, firstC_some h1 h2 h3⟩
theorem all_succ {y : Nat} (hy : y < xs.length) (h : (xs.take y).all (fun a => sub l k a) = true) : (xs.take (y + 1)).all (fun a => sub l k a) = sub l k xs[y] := by
  rw [List.take_succ_eq_append_getElem hy, List.all_append, h]; simp
theorem all_fail {y : Nat} (hy : y < xs.length) (h : (xs.take y).all (fun a => sub l k a) = false) : (xs.take (y + 1)).all (fun a => sub l k a) = false := by
  rw [List.take_succ_eq_append_getElem hy, List.all_append, h]; rfl
end
def InrS (l : List Ty) (fs : List Ft) (g : List Nd) (ok : Bool) (X : List Nd) : Prop :=
  ∃ o, DL g [0] [] o ∧ ((∃ T, raiseL l (dem fs (canG g o)) (tyO (canG g o)) = some T ∧ ok = true ∧ X = reG (canG g o) T) ∨ (raiseL l (dem fs (canG g o)) (tyO (canG g o)) = none ∧ ok = false ∧ X = []))
theorem inr_none {l : List Ty} {fs : List Ft} {g : List Nd} {o : List Nat} {i : Nat} (hg : GL l fs g) (hd : DL g [0] [] o) (hi : i < (canG g o).length) (h : firstC l (askedL fs (canG g o) i) = none) : InrS l fs g false [] := by
  obtain ⟨hx, _, hfr, _, _⟩ := hg.can hd
  refine ⟨o, hd, .inr ⟨?_, rfl, rfl⟩⟩
  cases hr : raiseL l (dem fs (canG g o)) (tyO (canG g o)) with
  | none => rfl
  | some T => rw [first_glb hg.s hx hr hi] at h; cases h
theorem inr_some {l : List Ty} {fs : List Ft} {g : List Nd} {o ts : List Nat} (hg : GL l fs g) (hd : DL g [0] [] o) (hl : ts.length = (canG g o).length) (h : ∀ x (hx : x < ts.length), firstC l (askedL fs (canG g o) x) = some ts[x]) : InrS l fs g true (rtG (canG g o) (fun x => ((ts.getD x 0 : Nat) : Int))) := by
  obtain ⟨hx, _, hfr, _, _⟩ := hg.can hd
  refine ⟨o, hd, ?_⟩
  cases hr : raiseL l (dem fs (canG g o)) (tyO (canG g o)) with
  | none =>
    obtain ⟨i, hi, h1⟩ := first_none hg.s hx hr (dem_lt hg.f hfr)
    rw [h i om] at h1; cases h1
  | some T =>
    refine .inl ⟨T, rfl, rfl, ?_⟩
    show rtG _ _ = rtG _ (fun x => ((T x : Nat) : Int))
    refine rtG_congr (fun i hi => ?_)
    have h1 := first_glb hg.s hx hr hi
    rw [h i om] at h1
    have h2 : ts[i]'om = T i := Option.some.inj h1
    simp [List.getD, show i < ts.length by omega, h2]
theorem inf_inr {l : List Ty} {fs : List Ft} {g X Y : List Nd} {ok ok2 : Bool} {f : Fl} (h0 : (looseT l fs g).1 = 0) (h : InfS l fs g ok f X) (k : InrS l fs g ok2 Y) : f = (0, 0) ∧ ok = ok2 ∧ X = Y := by
  rcases h with ⟨h1, _⟩ | ⟨_, hf, o, hd, h⟩
  · exact absurd h0 h1
  obtain ⟨o2, hd2, k⟩ := k
  have e := hd.det hd2
  subst e
  refine ⟨hf, ?_⟩
  rcases h with ⟨T, hr, h1, h2⟩ | ⟨hr, h1, h2⟩ <;> rcases k with ⟨T', kr, k1, k2⟩ | ⟨kr, k1, k2⟩
  · rw [hr] at kr
    cases kr
    exact ⟨h1.trans k1.symm, h2.trans k2.symm⟩
  · rw [hr] at kr; cases kr
  · rw [hr] at kr; cases kr
  · exact ⟨h1.trans k1.symm, h2.trans k2.symm⟩
end Go.Proofs.YtfhmpbmgddaiiaaDoor
namespace Go.Proofs.YtfhmpbmgddaiiaaDoor
open Go.RowKit
section monok
variable {P : Program} {Q : Exit → Act → World → Prop} {n : Nat} {f : Fr} {w : World}
def vO (f : Fr) (o : Oper) : Value := match o.dst with
  | some d => f d
  | none => undef
def rO (R : Nat → Value → World → Prop) (i : Nat) (o : Oper) (v : Value) (w : World) : Prop := match o.dst with
  | some _ => R i v w
  | none => R i undef w
def monoK (l : List Oper) (m : Nat) (S : List Nat) : Bool :=
  decide (l.length = m) && (List.range l.length).all (fun i => match l[i]? with
    | some o => o.guard.isNone && (deps o).all (fun j => decide (j < i)) && (match o.dst with
      | some d => mem S d && (List.range l.length).all (fun j => decide (i = j) || (match l[j]? with | some o' => !(o'.dst == some d) | none => true))
      | none => true)
    | none => false)
theorem os_wl0 {Post : Value → World → Prop} {op : Op} {ty : TypeId} {pos : String} {af : Array Edge} (h : ∀ (ops : Array Oper) (Q : Exit → Act → World → Prop), (∀ w', Post undef w' → WL P ops Q [] n f w') → WL P ops Q [⟨none, op, ty, pos, af, none⟩] n f w) : OS P n f w ⟨none, op, ty, pos, af, none⟩ Post := by
  unfold OS
  intro K Q hK
  have h1 := h #[] (onlyN K Q) (fun w' hp => by
    unfold WL
    refine wpList_nil ?_
    have := hK undef w' hp
    exact this)
  unfold WL wpList at h1
  rw [if_pos (by simp [Region.wanted])] at h1
  have ho : ¬ LetsOut (onlyN K Q) := fun ⟨_, _, h⟩ => h
  rcases h1 with h1 | ⟨_, h1⟩
  · exact oper_wp_mono2 (Q := onlyN K Q) (fun a w h => h) (fun c a w h => h) ho h1
  · exact absurd h1 ho
end monok
end Go.Proofs.YtfhmpbmgddaiiaaDoor
