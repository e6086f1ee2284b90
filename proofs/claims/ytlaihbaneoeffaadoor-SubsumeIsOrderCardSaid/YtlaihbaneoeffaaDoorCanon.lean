/- The canonical form of a valid graph is valid, and its own canonical form. No program in sight. -/
import Derived.Test.YtlaihbaneoeffaaDoorDfs
namespace Go.Proofs.YtlaihbaneoeffaaDoor
open Go.RowKit
structure GV (l : List Ty) (fs : List Ft) (g : List Nd) : Prop where
  h : (hierFault l fs).1 = 0
  s : Sound l
  few : fs.length ≤ 40
  f : FOk l.length fs
  gok : GOk l.length fs.length g
  t : tyF l fs g = (0, 0)
  u : ¬ 0 ≤ unrI g
  lo : (looseF l.length fs.length g).1 = 0
theorem gv_of {l : List Ty} {fs : List Ft} {g : List Nd} (h : (graphF l fs g).1 = 0) : GV l fs g := by
  by_cases h0 : (hierFault l fs).1 = 0
  · rw [gf_in h0] at h
    by_cases h1 : (looseF l.length fs.length g).1 = 0
    · by_cases h2 : (tyF l fs g).1 = 0
      · have h2' : tyF l fs g = (0, 0) := firstF_zz h2
        by_cases h3 : 0 ≤ unrI g
        · rw [wi_unr h1 h2' h3] at h; cases h
        · refine ⟨h0, sound_of h0, ?_, fok_of h0, gok_of h1, h2', h3, h1⟩
          unfold hierFault at h0
          by_cases h4 : 40 < fs.length
          · rw [if_pos h4] at h0; cases h0
          · omega
      · unfold withinF at h
        rw [if_neg (fun e => e h1), if_pos h2] at h
        exact absurd h h2
    · rw [wi_loose h1] at h; exact absurd h h1
  · rw [gf_hier h0] at h; exact absurd h h0
theorem DL.sub {g : List Nd} {is a b : List Nat} (h : DL g is a b) : ∀ x ∈ a, x ∈ b := by
  induction h with
  | nil => exact fun x h => h
  | old h t ih => exact ih
  | new h s t ihs iht => exact fun x hx => iht x (ihs x (List.mem_append_left _ hx))
theorem DL.has {g : List Nd} {is a b : List Nat} (h : DL g is a b) : ∀ i ∈ is, i ∈ b := by
  induction h with
  | nil => exact fun i h => by cases h
  | old h t ih =>
    intro i hi
    rcases List.mem_cons.1 hi with rfl | hi
    · exact t.sub _ h
    · exact ih i hi
  | new h s t ihs iht =>
    intro i hi
    rcases List.mem_cons.1 hi with rfl | hi
    · exact t.sub _ (s.sub _ (by simp))
    · exact iht i hi
theorem DL.clo {g : List Nd} {is a b : List Nat} (h : DL g is a b) : ∀ x ∈ b, ¬ x ∈ a → ∀ t ∈ succN g x, t ∈ b := by
  induction h with
  | nil => exact fun x h1 h2 => absurd h1 h2
  | old h t ih => exact ih
  | new h s t ihs iht =>
    rename_i i is o o1 o'
    intro x hx hn y hy
    by_cases h1 : x ∈ o1
    · by_cases h2 : x = i
      · subst h2; exact t.sub _ (s.has y hy)
      · exact t.sub _ (ihs x h1 (fun h3 => by
          rcases List.mem_append.1 h3 with h3 | h3
          · exact hn h3
          · exact h2 (List.mem_singleton.1 h3)) y hy)
    · exact iht x hx h1 y hy
theorem DL.nodup {g : List Nd} {is a b : List Nat} (h : DL g is a b) : a.Nodup → b.Nodup := by
  induction h with
  | nil => exact fun h => h
  | old h t ih => exact ih
  | new h s t ihs iht =>
    intro hd
    refine iht (ihs (List.nodup_append.2 ⟨hd, by simp, fun x hx y hy => ?_⟩))
    rw [List.mem_singleton.1 hy]
    exact fun e => h (e ▸ hx)
theorem DL.rch {g : List Nd} (hr : ∀ i, i < g.length → ∀ t ∈ succN g i, t < g.length) {is a b : List Nat} (h : DL g is a b) : (∀ i ∈ is, i < g.length) → (∀ i ∈ is, Rch g i) → (∀ x ∈ a, Rch g x) → ∀ x ∈ b, Rch g x := by
  induction h with
  | nil => exact fun _ _ h => h
  | old h t ih => exact fun hi hR ha => ih (fun i h => hi i (List.mem_cons_of_mem _ h)) (fun i h => hR i (List.mem_cons_of_mem _ h)) ha
  | new h s t ihs iht =>
    rename_i i is o o1 o'
    intro hi hR ha
    have hlt := hi i (List.mem_cons_self ..)
    have hRi := hR i (List.mem_cons_self ..)
    refine iht (fun i h => hi i (List.mem_cons_of_mem _ h)) (fun i h => hR i (List.mem_cons_of_mem _ h)) (ihs (hr i hlt) (fun t ht => ?_) (fun x hx => ?_))
    · simp only [succN, nd_eq hlt, List.mem_map] at ht
      obtain ⟨y, hy, rfl⟩ := ht
      exact .step hRi hlt hy
    · rcases List.mem_append.1 hx with hx | hx
      · exact ha x hx
      · rw [List.mem_singleton.1 hx]; exact hRi
/-- the facts of a traversal from node 0 -/
structure Tr (g : List Nd) (o : List Nat) : Prop where
  dl : DL g [0] [] o
  ok : OOk g.length o
  nd : o.Nodup
  pos : 0 < o.length
  zero : o.idxOf 0 = 0
  clo : ∀ x ∈ o, ∀ t ∈ succN g x, t ∈ o
theorem tr_of {nt nf : Nat} {g : List Nd} {o : List Nat} (hk : GOk nt nf g) (h : DL g [0] [] o) : Tr g o := by
  have hr := succ_rng hk
  obtain ⟨hok, _, _⟩ := h.ok hr (fun i hi => by rw [List.mem_singleton.1 hi]; exact hk.pos) (OOk.nil _)
  have h0 := h.has 0 (by simp)
  refine ⟨h, hok, h.nodup List.nodup_nil, List.length_pos_of_mem h0, ?_, fun x hx => h.clo x hx (by simp)⟩
  cases h with
  | old h' t => cases h'
  | new h' s t =>
    cases t
    obtain ⟨_, s1, e1⟩ := s.ok hr (hr 0 hk.pos) ((OOk.nil _).snoc hk.pos (by simp))
    rw [e1]; simp
theorem idx_get {o : List Nat} (hn : o.Nodup) {k : Nat} (hk : k < o.length) : o.idxOf o[k] = k := by
  have h1 : o.idxOf o[k] < o.length := List.idxOf_lt_length_of_mem (List.getElem_mem hk)
  have h2 : o[o.idxOf o[k]] = o[k] := List.getElem_idxOf h1
  exact (List.getElem_inj hn).1 h2
theorem get_idx {o : List Nat} {x : Nat} (hx : x ∈ o) : ∃ h : o.idxOf x < o.length, o[o.idxOf x] = x := ⟨List.idxOf_lt_length_of_mem hx, List.getElem_idxOf _⟩
theorem numO_in {o : List Nat} {x : Nat} (hx : x ∈ o) : numO o x = (o.idxOf x : Nat) := by simp [numO, hx]
theorem canG_len (g : List Nd) (o : List Nat) : (canG g o).length = o.length := by simp [canG]
theorem canG_nd {g : List Nd} {o : List Nat} {x : Nat} (hx : x ∈ o) : nd (canG g o) (o.idxOf x) = canN g o x := by
  obtain ⟨h1, h2⟩ := get_idx hx
  rw [nd_eq (by rw [canG_len]; exact h1)]
  simp [canG, h2]
theorem canG_succ {g : List Nd} {o : List Nat} (h : ∀ x ∈ o, ∀ t ∈ succN g x, t ∈ o) {x : Nat} (hx : x ∈ o) : succN (canG g o) (o.idxOf x) = (succN g x).map (o.idxOf ·) := by
  unfold succN
  rw [canG_nd hx]
  simp only [canN, List.map_map]
  refine List.map_congr_left (fun y hy => ?_)
  have : y.2.toNat ∈ o := h x hx _ (by simp only [succN, List.mem_map]; exact ⟨y, hy, rfl⟩)
  simp [canL, numO_in this]
theorem DL.map {g : List Nd} {o : List Nat} (hc : ∀ x ∈ o, ∀ t ∈ succN g x, t ∈ o) {is a b : List Nat} (h : DL g is a b) : (∀ x ∈ b, x ∈ o) → DL (canG g o) (is.map (o.idxOf ·)) (a.map (o.idxOf ·)) (b.map (o.idxOf ·)) := by
  have inj : ∀ x y, x ∈ o → y ∈ o → o.idxOf x = o.idxOf y → x = y := fun x y hx hy e => by
    obtain ⟨h1, h2⟩ := get_idx hx
    obtain ⟨h3, h4⟩ := get_idx hy
    rw [← h2, ← h4]
    simp only [e]
  induction h with
  | nil => exact fun _ => .nil
  | old h t ih =>
    intro hb
    exact .old (List.mem_map_of_mem h) (ih hb)
  | new h s t ihs iht =>
    rename_i i is o0 o1 o'
    intro hb
    have hio := hb i (t.sub _ (s.sub _ (by simp)))
    refine .new (fun hm => ?_) ?_ (iht hb)
    · obtain ⟨y, hy, e⟩ := List.mem_map.1 hm
      have hyo := hb y (t.sub _ (s.sub _ (List.mem_append_left _ hy)))
      exact h (inj y i hyo hio e ▸ hy)
    · have := ihs (fun x hx => hb x (t.sub _ hx))
      rw [List.map_append] at this
      rw [canG_succ hc hio]
      exact this
theorem map_idx {o : List Nat} (hn : o.Nodup) : o.map (o.idxOf ·) = List.range o.length := by
  apply List.ext_getElem
  · simp
  · intro k h1 h2
    simp only [List.getElem_map, List.getElem_range]
    exact idx_get hn (by simpa using h1)
theorem Tr.can {g : List Nd} {o : List Nat} (h : Tr g o) : DL (canG g o) [0] [] (List.range o.length) := by
  have := h.dl.map h.clo (fun x hx => hx)
  rw [map_idx h.nd] at this
  simpa [h.zero] using this
theorem numO_range {m k : Nat} (hk : k < m) : numO (List.range m) k = k := by
  rw [numO_in (List.mem_range.2 hk)]
  have h := idx_get (o := List.range m) List.nodup_range (k := k) (by simpa using hk)
  simp at h
  rw [h]
/-- a link of the canonical form comes from one of the graph -/
theorem canG_at {g : List Nd} {o : List Nat} {k : Nat} (hk : k < (canG g o).length) : (canG g o)[k] = canN g o (o[k]'(by rw [← canG_len g o]; exact hk)) := by simp [canG]
theorem canon_self {g : List Nd} {o : List Nat} (h : Tr g o) {o2 : List Nat} (h2 : DL (canG g o) [0] [] o2) : canG (canG g o) o2 = canG g o := by
  have e := h.can.det h2
  subst e
  apply List.ext_getElem
  · simp [canG]
  · intro k h1 h3
    have hk : k < o.length := by simpa [canG] using h3
    rw [canG_at h1]
    simp only [List.getElem_range]
    unfold canN
    rw [nd_eq h3]
    refine nd_ext rfl ?_
    show ((canG g o)[k]).ln.map (canL (List.range o.length)) = ((canG g o)[k]).ln
    rw [canG_at h3]
    simp only [canN, List.map_map]
    refine List.map_congr_left (fun y hy => ?_)
    have hmem : y.2.toNat ∈ o := h.clo _ (List.getElem_mem hk) _ (by simp only [succN, List.mem_map]; exact ⟨y, hy, rfl⟩)
    obtain ⟨h4, _⟩ := get_idx hmem
    simp only [Function.comp, canL, numO_in hmem, Int.toNat_natCast]
    rw [numO_range h4]
theorem lnFault_can {nf n m : Nat} {o : List Nat} : ∀ {xs : List (Int × Int)} {last : Int}, lnFault nf n last xs = 0 → (∀ x ∈ xs, 0 ≤ (canL o x).2 ∧ (canL o x).2 < m) → lnFault nf m last (xs.map (canL o)) = 0
  | [], _, _, _ => rfl
  | y :: ys, last, h, hm => by
    unfold lnFault at h
    by_cases h1 : lnBad nf n y
    · rw [if_pos h1] at h; cases h
    rw [if_neg h1] at h
    by_cases h2 : y.1 ≤ last
    · rw [if_pos h2] at h; cases h
    rw [if_neg h2] at h
    have h3 := hm y (by simp)
    have h4 : ¬ lnBad nf m (canL o y) := by
      unfold lnBad at h1 ⊢
      have e : (canL o y).1 = y.1 := rfl
      rw [e]; omega
    rw [List.map_cons]
    unfold lnFault
    rw [if_neg h4, if_neg (show ¬ (canL o y).1 ≤ last from h2)]
    exact lnFault_can h (fun x hx => hm x (List.mem_cons_of_mem _ hx))
theorem canon_valid {l : List Ty} {fs : List Ft} {g : List Nd} {o : List Nat} (h : GV l fs g) (t : Tr g o) : (graphF l fs (canG g o)).1 = 0 := by
  have hlen := canG_len g o
  have hole : o.length ≤ g.length := by have := t.ok.cnt; omega
  have hmem : ∀ k (hk : k < (canG g o).length), ∀ y ∈ (nd g (o[k]'(by rw [← hlen]; exact hk))).ln, y.2.toNat ∈ o := fun k hk y hy => t.clo _ (List.getElem_mem _) _ (by simp only [succN, List.mem_map]; exact ⟨y, hy, rfl⟩)
  have hg : ∀ k (hk : k < (canG g o).length), o[k]'(by rw [← hlen]; exact hk) < g.length := fun k hk => t.ok.lt _ (List.getElem_mem _)
  have hl : looseF l.length fs.length (canG g o) = (0, 0) := by
    unfold looseF
    rw [if_neg (by have := t.pos; have := h.gok.le; omega)]
    refine firstF_all (fun k _ hk => ?_)
    have hk' : k < (canG g o).length := by omega
    have hty := h.gok.ty _ (hg k hk')
    have hln := loose_ln h.lo _ (hg k hk')
    have e : ¬ (((canG g o)[k]).ty < 0 ∨ (l.length : Int) ≤ ((canG g o)[k]).ty) := by
      rw [canG_at hk']
      simp only [canN, nd_eq (hg k hk')]
      omega
    rw [looseN_ln hk' e, List.drop_zero, canG_at hk']
    simp only [canN, nd_eq (hg k hk')]
    refine lnFault_can hln (fun y hy => ?_)
    have hm := hmem k hk' y (by rw [nd_eq (hg k hk')]; exact hy)
    obtain ⟨h4, _⟩ := get_idx hm
    simp only [canL, numO_in hm]
    omega
  have ht : tyF l fs (canG g o) = (0, 0) := by
    refine firstF_all (fun k _ hk => ?_)
    have hk' : k < (canG g o).length := by omega
    refine tyN_no hk' (fun j hj => ?_)
    have hgk := hg k hk'
    have h0 : tyN l fs g (o[k]'(by rw [← hlen]; exact hk')) = 0 := firstF_zero (by rw [show firstF (tyN l fs g) 0 g.length = tyF l fs g from rfl, h.t]) _ (Nat.zero_le _) (by omega)
    have e1 : (canG g o)[k] = canN g o (o[k]'(by rw [← hlen]; exact hk')) := canG_at hk'
    have hms := hmem k hk'
    generalize o[k]'(by rw [← hlen]; exact hk') = i at *
    have hex : ∃ y ∈ (g[i]).ln, ((canG g o)[k]).ln[j] = canL o y := by
      have hm : ((canG g o)[k]).ln[j] ∈ (canN g o i).ln := by rw [← e1]; exact List.getElem_mem hj
      simp only [canN, nd_eq hgk, List.mem_map] at hm
      obtain ⟨y, hy, e⟩ := hm
      exact ⟨y, hy, e.symm⟩
    obtain ⟨y, hy, ey⟩ := hex
    have hym : y.2.toNat ∈ o := hms y (by rw [nd_eq hgk]; exact hy)
    rw [ey, e1]
    have h1 : lnTy l fs g (g[i]).ty y = false := by
      simp only [tyN, List.getElem?_eq_getElem hgk] at h0
      cases hb : lnTy l fs g (g[i]).ty y with
      | false => rfl
      | true => rw [if_pos (List.any_eq_true.2 ⟨y, hy, hb⟩)] at h0; cases h0
    have e2 : (canN g o i).ty = (g[i]).ty := by simp [canN, nd_eq hgk]
    have e3 : (ndAt (canG g o) (canL o y).2).ty = (ndAt g y.2).ty := by
      have := canG_nd (g := g) hym
      unfold nd at this
      unfold ndAt
      simp only [canL, numO_in hym, Int.toNat_natCast]
      rw [this]; rfl
    unfold lnTy at h1 ⊢
    rw [e2, e3]
    exact h1
  have hu : (-1 : Int) = unrI (canG g o) := by
    have hr : ∀ i, i < (canG g o).length → ∀ t ∈ succN (canG g o) i, t < (canG g o).length := succ_rng (gok_of (by rw [hl]))
    have hp : 0 < (canG g o).length := by rw [hlen]; exact t.pos
    have hR := t.can.rch hr (fun i hi => by rw [List.mem_singleton.1 hi]; exact hp) (fun i hi => by rw [List.mem_singleton.1 hi]; exact .zero) (fun x hx => by cases hx)
    exact unr_is (.inl ⟨rfl, fun i hi => hR i (List.mem_range.2 (by rw [← hlen]; exact hi))⟩)
  rw [gf_in h.h, wi_zero (by rw [hl]) ht (by omega)]
end Go.Proofs.YtlaihbaneoeffaaDoor
