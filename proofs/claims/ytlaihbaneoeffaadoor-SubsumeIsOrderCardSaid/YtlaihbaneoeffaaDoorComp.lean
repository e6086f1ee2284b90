/- What is reached from a node of a valid graph is a valid graph; a path in it leads where the path leads in the graph. No program in sight. -/
import Derived.Test.YtlaihbaneoeffaaDoorPath
import Derived.Test.YtlaihbaneoeffaaDoorTurn
namespace Go.Proofs.YtlaihbaneoeffaaDoor
open Go.RowKit
/-- the facts of a traversal from any node -/
structure TrR (g : List Nd) (r : Nat) (o : List Nat) : Prop where
  dl : DL g [r] [] o
  ok : OOk g.length o
  nodup : o.Nodup
  has : r ∈ o
  zero : o.idxOf r = 0
  clo : ∀ x ∈ o, ∀ t ∈ succN g x, t ∈ o
theorem trr_of {nt nf : Nat} {g : List Nd} {r : Nat} {o : List Nat} (hk : GOk nt nf g) (hrl : r < g.length) (h : DL g [r] [] o) : TrR g r o := by
  have hr := succ_rng hk
  obtain ⟨hok, _, _⟩ := h.ok hr (fun i hi => by rw [List.mem_singleton.1 hi]; exact hrl) (OOk.nil _)
  have h0 := h.has r (by simp)
  refine ⟨h, hok, h.nodup List.nodup_nil, h0, ?_, fun x hx => h.clo x hx (by simp)⟩
  cases h with
  | old h' t => cases h'
  | new h' s t =>
    cases t
    obtain ⟨_, s1, e1⟩ := s.ok hr (hr r hrl) ((OOk.nil _).snoc hrl (by simp))
    rw [e1]; simp
theorem DL.within {g : List Nd} {o : List Nat} (hc : ∀ x ∈ o, ∀ t ∈ succN g x, t ∈ o) {is a b : List Nat} (h : DL g is a b) : (∀ i ∈ is, i ∈ o) → (∀ x ∈ a, x ∈ o) → ∀ x ∈ b, x ∈ o := by
  induction h with
  | nil => exact fun _ h => h
  | old h t ih => exact fun hi ha => ih (fun i h => hi i (List.mem_cons_of_mem _ h)) ha
  | new h s t ihs iht =>
    intro hi ha
    have hio := hi _ (List.mem_cons_self ..)
    refine iht (fun i h => hi i (List.mem_cons_of_mem _ h)) (ihs (hc _ hio) (fun x hx => ?_))
    rcases List.mem_append.1 hx with hx | hx
    · exact ha x hx
    · rw [List.mem_singleton.1 hx]; exact hio
theorem idx_inj {o : List Nat} {x y : Nat} (hx : x ∈ o) (hy : y ∈ o) (e : o.idxOf x = o.idxOf y) : x = y := by
  obtain ⟨h1, h2⟩ := get_idx hx
  obtain ⟨h3, h4⟩ := get_idx hy
  rw [← h2, ← h4]
  simp only [e]
theorem idx_map2 {o : List Nat} {x : Nat} (hx : x ∈ o) : ∀ {o2 : List Nat}, (∀ y ∈ o2, y ∈ o) → (o2.map (o.idxOf ·)).idxOf (o.idxOf x) = o2.idxOf x
  | [], _ => rfl
  | y :: o2, h => by
    rw [List.map_cons, List.idxOf_cons, List.idxOf_cons, idx_map2 hx (fun z hz => h z (List.mem_cons_of_mem _ hz))]
    by_cases e : y = x
    · subst e; simp
    · have e2 : ¬ o.idxOf y = o.idxOf x := fun h2 => e (idx_inj (h y (List.mem_cons_self ..)) hx h2)
      have b1 : (y == x) = false := by simp [e]
      have b2 : (o.idxOf y == o.idxOf x) = false := by simp [e2]
      rw [b1, b2]
theorem num_map2 {o o2 : List Nat} {x : Nat} (hx : x ∈ o) (h : ∀ y ∈ o2, y ∈ o) : numO (o2.map (o.idxOf ·)) (o.idxOf x) = numO o2 x := by
  unfold numO
  have e : o.idxOf x ∈ o2.map (o.idxOf ·) ↔ x ∈ o2 := ⟨fun hm => by
    obtain ⟨y, hy, e⟩ := List.mem_map.1 hm
    exact idx_inj (h y hy) hx e ▸ hy, fun h => List.mem_map_of_mem h⟩
  by_cases h2 : x ∈ o2
  · rw [if_pos h2, if_pos (e.2 h2), idx_map2 hx h]
  · rw [if_neg h2, if_neg (fun h3 => h2 (e.1 h3))]
section sub
variable {g : List Nd} {r : Nat} {o : List Nat}
theorem TrR.mem (t : TrR g r o) {x : Nat} (hx : x ∈ o) {y : Int × Int} (hy : y ∈ (nd g x).ln) : y.2.toNat ∈ o := t.clo x hx _ (by simp only [succN, List.mem_map]; exact ⟨y, hy, rfl⟩)
theorem TrR.lt (t : TrR g r o) {x : Nat} (hx : x ∈ o) : x < g.length := t.ok.lt x hx
/-- a canonical form of a part of what is reached -/
theorem TrR.can2 (t : TrR g r o) {c : Nat} {o2 : List Nat} (hc : c ∈ o) (h2 : DL g [c] [] o2) : canG (canG g o) (o2.map (o.idxOf ·)) = canG g o2 := by
  have hw := h2.within t.clo (fun i hi => by rw [List.mem_singleton.1 hi]; exact hc) (fun x hx => by cases hx)
  have hcl := h2.clo
  unfold canG
  rw [List.map_map]
  refine List.map_congr_left (fun x hx => ?_)
  have hxo := hw x hx
  have e := canG_nd (g := g) hxo
  unfold canG at e
  show canN _ _ (o.idxOf x) = canN g o2 x
  unfold canN at e ⊢
  rw [e]
  refine nd_ext rfl ?_
  simp only [List.map_map]
  refine List.map_congr_left (fun y hy => ?_)
  have hyo := t.mem hxo hy
  simp only [Function.comp, canL, numO_in hyo, Int.toNat_natCast]
  rw [num_map2 hyo hw]
theorem TrR.dl2 (t : TrR g r o) {c : Nat} {o2 : List Nat} (hc : c ∈ o) (h2 : DL g [c] [] o2) : DL (canG g o) [o.idxOf c] [] (o2.map (o.idxOf ·)) :=
  h2.map t.clo (h2.within t.clo (fun i hi => by rw [List.mem_singleton.1 hi]; exact hc) (fun x hx => by cases hx))
theorem TrR.valid {l : List Ty} {fs : List Ft} (t : TrR g r o) (h : GV l fs g) : (graphF l fs (canG g o)).1 = 0 := by
  have hlen := canG_len g o
  have hole : o.length ≤ g.length := by have := t.ok.cnt; omega
  have hpos : 0 < o.length := List.length_pos_of_mem t.has
  have hle := h.gok.le
  have hget : ∀ j (hj : j < o.length), o.idxOf o[j] = j := fun j hj => idx_get t.nodup hj
  have hrg : ∀ i, i < (canG g o).length → ∀ y ∈ succN (canG g o) i, y < (canG g o).length := fun i hi y hy => by
    rw [hlen] at hi ⊢
    rw [← hget i hi, canG_succ t.clo (List.getElem_mem hi)] at hy
    obtain ⟨z, hz, rfl⟩ := List.mem_map.1 hy
    exact (get_idx (t.clo _ (List.getElem_mem hi) z hz)).1
  refine gv_img (σ := (o.idxOf ·)) (τ := fun j => o.getD j 0) h (by omega) (by omega) (fun j hj => ?_) (fun j hj => ?_)
  · have hjo : j < o.length := by omega
    have eg : o.getD j 0 = o[j] := by simp [List.getD, hjo]
    have hm : o[j] ∈ o := List.getElem_mem hjo
    have en := canG_nd (g := g) hm
    rw [hget j hjo] at en
    simp only [eg]
    refine ⟨t.lt hm, ?_, fun x hx => ?_⟩
    · rw [en]
      refine nd_ext rfl ?_
      simp only [canN, trN]
      refine List.map_congr_left (fun y hy => ?_)
      simp only [canL, numO_in (t.mem hm hy)]
    · have hxo := t.mem hm hx
      rw [canG_nd hxo, hlen]
      exact ⟨(get_idx hxo).1, rfl⟩
  · have hd := t.dl2 t.has t.dl
    rw [t.zero, map_idx t.nodup] at hd
    have hR := hd.rch hrg (fun i hi => by rw [List.mem_singleton.1 hi]; omega) (fun i hi => by rw [List.mem_singleton.1 hi]; exact .zero) (fun x hx => by cases hx)
    exact hR j (List.mem_range.2 (by omega))
theorem tgt_can {f : Int} : ∀ {xs : List (Int × Int)}, (∀ y ∈ xs, y.2.toNat ∈ o ∧ 0 ≤ y.2) → (tgt xs f = -1 ∧ tgt (xs.map (canL o)) f = -1) ∨ ∃ c : Nat, c ∈ o ∧ tgt xs f = c ∧ tgt (xs.map (canL o)) f = (o.idxOf c : Nat)
  | [], _ => .inl ⟨rfl, rfl⟩
  | y :: ys, h => by
    by_cases e : y.1 = f
    · obtain ⟨h1, h2⟩ := h y (by simp)
      refine .inr ⟨y.2.toNat, h1, ?_, ?_⟩
      · simp only [tgt, List.find?_cons, e, decide_true]; omega
      · have e2 : (canL o y).1 = f := e
        rw [List.map_cons]
        simp only [tgt, List.find?_cons, e2, decide_true]
        exact numO_in h1
    · have e2 : ¬ (canL o y).1 = f := e
      have ih := tgt_can (f := f) (xs := ys) (fun z hz => h z (List.mem_cons_of_mem _ hz))
      rw [List.map_cons]
      simp only [tgt, List.find?_cons, e, e2, decide_false] at ih ⊢
      exact ih
theorem TrR.walk {nt nf : Nat} (hk : GOk nt nf g) (t : TrR g r o) : ∀ (q : List Int) {b : Nat}, b ∈ o → (walkT g q b = -1 ∧ walkT (canG g o) q (o.idxOf b : Nat) = -1) ∨ ∃ c : Nat, c ∈ o ∧ walkT g q b = c ∧ walkT (canG g o) q (o.idxOf b : Nat) = (o.idxOf c : Nat)
  | [], b, hb => .inr ⟨b, hb, rfl, rfl⟩
  | f :: q, b, hb => by
    have h1 : ∀ (g' : List Nd) (a : Nat), walkT g' (f :: q) (a : Int) = walkT g' q (tgt (nd g' a).ln f) := fun g' a => by
      show (if ((a : Nat) : Int) < 0 then _ else _) = _
      rw [if_neg (by omega), Int.toNat_natCast]
    rw [h1, h1, canG_nd hb]
    have hbl := t.lt hb
    rcases tgt_can (o := o) (f := f) (xs := (nd g b).ln) (fun y hy => ⟨t.mem hb hy, by
      rw [nd_eq hbl] at hy; have := hk.ln b hbl y hy; omega⟩) with ⟨e1, e2⟩ | ⟨c, hc, e1, e2⟩
    · refine .inl ⟨?_, ?_⟩
      · rw [e1]; exact walkT_neg (by decide) q
      · simp only [canN]; rw [e2]; exact walkT_neg (by decide) q
    · simp only [canN]
      rw [e1, e2]
      exact t.walk hk q hc
end sub
theorem pF_all {nf : Nat} {p : List Int} (h : firstF (pF nf p) 0 p.length = (0, 0) ∨ (firstF (pF nf p) 0 p.length).1 = 0) : ∀ x ∈ p, ¬ (x < 0 ∨ (nf : Int) ≤ x) := fun x hx hb => by
  have h0 : (firstF (pF nf p) 0 p.length).1 = 0 := by rcases h with h | h <;> simp [h]
  obtain ⟨i, hi, e⟩ := List.mem_iff_getElem.1 hx
  have h1 := firstF_zero h0 i (Nat.zero_le _) (by omega)
  rw [pF_yes hi (by rw [e]; exact hb)] at h1
  cases h1
theorem pF_mk {nf : Nat} {p : List Int} (h : ∀ x ∈ p, ¬ (x < 0 ∨ (nf : Int) ≤ x)) : firstF (pF nf p) 0 p.length = (0, 0) :=
  firstF_all (fun j _ hj => pF_no (by omega) (h _ (List.getElem_mem (by omega))))
section comp
variable {l : List Ty} {fs : List Ft} {g : List Nd} {p q : List Int}
theorem at_zero {p : List Int} : (atF l fs g p).1 = 0 ↔ (graphF l fs g).1 = 0 ∧ p.length ≤ 300 ∧ ∀ x ∈ p, ¬ (x < 0 ∨ (fs.length : Int) ≤ x) := by
  constructor
  · intro h
    by_cases h0 : (graphF l fs g).1 = 0
    · by_cases h1 : 300 < p.length
      · rw [atF_l h0 h1] at h; exact absurd h (by decide)
      · rw [atF_p h0 h1] at h
        exact ⟨h0, by omega, pF_all (.inr h)⟩
    · rw [atF_g h0] at h; exact absurd h h0
  · intro ⟨h0, h1, h2⟩
    rw [atF_p h0 (by omega), pF_mk h2]
/-- a path behind another one -/
theorem at_comp {a : Nat} {o : List Nat} (hok : AtOk l fs g p) (hal : a < g.length) (ha : walkT g p 0 = a) (hd : DL g [a] [] o) (hX : atG l fs g p = canG g o)
    (hz : AtOk l fs g (p ++ q) → ∃ (a2 : Nat) (o2 : List Nat), walkT g (p ++ q) 0 = a2 ∧ DL g [a2] [] o2 ∧ atG l fs g (p ++ q) = canG g o2) :
    ((atF l fs g (p ++ q)).1 = 0 → (atF l fs (atG l fs g p) q).1 = 0) ∧
    ((atF l fs (atG l fs g p) q).1 = 0 → ¬ (atF l fs g (p ++ q)).1 = 0 → 300 < p.length + q.length) ∧
    ((atF l fs (atG l fs g p) q).1 = 0 → (atF l fs g (p ++ q)).1 = 0 → (AtOk l fs (atG l fs g p) q ↔ AtOk l fs g (p ++ q)) ∧ atG l fs (atG l fs g p) q = atG l fs g (p ++ q)) := by
  obtain ⟨h0, h1, h2⟩ := at_zero.1 hok.1
  have hgv := gv_of h0
  have hk := hgv.gok
  have t := trr_of hk hal hd
  have hv := t.valid hgv
  rw [hX]
  refine ⟨fun h => ?_, fun hx hn => ?_, fun hx hy => ?_⟩
  · obtain ⟨_, h4, h5⟩ := at_zero.1 h
    rw [List.length_append] at h4
    exact at_zero.2 ⟨hv, by omega, fun x hx => h5 x (List.mem_append_right _ hx)⟩
  · obtain ⟨_, _, h5⟩ := at_zero.1 hx
    by_cases h6 : 300 < p.length + q.length
    · exact h6
    · refine absurd (at_zero.2 ⟨h0, by rw [List.length_append]; omega, fun x hx => ?_⟩) hn
      rcases List.mem_append.1 hx with hx | hx
      · exact h2 x hx
      · exact h5 x hx
  · have hw : walkT g (p ++ q) 0 = walkT g q a := by rw [walkT_app, ha]
    have hz0 : o.idxOf a = 0 := t.zero
    rcases t.walk hk q t.has with ⟨e1, e2⟩ | ⟨c, hc, e1, e2⟩
    · rw [hz0] at e2
      have n1 : ¬ AtOk l fs (canG g o) q := fun h => by have := h.2; rw [show (0 : Int) = ((0 : Nat) : Int) from rfl, e2] at this; omega
      have n2 : ¬ AtOk l fs g (p ++ q) := fun h => by have := h.2; rw [hw, e1] at this; omega
      exact ⟨⟨fun h => absurd h n1, fun h => absurd h n2⟩, by rw [atG_no n1, atG_no n2]⟩
    · rw [hz0] at e2
      have y1 : AtOk l fs (canG g o) q := ⟨hx, by rw [show (0 : Int) = ((0 : Nat) : Int) from rfl, e2]; omega⟩
      have y2 : AtOk l fs g (p ++ q) := ⟨hy, by rw [hw, e1]; omega⟩
      refine ⟨⟨fun _ => y2, fun _ => y1⟩, ?_⟩
      obtain ⟨a2, o2, h3, h4, h5⟩ := hz y2
      have ec : a2 = c := by rw [hw, e1] at h3; omega
      subst ec
      rw [h5, atG_yes y1 e2 (t.dl2 hc h4)]
      exact t.can2 hc h4
end comp
end Go.Proofs.YtlaihbaneoeffaaDoor
