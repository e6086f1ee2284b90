/- A graph in memory that nobody else can reach: its nodes may be written in place. Types and links apart. No program in sight. -/
import Derived.Test.YtfhmpbmgddaiiaaDoorDfs
import Derived.Test.YtfhmpbmgddaiiaaDoorEng4
namespace Go.Proofs.YtfhmpbmgddaiiaaDoor
open Go.RowKit
def SameQ (X : List Nat) (w w' : World) : Prop := Same X w w'
theorem SameQ.trans {X : List Nat} {a b c : World} (h : SameQ X a b) {Y : List Nat} (k : Same Y b c) (hy : ∀ g ∈ Y, g ∈ X) : SameQ X a c := Same.trans h (k.weak hy)
structure ChG (Z : Nat → Prop) (w w' : World) : Prop where
  os : w'.os = w.os
  tape : w'.tape = w.tape
  output : w'.output = w.output
  size : w.heap.size ≤ w'.heap.size
  blk : ∀ k, k < w.heap.size → ¬ Z k → w'.heap[k]? = w.heap[k]?
theorem ChG.refl (Z : Nat → Prop) (w : World) : ChG Z w w := ⟨rfl, rfl, rfl, Nat.le_refl _, fun _ _ _ => rfl⟩
theorem ChG.st {Z : Nat → Prop} {Y : List Nat} {a b c : World} (h : ChG Z a b) (k : Same Y b c) (hy : ∀ g ∈ Y, Z g ∨ a.heap.size ≤ g) : ChG Z a c :=
  ⟨k.os.trans h.os, k.tape.trans h.tape, k.output.trans h.output, nLT h.size k.size, fun i hi hx => (k.blk i (nLL hi h.size) (fun hm => (hy i hm).elim hx (fun h2 => by omega))).trans (h.blk i hi hx)⟩
theorem ChG.trans {Z Z' : Nat → Prop} {a b c : World} (h : ChG Z a b) (k : ChG Z' b c) (hz : ∀ g, Z' g → Z g ∨ a.heap.size ≤ g) : ChG Z a c :=
  ⟨k.os.trans h.os, k.tape.trans h.tape, k.output.trans h.output, nLT h.size k.size, fun i hi hx => (k.blk i (nLL hi h.size) (fun hm => (hz i hm).elim hx (fun h2 => by omega))).trans (h.blk i hi hx)⟩
theorem Blk.chG {Z : Nat → Prop} {w w' : World} {b t : Nat} {cs : Array Value} (h : Blk w b t cs) (hc : ChG Z w w') (hx : ¬ Z b) : Blk w' b t cs := (hc.blk b h.lt hx).trans h
theorem Bel.chG {Z : Nat → Prop} {w0 w w' : World} (h : Bel w0 w) (hc : ChG Z w w') (hz : ∀ g, Z g → w0.heap.size ≤ g) : Bel w0 w' :=
  ⟨hc.os.trans h.os, hc.tape.trans h.tape, hc.output.trans h.output, nLT h.size hc.size, fun k hk => (hc.blk k (nLL hk h.size) (fun hm => by have := hz k hm; omega)).trans (h.block k hk)⟩
theorem ChG.bel {Z : Nat → Prop} {w w' : World} (h : Bel w w') : ChG Z w w' := ⟨h.os, h.tape, h.output, h.size, fun k hk _ => h.block k hk⟩
theorem RowO.chG {w w' : World} {lo bs g : Nat} {v : Value} {xs : List (Int × Int)} {cs : Array Value} {t : TypeId} (h : RowO w lo bs v xs) (hb : Blk w g t cs) (ht : 30 ≠ t) (hc : ChG (fun k => k = g) w w') : RowO w' lo bs v xs := by
  obtain ⟨A, c, e, h1, h2⟩ := h
  refine ⟨A, c, e, ⟨h1.1, ?_⟩, h2⟩
  have hty := h1.typ
  rcases h1.2 with hn | ⟨q, c, cur, hv, hbb, hg, r⟩
  · exact .inl hn
  · refine .inr ⟨q, c, cur, hv, hbb, ?_, r⟩
    rw [hc.blk q (lt_of_heap hg) (fun e => ?_)]
    · exact hg
    · subst e; exact ht (blk_type hg hb)
theorem RowO.lks {w : World} {lo bs n c : Nat} {A : Option Addr} {xs : List (Int × Int)} (h : RowO w lo bs (.slice A n c) xs) : LinksIn w A xs := by
  obtain ⟨A', c', e, h1, _⟩ := h
  cases e; exact own_links h1
def rtG (gr : List Nd) (T : Nat → Int) : List Nd := (List.range gr.length).map (fun i => ⟨T i, (nd gr i).ln⟩)
theorem rtG_len (gr : List Nd) (T : Nat → Int) : (rtG gr T).length = gr.length := by simp [rtG]
theorem rtG_congr {gr : List Nd} {T T' : Nat → Int} (h : ∀ i, i < gr.length → T i = T' i) : rtG gr T = rtG gr T' := by
  unfold rtG
  exact List.map_congr_left (fun i hi => by rw [h i (List.mem_range.1 hi)])
theorem nd_canG {gr : List Nd} {o : List Nat} {x : Nat} (hx : x < o.length) : nd (canG gr o) x = ⟨(nd gr (o.getD x 0)).ty, (nd gr (o.getD x 0)).ln.map (canL o)⟩ := by simp [nd, canG, canN, List.getD, hx]
def GrT (w : World) (lo hi : Nat) (A : Option Addr) (c : Nat) (gr : List Nd) (T : Nat → Int) : Prop :=
  ∃ V : Nat → Value, Own w lo 33 2 A gr.length c (ndV (fun x => .int .i64 (T x)) V gr.length) ∧ (∀ g ∈ aL A, g < hi) ∧ ∀ x, x < gr.length → RowO w lo hi (V x) (nd gr x).ln
section
variable {w w' : World} {lo hi c : Nat} {A : Option Addr} {gr : List Nd} {T : Nat → Int}
theorem GrT.nodes (h : GrT w lo hi A c gr T) : NodesIn w A (rtG gr T) := by
  obtain ⟨V, ho, _, hr⟩ := h
  refine nodes_own (lo := lo) (bs := hi) ho (rtG_len gr T) (fun k hk => ?_) (fun k hk => ?_)
  · simp [rtG]
  · rw [rtG_len] at hk
    have e : ((rtG gr T)[k]'(by rw [rtG_len]; exact hk)).ln = (nd gr k).ln := by simp [rtG]
    rw [e]; exact hr k hk
theorem GrT.cap_le (h : GrT w lo hi A c gr T) : gr.length ≤ c := by obtain ⟨V, ho, _⟩ := h; exact ho.cap_le
theorem GrT.congr (h : GrT w lo hi A c gr T) {T' : Nat → Int} (e : ∀ i, i < gr.length → T i = T' i) : GrT w lo hi A c gr T' := by
  obtain ⟨V, ho, hA, hr⟩ := h
  exact ⟨V, by rw [ndV_congr (f' := fun x => .int .i64 (T x)) (h' := V) (fun x hx => by rw [e x hx]) (fun _ _ => rfl)]; exact ho, hA, hr⟩
theorem GrT.tr {X : List Nat} (h : GrT w lo hi A c gr T) (hs : Same X w w') (hx : ∀ g ∈ X, g < lo ∨ hi ≤ g) : GrT w' lo hi A c gr T := by
  obtain ⟨V, ho, hA, hr⟩ := h
  refine ⟨V, ho.tr hs (fun g hg hm => ?_), hA, fun x hxl => ?_⟩
  · have h1 := hx g hm
    have h2 := (ho.lt g hg).1
    have h3 := hA g hg
    omega
  · obtain ⟨A2, c2, e, h1, h2⟩ := hr x hxl
    refine ⟨A2, c2, e, h1.tr hs (fun g hg hm => ?_), h2⟩
    have h3 := hx g hm
    have h4 := (h1.lt g hg).1
    have h5 := h2 g hg
    omega
theorem GrT.fr {w2 : World} (h : GrT w lo hi A c gr T) (hf : FrSame lo w w2) : GrT w2 lo hi A c gr T := by
  obtain ⟨V, ho, hA, hr⟩ := h
  exact ⟨V, ho.fr (Nat.le_refl _) hf, hA, fun x hx => (hr x hx).fr hf⟩
theorem GrT.up {hi' : Nat} (h : GrT w lo hi A c gr T) (hh : hi ≤ hi') : GrT w lo hi' A c gr T := by
  obtain ⟨V, ho, hA, hr⟩ := h
  exact ⟨V, ho, fun g hg => nLL (hA g hg) hh, fun x hx => (hr x hx).up hh⟩
theorem RowO.low {lo' bs : Nat} {v : Value} {xs : List (Int × Int)} (h : RowO w lo bs v xs) (hl : lo' ≤ lo) : RowO w lo' bs v xs := by
  obtain ⟨A, c, e, h1, h2⟩ := h
  exact ⟨A, c, e, h1.low hl, h2⟩
theorem GrT.low {lo' : Nat} (h : GrT w lo hi A c gr T) (hl : lo' ≤ lo) : GrT w lo' hi A c gr T := by
  obtain ⟨V, ho, hA, hr⟩ := h
  exact ⟨V, ho.low hl, hA, fun x hx => (hr x hx).low hl⟩
theorem GrT.mk {base bs m : Nat} {V f : Nat → Value} (ho : Own w base 33 2 A m c (ndV f V m)) (hm : gr.length = m) (hb : lo ≤ base) (hf : ∀ x, x < m → f x = .int .i64 (T x)) (hA : ∀ g ∈ aL A, g < hi) (hbs : bs ≤ hi) (hr : ∀ x, x < m → RowO w lo bs (V x) (nd gr x).ln) : GrT w lo hi A c gr T := by
  subst hm
  refine ⟨V, ?_, hA, fun x hx => (hr x hx).up hbs⟩
  rw [ndV_congr (f' := f) (h' := V) (fun x hx => (hf x hx).symm) (fun _ _ => rfl)]
  exact ho.low hb
theorem own_of {e : TypeId} {base sz k cap g : Nat} {cur : Array Value} {xs : List Value} (hb : Blk w g e cur) (hbase : base ≤ g) (hk : k ≤ cap) (hm : cap ≤ 9223372036854775807) (hs : cur.size = cap * sz) (hx : cur.toList.take (k * sz) = xs) : Own w base e sz (some ⟨g, 0, none⟩) k cap xs := by
  have hle : k * sz ≤ cap * sz := Nat.mul_le_mul_right sz hk
  subst hx
  exact ⟨by rw [List.length_take, Array.length_toList]; omega, .inr ⟨g, cap, cur, rfl, hbase, hb, hk, by simpa [maxLen] using hm, hs, rfl⟩⟩
theorem own_row2 {b m : Nat} {f h : Nat → Value} (hb : Blk w b 33 (row2 m f h)) (hl : lo ≤ b) (hm : m ≤ 1000000) : Own w lo 33 2 (some ⟨b, 0, none⟩) m m (ndV f h m) := by
  refine own_of hb hl (Nat.le_refl _) om (row2_size m f h) ?_
  refine List.ext_getElem? (fun j => ?_)
  by_cases hj : j < m * 2
  · have h2 : j / 2 < m := by omega
    rw [List.getElem?_take_of_lt hj, Array.getElem?_toList]
    rcases Nat.mod_two_eq_zero_or_one j with e | e
    · have e2 : j = j / 2 * 2 := by omega
      have h3 := row2_get0 (f := f) (h := h) h2
      rw [show 0 + j / 2 * 2 + 0 = j by omega] at h3
      have h4 := (ndV_get f h h2).1
      rw [← e2] at h4
      rw [h3, h4]
    · have e2 : j = j / 2 * 2 + 1 := by omega
      have h3 := row2_get1 (f := f) (h := h) h2
      rw [show 0 + j / 2 * 2 + 1 = j by omega] at h3
      have h4 := (ndV_get f h h2).2
      rw [← e2] at h4
      rw [h3, h4]
  · rw [List.getElem?_eq_none (by rw [List.length_take]; omega), List.getElem?_eq_none (by rw [ndV_len]; omega)]
theorem ndV_set0 {f V : Nat → Value} {n k : Nat} {v : Value} : (ndV f V n).set (0 + k * 2 + 0) v = ndV (fun x => if x = k then v else f x) V n := by
  refine List.ext_getElem? (fun j => ?_)
  by_cases hj : j < n * 2
  · have h2 : j / 2 < n := by omega
    rcases Nat.mod_two_eq_zero_or_one j with e | e
    · have e2 : j = j / 2 * 2 := by omega
      by_cases hjk : j / 2 = k
      · rw [show 0 + k * 2 + 0 = j by omega, List.getElem?_set_self (by rw [ndV_len]; exact hj)]
        have h3 := (ndV_get (fun x => if x = k then v else f x) V h2).1
        rw [← e2] at h3
        rw [h3, if_pos hjk]
      · rw [List.getElem?_set_ne om]
        have h3 := (ndV_get (fun x => if x = k then v else f x) V h2).1
        have h4 := (ndV_get f V h2).1
        rw [← e2] at h3 h4
        rw [h3, h4, if_neg hjk]
    · have e2 : j = j / 2 * 2 + 1 := by omega
      rw [List.getElem?_set_ne om]
      have h3 := (ndV_get (fun x => if x = k then v else f x) V h2).2
      have h4 := (ndV_get f V h2).2
      rw [← e2] at h3 h4
      rw [h3, h4]
  · rw [List.getElem?_eq_none (by rw [List.length_set, ndV_len]; omega), List.getElem?_eq_none (by rw [ndV_len]; omega)]
theorem GrT.open_ {k : Nat} (h : GrT w lo hi A c gr T) (hk : k < gr.length) : ∃ (V : Nat → Value) (g : Nat) (cur : Array Value), A = some ⟨g, 0, none⟩ ∧ lo ≤ g ∧ g < hi ∧ Blk w g 33 cur ∧ gr.length * 2 ≤ cur.size ∧ (∀ x, x < gr.length → cur[0 + x * 2 + 0]? = some (.int .i64 (T x))) ∧ (∀ x, x < gr.length → cur[0 + x * 2 + 1]? = some (V x)) ∧ (∀ x, x < gr.length → RowO w lo hi (V x) (nd gr x).ln) ∧
    ∀ w1 v, Blk w1 g 33 (cur.setIfInBounds (0 + k * 2 + 0) (.int .i64 v)) → (∀ x, x < gr.length → RowO w1 lo hi (V x) (nd gr x).ln) → GrT w1 lo hi (some ⟨g, 0, none⟩) c gr (fun x => if x = k then v else T x) := by
  obtain ⟨V, ho, hA, hr⟩ := h
  obtain ⟨g, cur, rfl, hg, hb, hsz, hrd, hcl⟩ := ho.open_ om
  refine ⟨V, g, cur, rfl, hg, hA g (List.mem_singleton.2 rfl), hb, hsz, fun x hx => ?_, fun x hx => ?_, hr, fun w1 v hw hr2 => ⟨V, ?_, hA, hr2⟩⟩
  · rw [hrd _ om, show 0 + x * 2 + 0 = x * 2 by omega]; exact (ndV_get _ _ hx).1
  · rw [hrd _ om, show 0 + x * 2 + 1 = x * 2 + 1 by omega]; exact (ndV_get _ _ hx).2
  · have h1 := hcl w1 _ _ hw
    rw [ndV_set0, ndV_congr (f' := fun x => .int .i64 (if x = k then v else T x)) (h' := V) (fun x _ => by by_cases e : x = k <;> simp [e]) (fun _ _ => rfl)] at h1
    exact h1
end
theorem GrT.addr {w : World} {lo hi c k : Nat} {A : Option Addr} {gr : List Nd} {T : Nat → Int} (h : GrT w lo hi A c gr T) (hk : k < gr.length) : ∃ g, A = some ⟨g, 0, none⟩ ∧ lo ≤ g ∧ g < hi := by
  obtain ⟨V, g2, cur, e, h1, h2, _⟩ := h.open_ hk
  exact ⟨g2, e, h1, h2⟩
end Go.Proofs.YtfhmpbmgddaiiaaDoor
