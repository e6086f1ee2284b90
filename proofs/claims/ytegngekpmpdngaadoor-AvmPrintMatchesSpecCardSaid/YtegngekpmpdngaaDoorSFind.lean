/- What these functions of the program compute, at every world: glosswright/glosswrightref3.Canon. What these functions of the program compute, at every world: . Targets of links, walks along paths, what At answers. No program in sight. What these functions of the program compute, at every world: cmp.isNaN[int], cmp.Compare[int], glosswright/graph.Target$1, slices.BinarySearchFunc[[]glosswright/api.Link,glosswright/api.Link,int]. What these functions of the program compute, at every world: glosswright/graph.Target, glosswright/glosswrightref3.Target, glosswright/glosswrightlaw3.single. A graph whose nodes are numbered in another way: valid, and of the same canonical form. No program in sight. What is reached from a node of a valid graph is a valid graph; a path in it leads where the path leads in the graph. No program in sight. Maps between feature graphs: when there is one, that there is one only, and the states of the two searches for it. No program in sight. What these functions of the program compute, at every world: glosswright/subsume.Both, glosswright/subsume.Find, glosswright/subsume.Subsumes, glosswright/glosswrightlaw3.twoFault. -/
import Derived.Test.YtegngekpmpdngaaDoorU
import Derived.Test.YtegngekpmpdngaaDoorGRFr3
import Derived.Test.YtegngekpmpdngaaDoorGro
namespace Go.Proofs.YtegngekpmpdngaaDoor
open Go.RowKit
theorem fn88 : callable Tryd.prog 88 = true := by kernel_rfl
theorem rcanon_any (G : Option Addr) (cg nt nf : Nat) (gr : List Nd) (w : World) (hG : NodesIn w G gr) (hk : GOk nt nf gr) (hnf : nf ≤ 1000) : Calls Tryd.prog 56 #[.agg #[.slice G gr.length cg]] w fun e w' => (∃ o A c, DL gr [0] [] o ∧ e = .returned (.agg #[.slice A o.length c]) ∧ (∀ w2, FrSame w.heap.size w' w2 → NodesIn w2 A (canG gr o))) ∧ Bel w w' := by
 refine enter Tryd.func56 Tryd.ntmps56 rfl (Nat.le_of_ble_eq_true rfl) ?_
 have hB : Bel w w := Below.refl _ _
 refine c_seq (c_region ?_)
 refine wl_bx (v := .agg #[_]) (cs := #[_]) rfl rfl (fun b1 w1 hb1 hs hr => ?_)
 have lo1 := nLT (Bel.size hB) hr
 replace hB := hB.tr0 hs
 clear hs
 clear hr
 refine wl_al (cs := #[.slice none 0 0]) ze28 rfl (fun b2 w2 hb2 hs hr => ?_)
 have or_b1_b2 : b1 < b2 := nLL hb1.lt hr
 have lo2 := nLT (Bel.size hB) hr
 replace hB := hB.tr0 hs
 replace hb1 := hb1.tr0 hs
 clear hs
 clear hr
 refine x_nil (e_S (c_seq (c_region (wl (r_ldS U28 rfl rfl hb1.range0 sz28) ?_))))
 have z2 := hb2.lt
 have hszv := Bel.size hB
 refine wl_cl fn88 (rfrom2_any G cg nf gr 0 _ (hG.mono hB) hk.two hnf hk.pos) rfl (fun e' w3 hr => ?_)
 obtain ⟨⟨o, AN, cn, hD, hok, rfl, hN⟩, hs⟩ := hr
 replace hs := Same.of_bel hs
 replace hB := hB.tr0 hs
 replace hb1 := hb1.tr0 hs
 replace hb2 := hb2.tr0 hs
 clear hs
 have hFr : FrSame (w2).heap.size w3 w3 := FrSame.refl _ _
 obtain ⟨Z0, hZ0⟩ : ∃ z, z = (w2).heap.size := ⟨_, rfl⟩
 rw [← hZ0] at hN hFr z2
 obtain ⟨wZ, hwZ⟩ : ∃ z, z = w3 := ⟨_, rfl⟩
 have hz0 : w.heap.size ≤ Z0 := by rw [hZ0]; exact hszv
 replace hFr : FrSame Z0 wZ w3 := by rw [hwZ]; exact FrSame.refl _ _
 rw [← hwZ] at hN
 refine ⟨_, rfl, ?_⟩
 refine wl_stW hb2 rfl rfl sz28 rfl oneA (fun w4 hq hs => ?_)
 replace hB := hB.tr1 hs lo2
 replace hb1 := hb1.tr1 hs om
 replace hFr := hFr.of hs (fun g hg => by rw [List.mem_singleton.1 hg]; omega)
 clear hs
 replace hb2 := hq
 refine x_nil (e_S (c_ret (fin1 (.inl rfl) rfl (rr_cell U28 rfl rfl hb2.range0 sz28) ?_)))
 exact ⟨⟨o, _, _, hD, rfl, fun w2 hf => hN w2 (hFr.then hf hz0)⟩, hB⟩
end Go.Proofs.YtegngekpmpdngaaDoor
namespace Go.Proofs.YtegngekpmpdngaaDoor
open Go.RowKit
theorem links_of_blk {w : World} {b t : Nat} {cs : Array Value} (xs : List (Int × Int)) (h : Blk w b t cs) (he : cs = (lnV xs).toArray) (hl : xs.length ≤ maxI) : LinksIn w (some ⟨b, 0, none⟩) xs := by
  subst he
  refine ⟨hl, fun _ => ⟨b, 0, rfl, h.lt, fun k hk j v hj => ?_⟩⟩
  have h2 := lnV_get xs k hk
  match j, hj with
  | 0, hj => cases hj; exact h.cell (by simpa using h2.1)
  | 1, hj => cases hj; exact h.cell (by simpa using h2.2)
  | _ + 2, hj => cases hj
theorem links_nil (w : World) (A : Option Addr) : LinksIn w A [] := ⟨Nat.zero_le _, fun h => absurd rfl h⟩
inductive NdVs (w : World) : List Nd → List Value → Prop
  | nil : NdVs w [] []
  | cons {x : Nd} {l : List Nd} {vs : List Value} {A : Option Addr} {c : Nat} (h : LinksIn w A x.ln) (r : NdVs w l vs) : NdVs w (x :: l) (.int .i64 x.ty :: .slice A x.ln.length c :: vs)
theorem NdVs.get {w : World} {l : List Nd} {vs : List Value} (h : NdVs w l vs) : ∀ k (hk : k < l.length), ∃ A c, vs[k * 2]? = some (.int .i64 (l[k]).ty) ∧ vs[k * 2 + 1]? = some (.slice A (l[k]).ln.length c) ∧ LinksIn w A (l[k]).ln := by
  induction h with
  | nil => intro k hk; simp at hk
  | cons h r ih =>
    intro k hk
    match k, hk with
    | 0, _ => exact ⟨_, _, rfl, rfl, h⟩
    | k + 1, hk =>
      obtain ⟨A, c, h1, h2, h3⟩ := ih k (by simpa using hk)
      refine ⟨A, c, ?_, ?_, h3⟩
      · rw [show (k + 1) * 2 = k * 2 + 1 + 1 from by omega]; simpa using h1
      · rw [show (k + 1) * 2 + 1 = k * 2 + 1 + 1 + 1 from by omega]; simpa using h2
theorem nodes_of_blk {w : World} {b t : Nat} {l : List Nd} {vs : List Value} (h : Blk w b t vs.toArray) (hv : NdVs w l vs) (hl : l.length ≤ maxI) : NodesIn w (some ⟨b, 0, none⟩) l :=
  ⟨hl, fun _ => ⟨b, 0, rfl, h.lt, fun k hk => by
    obtain ⟨A, c, h1, h2, h3⟩ := hv.get k hk
    refine ⟨A, c, fun j v hj => ?_, h3⟩
    match j, hj with
    | 0, hj => cases hj; exact h.cell (by simpa using h1)
    | 1, hj => cases hj; exact h.cell (by simpa using h2)
    | _ + 2, hj => cases hj⟩⟩
end Go.Proofs.YtegngekpmpdngaaDoor
namespace Go.Proofs.YtegngekpmpdngaaDoor
open Go.RowKit
def tgt (xs : List (Int × Int)) (f : Int) : Int := match xs.find? (fun y => decide (y.1 = f)) with
  | some y => y.2
  | none => -1
theorem ln_sorted {nf n : Nat} : ∀ {xs : List (Int × Int)} {last : Int}, lnFault nf n last xs = 0 → (∀ j (hj : j < xs.length), last < (xs[j]).1) ∧ ∀ i j (hi : i < xs.length) (hj : j < xs.length), i < j → (xs[i]).1 < (xs[j]).1
  | [], _, _ => ⟨fun j hj => absurd hj (by simp), fun i j hi => absurd hi (by simp)⟩
  | y :: ys, last, h => by
    unfold lnFault at h
    by_cases h1 : lnBad nf n y
    · rw [if_pos h1] at h; cases h
    rw [if_neg h1] at h
    by_cases h2 : y.1 ≤ last
    · rw [if_pos h2] at h; cases h
    rw [if_neg h2] at h
    obtain ⟨ih1, ih2⟩ := ln_sorted h
    refine ⟨fun j hj => ?_, fun i j hi hj hij => ?_⟩
    · match j, hj with
      | 0, _ => show last < y.1; omega
      | j + 1, hj =>
        have := ih1 j (by simpa using hj)
        show last < (ys[j]'(by simpa using hj)).1
        omega
    · match i, j, hi, hj, hij with
      | 0, j + 1, _, hj, _ => exact ih1 j (by simpa using hj)
      | i + 1, j + 1, hi, hj, hij => exact ih2 i j (by simpa using hi) (by simpa using hj) om
def walkT (g : List Nd) : List Int → Int → Int
  | [], a => a
  | f :: p, a => if a < 0 then a else walkT g p (tgt (nd g a.toNat).ln f)
def pF (nf : Nat) (p : List Int) (i : Nat) : Int := match p[i]? with
  | none => 0
  | some x => if x < 0 ∨ (nf : Int) ≤ x then 3 else 0
noncomputable def atF (l : List Ty) (fs : List Ft) (g : List Nd) (p : List Int) : Fl := if ¬ (graphF l fs g).1 = 0 then graphF l fs g else if 300 < p.length then (2, -3) else firstF (pF fs.length p) 0 p.length
def AtOk (l : List Ty) (fs : List Ft) (g : List Nd) (p : List Int) : Prop := (atF l fs g p).1 = 0 ∧ 0 ≤ walkT g p 0
noncomputable instance (l : List Ty) (fs : List Ft) (g : List Nd) (p : List Int) : Decidable (AtOk l fs g p) := Classical.propDecidable _
end Go.Proofs.YtegngekpmpdngaaDoor
namespace Go.Proofs.YtegngekpmpdngaaDoor
open Go.RowKit
theorem sz3_GSearch : (Tryd.prog.info? 3).map (·.size) = some 1 := by kernel_rfl
theorem sz30_GSearch : (Tryd.prog.info? 30).map (·.size) = some 2 := by kernel_rfl
end Go.Proofs.YtegngekpmpdngaaDoor
namespace Go.Proofs.YtegngekpmpdngaaDoor
open Go.RowKit
theorem sz33_GTgt : (Tryd.prog.info? 33).map (·.size) = some 2 := by kernel_rfl
theorem ze28_GTgt : (Tryd.prog.info? 28).map (·.zero) = some (some (.agg #[.slice none 0 0])) := by kernel_rfl
theorem ze30_GTgt : (Tryd.prog.info? 30).map (·.zero) = some (some (.agg #[.int .i64 0, .int .i64 0])) := by kernel_rfl
theorem ze33_GTgt : (Tryd.prog.info? 33).map (·.zero) = some (some (.agg #[.int .i64 0, .slice none 0 0])) := by kernel_rfl
end Go.Proofs.YtegngekpmpdngaaDoor
namespace Go.Proofs.YtegngekpmpdngaaDoor
open Go.RowKit
def trN (σ : Nat → Nat) (x : Nd) : Nd := ⟨x.ty, x.ln.map (fun y => (y.1, (σ y.2.toNat : Int)))⟩
theorem nd_out {g : List Nd} {i : Nat} (h : ¬ i < g.length) : nd g i = ⟨0, []⟩ := by simp [nd, List.getD, List.getElem?_eq_none (Nat.le_of_not_lt h)]
theorem lnFault_map {nf n m : Nat} {σ : Nat → Nat} : ∀ {xs : List (Int × Int)} {last : Int}, lnFault nf n last xs = 0 → (∀ x ∈ xs, σ x.2.toNat < m) → lnFault nf m last (xs.map (fun y => (y.1, (σ y.2.toNat : Int)))) = 0
  | [], _, _, _ => rfl
  | y :: ys, last, h, hm => by
    unfold lnFault at h
    by_cases h1 : lnBad nf n y
    · rw [if_pos h1] at h; cases h
    rw [if_neg h1] at h
    by_cases h2 : y.1 ≤ last
    · rw [if_pos h2] at h; cases h
    rw [if_neg h2] at h
    have h3 := hm y (by simp)
    have h4 : ¬ lnBad nf m (y.1, (σ y.2.toNat : Int)) := by
      unfold lnBad at h1 ⊢
      omega
    rw [List.map_cons]
    unfold lnFault
    rw [if_neg h4, if_neg h2]
    exact lnFault_map h (fun x hx => hm x (List.mem_cons_of_mem _ hx))
theorem gv_img {l : List Ty} {fs : List Ft} {g gt : List Nd} {σ τ : Nat → Nat} (h : GV l fs g) (hp : 0 < gt.length) (hle : gt.length ≤ 60)
    (hτ : ∀ j, j < gt.length → τ j < g.length ∧ nd gt j = trN σ (nd g (τ j)) ∧ ∀ x ∈ (nd g (τ j)).ln, σ x.2.toNat < gt.length ∧ (nd gt (σ x.2.toNat)).ty = (nd g x.2.toNat).ty)
    (hR : ∀ j, j < gt.length → Rch gt j) : (graphF l fs gt).1 = 0 := by
  have hl : looseF l.length fs.length gt = (0, 0) := by
    unfold looseF
    rw [if_neg om]
    refine firstF_all (fun k _ hk => ?_)
    have hk' : k < gt.length := by omega
    obtain ⟨hτ1, hτ2, hτ3⟩ := hτ k hk'
    rw [nd_eq hk', nd_eq hτ1] at hτ2
    rw [nd_eq hτ1] at hτ3
    have hty := h.gok.ty _ hτ1
    have hln := loose_ln h.lo _ hτ1
    have e : ¬ ((gt[k]).ty < 0 ∨ (l.length : Int) ≤ (gt[k]).ty) := by rw [hτ2]; simp only [trN]; omega
    rw [looseN_ln hk' e, List.drop_zero, hτ2]
    exact lnFault_map hln (fun x hx => (hτ3 x hx).1)
  have ht : tyF l fs gt = (0, 0) := by
    refine firstF_all (fun k _ hk => ?_)
    have hk' : k < gt.length := by omega
    obtain ⟨hτ1, hτ2, hτ3⟩ := hτ k hk'
    refine tyN_no hk' (fun j hj => ?_)
    have h0 : tyN l fs g (τ k) = 0 := firstF_zero (by rw [show firstF (tyN l fs g) 0 g.length = tyF l fs g from rfl, h.t]) _ (Nat.zero_le _) om
    rw [nd_eq hk', nd_eq hτ1] at hτ2
    rw [nd_eq hτ1] at hτ3
    have hex : ∃ y ∈ (g[τ k]).ln, (gt[k]).ln[j] = (y.1, (σ y.2.toNat : Int)) := by
      have hm : (gt[k]).ln[j] ∈ (trN σ (g[τ k])).ln := by rw [← hτ2]; exact List.getElem_mem hj
      simp only [trN, List.mem_map] at hm
      obtain ⟨y, hy, e⟩ := hm
      exact ⟨y, hy, e.symm⟩
    obtain ⟨y, hy, ey⟩ := hex
    have h1 : lnTy l fs g (g[τ k]).ty y = false := by
      simp only [tyN, List.getElem?_eq_getElem hτ1] at h0
      cases hb : lnTy l fs g (g[τ k]).ty y with
      | false => rfl
      | true => rw [if_pos (List.any_eq_true.2 ⟨y, hy, hb⟩)] at h0; cases h0
    have e3 := (hτ3 y hy).2
    have e2 : (gt[k]).ty = (g[τ k]).ty := by rw [hτ2]; rfl
    rw [ey, e2]
    unfold lnTy at h1 ⊢
    have e4 : (ndAt gt ((σ y.2.toNat : Nat) : Int)).ty = (ndAt g y.2).ty := by
      unfold nd at e3
      unfold ndAt
      rw [Int.toNat_natCast]; exact e3
    rw [e4]
    exact h1
  have hu : (-1 : Int) = unrI gt := unr_is (.inl ⟨rfl, hR⟩)
  rw [gf_in h.h, wi_zero (by rw [hl]) ht om]
theorem unr_ex (g : List Nd) : ∃ r, UnrIs g r := by
  have h : ∀ n : Nat, (∀ i, i < n → Rch g i) ∨ ∃ k, k < n ∧ ¬ Rch g k ∧ ∀ i, i < k → Rch g i := by
    intro n
    induction n with
    | zero => exact .inl (fun i hi => absurd hi om)
    | succ n ih =>
      rcases ih with h | ⟨k, h1, h2, h3⟩
      · by_cases hn : Rch g n
        · refine .inl (fun i hi => ?_)
          by_cases e : i = n
          · rw [e]; exact hn
          · exact h i om
        · exact .inr ⟨n, by omega, hn, h⟩
      · exact .inr ⟨k, by omega, h2, h3⟩
  rcases h g.length with h | ⟨k, h1, h2, h3⟩
  · exact ⟨-1, .inl ⟨rfl, h⟩⟩
  · exact ⟨k, .inr ⟨k, rfl, h1, h2, h3⟩⟩
theorem GV.rch {l : List Ty} {fs : List Ft} {g : List Nd} (h : GV l fs g) : ∀ i, i < g.length → Rch g i := by
  obtain ⟨r, hr⟩ := unr_ex g
  have hu := h.u
  rw [← unr_is hr] at hu
  rcases hr with ⟨_, h3⟩ | ⟨k, h3, _⟩
  · exact h3
  · exact absurd (show 0 ≤ r by omega) hu
structure Turn (g gt : List Nd) (σ ρ : Nat → Nat) : Prop where
  len : gt.length = g.length
  z : σ 0 = 0
  lt : ∀ i, i < g.length → σ i < g.length
  rl : ∀ j, j < g.length → ρ j < g.length ∧ σ (ρ j) = j
  lr : ∀ i, i < g.length → ρ (σ i) = i
  nd : ∀ i, i < g.length → nd gt (σ i) = trN σ (nd g i)
section turn
variable {g gt : List Nd} {σ ρ : Nat → Nat}
theorem Turn.inj (t : Turn g gt σ ρ) {x y : Nat} (hx : x < g.length) (hy : y < g.length) (h : σ x = σ y) : x = y := by rw [← t.lr x hx, ← t.lr y hy, h]
theorem Turn.succ (t : Turn g gt σ ρ) {i : Nat} (hi : i < g.length) : succN gt (σ i) = (succN g i).map σ := by
  unfold succN; rw [t.nd i hi]; simp [trN]
theorem Turn.dl (t : Turn g gt σ ρ) (hr : ∀ i, i < g.length → ∀ y ∈ succN g i, y < g.length) {is a b : List Nat} (h : DL g is a b) : (∀ i ∈ is, i < g.length) → (∀ x ∈ b, x < g.length) → DL gt (is.map σ) (a.map σ) (b.map σ) := by
  induction h with
  | nil => exact fun _ _ => .nil
  | old h _ ih => exact fun hi hb => .old (List.mem_map_of_mem h) (ih (fun i h => hi i (List.mem_cons_of_mem _ h)) hb)
  | new h s u ihs iht =>
    intro hi hb
    rename_i i is o o1 o'
    have hil := hi i (List.mem_cons_self ..)
    have ho1 : ∀ x ∈ o1, x < g.length := fun x hx => hb x (u.sub _ hx)
    refine .new (fun hm => ?_) ?_ (iht (fun i h => hi i (List.mem_cons_of_mem _ h)) hb)
    · obtain ⟨y, hy, e⟩ := List.mem_map.1 hm
      have hyl := ho1 y (s.sub _ (List.mem_append_left _ hy))
      exact h (t.inj hyl hil e ▸ hy)
    · have := ihs (hr i hil) ho1
      rw [List.map_append] at this
      rw [t.succ hil]
      exact this
theorem Turn.rch (t : Turn g gt σ ρ) (hr : ∀ i, i < g.length → ∀ y ∈ succN g i, y < g.length) (hp : 0 < g.length) {i : Nat} (h : Rch g i) : i < g.length ∧ Rch gt (σ i) := by
  induction h with
  | zero => exact ⟨hp, by rw [t.z]; exact .zero⟩
  | step h hi hx ih =>
    rename_i i x
    refine ⟨hr i hi _ (by simp only [succN, nd_eq hi, List.mem_map]; exact ⟨x, hx, rfl⟩), ?_⟩
    have hlt : σ i < gt.length := by rw [t.len]; exact t.lt i hi
    have e := t.nd i hi
    rw [nd_eq hlt, nd_eq hi] at e
    have := Rch.step (x := (x.1, ((σ x.2.toNat : Nat) : Int))) ih.2 hlt (by rw [e]; exact List.mem_map.2 ⟨x, hx, rfl⟩)
    simpa using this
theorem idx_map {g : List Nd} {σ : Nat → Nat} {x : Nat} (hx : x < g.length) (inj : ∀ y, y < g.length → σ y = σ x → y = x) : ∀ {o : List Nat}, (∀ y ∈ o, y < g.length) → (o.map σ).idxOf (σ x) = o.idxOf x
  | [], _ => rfl
  | y :: o, h => by
    rw [List.map_cons, List.idxOf_cons, List.idxOf_cons, idx_map hx inj (fun z hz => h z (List.mem_cons_of_mem _ hz))]
    by_cases e : y = x
    · subst e; simp
    · have e2 : ¬ σ y = σ x := fun h2 => e (inj y (h y (List.mem_cons_self ..)) h2)
      have b1 : (y == x) = false := by simp [e]
      have b2 : (σ y == σ x) = false := by simp [e2]
      rw [b1, b2]
theorem Turn.num (t : Turn g gt σ ρ) {x : Nat} (hx : x < g.length) {o : List Nat} (ho : ∀ y ∈ o, y < g.length) : numO (o.map σ) (σ x) = numO o x := by
  unfold numO
  have e : σ x ∈ o.map σ ↔ x ∈ o := ⟨fun h => by
    obtain ⟨y, hy, e⟩ := List.mem_map.1 h
    exact t.inj (ho y hy) hx e ▸ hy, fun h => List.mem_map_of_mem h⟩
  by_cases h : x ∈ o
  · rw [if_pos (e.2 h), if_pos h, idx_map hx (fun y hy h => t.inj hy hx h) ho]
  · rw [if_neg (fun k => h (e.1 k)), if_neg h]
theorem Turn.can (t : Turn g gt σ ρ) (hr : ∀ i, i < g.length → ∀ y ∈ succN g i, y < g.length) {o : List Nat} (ho : ∀ y ∈ o, y < g.length) : canG gt (o.map σ) = canG g o := by
  unfold canG
  rw [List.map_map]
  refine List.map_congr_left (fun x hx => ?_)
  have hxl := ho x hx
  simp only [Function.comp]
  unfold canN
  rw [t.nd x hxl]
  refine nd_ext rfl ?_
  simp only [trN, List.map_map]
  refine List.map_congr_left (fun y hy => ?_)
  have hyl := hr x hxl y.2.toNat (by simp only [succN, List.mem_map]; exact ⟨y, hy, rfl⟩)
  simp only [Function.comp, canL, Int.toNat_natCast]
  rw [t.num hyl ho]
end turn
end Go.Proofs.YtegngekpmpdngaaDoor
namespace Go.Proofs.YtegngekpmpdngaaDoor
open Go.RowKit
structure TrR (g : List Nd) (r : Nat) (o : List Nat) : Prop where
  dl : DL g [r] [] o
  ok : OOk g.length o
  nodup : o.Nodup
  has : r ∈ o
  zero : o.idxOf r = 0
  clo : ∀ x ∈ o, ∀ t ∈ succN g x, t ∈ o
theorem DL.within {g : List Nd} {o : List Nat} (hc : ∀ x ∈ o, ∀ t ∈ succN g x, t ∈ o) {is a b : List Nat} (h : DL g is a b) : (∀ i ∈ is, i ∈ o) → (∀ x ∈ a, x ∈ o) → ∀ x ∈ b, x ∈ o := by
  induction h with
  | nil => exact fun _ h => h
  | old h t ih => exact fun hi ha => ih (fun i h => hi i (List.mem_cons_of_mem _ h)) ha
  | new h s t ihs iht =>
    intro hi ha
    have hio := hi _ (List.mem_cons_self ..)
    refine iht (fun i h => hi i (List.mem_cons_of_mem _ h)) (ihs (hc _ hio) (fun x hx => ?_))
    rcases List.mem_append.1 hx with hx | hx
    · exact ha x hx
    · rw [List.mem_singleton.1 hx]; exact hio
section sub
variable {g : List Nd} {r : Nat} {o : List Nat}
theorem TrR.mem (t : TrR g r o) {x : Nat} (hx : x ∈ o) {y : Int × Int} (hy : y ∈ (nd g x).ln) : y.2.toNat ∈ o := t.clo x hx _ (by simp only [succN, List.mem_map]; exact ⟨y, hy, rfl⟩)
theorem TrR.lt (t : TrR g r o) {x : Nat} (hx : x ∈ o) : x < g.length := t.ok.lt x hx
theorem TrR.dl2 (t : TrR g r o) {c : Nat} {o2 : List Nat} (hc : c ∈ o) (h2 : DL g [c] [] o2) : DL (canG g o) [o.idxOf c] [] (o2.map (o.idxOf ·)) :=
  h2.map t.clo (h2.within t.clo (fun i hi => by rw [List.mem_singleton.1 hi]; exact hc) (fun x hx => by cases hx))
theorem TrR.valid {l : List Ty} {fs : List Ft} (t : TrR g r o) (h : GV l fs g) : (graphF l fs (canG g o)).1 = 0 := by
  have hlen := canG_len g o
  have hole : o.length ≤ g.length := by have := t.ok.cnt; omega
  have hpos : 0 < o.length := List.length_pos_of_mem t.has
  have hle := h.gok.le
  have hget : ∀ j (hj : j < o.length), o.idxOf o[j] = j := fun j hj => idx_get t.nodup hj
  have hrg : ∀ i, i < (canG g o).length → ∀ y ∈ succN (canG g o) i, y < (canG g o).length := fun i hi y hy => by
    rw [hlen] at hi ⊢
    rw [← hget i hi, canG_succ t.clo (List.getElem_mem hi)] at hy
    obtain ⟨z, hz, rfl⟩ := List.mem_map.1 hy
    exact (get_idx (t.clo _ (List.getElem_mem hi) z hz)).1
  refine gv_img (σ := (o.idxOf ·)) (τ := fun j => o.getD j 0) h om om (fun j hj => ?_) (fun j hj => ?_)
  · have hjo : j < o.length := by omega
    have eg : o.getD j 0 = o[j] := by simp [List.getD, hjo]
    have hm : o[j] ∈ o := List.getElem_mem hjo
    have en := canG_nd (g := g) hm
    rw [hget j hjo] at en
    simp only [eg]
    refine ⟨t.lt hm, ?_, fun x hx => ?_⟩
    · rw [en]
      refine nd_ext rfl ?_
      simp only [canN, trN]
      refine List.map_congr_left (fun y hy => ?_)
      simp only [canL, numO_in (t.mem hm hy)]
    · have hxo := t.mem hm hx
      rw [canG_nd hxo, hlen]
      exact ⟨(get_idx hxo).1, rfl⟩
  · have hd := t.dl2 t.has t.dl
    rw [t.zero, map_idx t.nodup] at hd
    have hR := hd.rch hrg (fun i hi => by rw [List.mem_singleton.1 hi]; omega) (fun i hi => by rw [List.mem_singleton.1 hi]; exact .zero) (fun x hx => by cases hx)
    exact hR j (List.mem_range.2 om)
end sub
section comp
variable {l : List Ty} {fs : List Ft} {g : List Nd} {p q : List Int}
end comp
end Go.Proofs.YtegngekpmpdngaaDoor
namespace Go.Proofs.YtegngekpmpdngaaDoor
open Go.RowKit
structure Hom (l : List Ty) (a b : List Nd) (φ : Nat → Nat) : Prop where
  zero : φ 0 = 0
  lt : ∀ i, i < a.length → φ i < b.length
  ty : ∀ i, i < a.length → sub l (nd b (φ i)).ty.toNat (nd a i).ty.toNat = true
  ln : ∀ i, i < a.length → ∀ x ∈ (nd a i).ln, tgt (nd b (φ i)).ln x.1 = ((φ x.2.toNat : Nat) : Int)
theorem Hom.uniq {l : List Ty} {a b : List Nd} {φ ψ : Nat → Nat} (h : Hom l a b φ) (k : Hom l a b ψ) {i : Nat} (hr : Rch a i) : φ i = ψ i := by
  induction hr with
  | zero => rw [h.zero, k.zero]
  | step hr hi hx ih =>
    rename_i i x
    have e := nd_eq hi
    have h1 := h.ln i hi x (by rw [e]; exact hx)
    have h2 := k.ln i hi x (by rw [e]; exact hx)
    rw [ih] at h1
    rw [h1] at h2
    exact Int.ofNat.inj h2
def Maps (l : List Ty) (a b : List Nd) : Prop := ∃ φ, Hom l a b φ
noncomputable instance (l : List Ty) (a b : List Nd) : Decidable (Maps l a b) := Classical.propDecidable _
open Classical in
def setI (out : Nat → Int) (t : Nat) (v : Int) (x : Nat) : Int := if x = t then v else out x
theorem setI_self (out : Nat → Int) (t : Nat) (v : Int) : setI out t v t = v := by simp [setI]
theorem setI_ne {out : Nat → Int} {t x : Nat} {v : Int} (h : x ≠ t) : setI out t v x = out x := by simp [setI, h]
def LinksDone (a b : List Nd) (out : Nat → Int) (j k : Nat) : Prop := ∀ x ∈ (nd a j).ln.take k, 0 ≤ out x.2.toNat ∧ tgt (nd b (out j).toNat).ln x.1 = out x.2.toNat
def NodeDone (l : List Ty) (a b : List Nd) (out : Nat → Int) (j : Nat) : Prop := sub l (nd b (out j).toNat).ty.toNat (nd a j).ty.toNat = true ∧ LinksDone a b out j (nd a j).ln.length
structure FS (l : List Ty) (a b : List Nd) (out : Nat → Int) (st : List Int) (i k : Nat) : Prop where
  zero : out 0 = 0
  rng : ∀ j, -1 ≤ out j ∧ out j < b.length
  only : ∀ j, 0 ≤ out j → ∀ φ, Hom l a b φ → out j = (φ j : Nat)
  stk : ∀ s ∈ st, ∃ n : Nat, s = (n : Int) ∧ n < a.length ∧ 0 ≤ out n
  cl : ∀ j, j < a.length → 0 ≤ out j → j ≠ i → (j : Int) ∈ st ∨ NodeDone l a b out j
  me : i < a.length → 0 ≤ out i ∧ LinksDone a b out i k
  ty : i < a.length → 0 < k → sub l (nd b (out i).toNat).ty.toNat (nd a i).ty.toNat = true
theorem FS.start {l : List Ty} {a b : List Nd} (ha : 0 < a.length) (hb : 0 < b.length) : FS l a b (setI (fun _ => -1) 0 0) [0] a.length 0 := by
  refine ⟨by simp [setI], fun j => ?_, fun j hj φ h => ?_, fun s hs => ?_, fun j _ hj _ => ?_, fun hi => absurd hi (Nat.lt_irrefl _), fun hi => absurd hi (Nat.lt_irrefl _)⟩
  · by_cases e : j = 0
    · subst e; rw [setI_self]; omega
    · rw [setI_ne e]; show (-1 : Int) ≤ -1 ∧ (-1 : Int) < _; omega
  · by_cases e : j = 0
    · subst e; rw [h.zero]; simp [setI]
    · rw [setI_ne e] at hj; omega
  · obtain rfl := List.mem_singleton.1 hs
    exact ⟨0, rfl, ha, by simp [setI]⟩
  · by_cases e : j = 0
    · subst e; exact .inl (by simp)
    · rw [setI_ne e] at hj; omega
theorem FS.pop {l : List Ty} {a b : List Nd} {out : Nat → Int} {st : List Int} {z : Int} (h : FS l a b out (st ++ [z]) a.length 0) : ∃ n m : Nat, z = (n : Int) ∧ n < a.length ∧ out n = (m : Int) ∧ m < b.length ∧ FS l a b out st n 0 := by
  obtain ⟨n, rfl, hn, hm⟩ := h.stk z (by simp)
  have hr := h.rng n
  refine ⟨n, (out n).toNat, rfl, hn, by omega, by omega, h.zero, h.rng, h.only, fun s hs => h.stk s (by simp [hs]), fun j hj hmj hne => ?_, fun _ => ⟨hm, fun x hx => by simp at hx⟩, fun _ hk => absurd hk (Nat.lt_irrefl _)⟩
  rcases h.cl j hj hmj om with h1 | h1
  · rcases List.mem_append.1 h1 with h2 | h2
    · exact .inl h2
    · have := List.mem_singleton.1 h2
      omega
  · exact .inr h1
theorem take_nd {a : List Nd} {i k : Nat} (hi : i < a.length) (hk : k < (a[i]).ln.length) : (nd a i).ln.take (k + 1) = (nd a i).ln.take k ++ [(a[i]).ln[k]] := by
  rw [nd_eq hi, List.take_succ_eq_append_getElem hk]
theorem LinksDone.snoc {a b : List Nd} {out : Nat → Int} {i k : Nat} (h : LinksDone a b out i k) (hi : i < a.length) (hk : k < (a[i]).ln.length) (hx : 0 ≤ out ((a[i]).ln[k]).2.toNat ∧ tgt (nd b (out i).toNat).ln ((a[i]).ln[k]).1 = out ((a[i]).ln[k]).2.toNat) : LinksDone a b out i (k + 1) := fun x hxm => by
  rw [take_nd hi hk] at hxm
  rcases List.mem_append.1 hxm with h1 | h1
  · exact h x h1
  · rw [List.mem_singleton.1 h1]; exact hx
theorem FS.old {l : List Ty} {a b : List Nd} {out : Nat → Int} {st : List Int} {i k : Nat} (h : FS l a b out st i k) (hi : i < a.length) (hk : k < (a[i]).ln.length) (hty : sub l (nd b (out i).toNat).ty.toNat (nd a i).ty.toNat = true)
    (hm : 0 ≤ out ((a[i]).ln[k]).2.toNat) (he : out ((a[i]).ln[k]).2.toNat = tgt (nd b (out i).toNat).ln ((a[i]).ln[k]).1) : FS l a b out st i (k + 1) :=
  ⟨h.zero, h.rng, h.only, h.stk, h.cl, fun _ => ⟨(h.me hi).1, (h.me hi).2.snoc hi hk ⟨hm, he.symm⟩⟩, fun _ _ => hty⟩
theorem LinksDone.set {a b : List Nd} {out : Nat → Int} {j k t : Nat} {v : Int} (h : LinksDone a b out j k) (hj : 0 ≤ out j) (ht : out t < 0) : LinksDone a b (setI out t v) j k := fun x hx => by
  have h1 := h x hx
  rw [setI_ne (x := x.2.toNat) (fun e => by rw [e] at h1; omega), setI_ne (x := j) (fun e => by rw [e] at hj; omega)]
  exact h1
theorem FS.new {l : List Ty} {a b : List Nd} {out : Nat → Int} {st : List Int} {i k t : Nat} (h : FS l a b out st i k) (hi : i < a.length) (hk : k < (a[i]).ln.length) (hty : sub l (nd b (out i).toNat).ty.toNat (nd a i).ty.toNat = true)
    (htt : ((a[i]).ln[k]).2 = (t : Int)) (htl : t < a.length) (hn : out t < 0) (h0 : 0 ≤ tgt (nd b (out i).toNat).ln ((a[i]).ln[k]).1) (hb : tgt (nd b (out i).toNat).ln ((a[i]).ln[k]).1 < b.length) : FS l a b (setI out t (tgt (nd b (out i).toNat).ln ((a[i]).ln[k]).1)) (st ++ [(t : Int)]) i (k + 1) := by
  have hme := (h.me hi).1
  have hit : i ≠ t := fun e => by rw [e] at hme; omega
  have h0t : 0 ≠ t := fun e => by have := h.zero; rw [e] at this; omega
  have hxm : (a[i]).ln[k] ∈ (nd a i).ln := by rw [nd_eq hi]; exact List.getElem_mem hk
  refine ⟨by rw [setI_ne h0t]; exact h.zero, fun j => ?_, fun j hj φ hφ => ?_, fun s hs => ?_, fun j hj hm hne => ?_, fun _ => ?_, fun _ _ => by rw [setI_ne hit]; exact hty⟩
  · by_cases e : j = t
    · subst e; rw [setI_self]; omega
    · rw [setI_ne e]; exact h.rng j
  · by_cases e : j = t
    · subst e
      rw [setI_self, h.only i hme φ hφ, Int.toNat_natCast, hφ.ln i hi _ hxm, htt, Int.toNat_natCast]
    · rw [setI_ne e] at hj ⊢; exact h.only j hj φ hφ
  · rcases List.mem_append.1 hs with hs | hs
    · obtain ⟨n, h1, h2, h3⟩ := h.stk s hs
      refine ⟨n, h1, h2, ?_⟩
      rw [setI_ne (fun e => by rw [e] at h3; omega)]; exact h3
    · exact ⟨t, List.mem_singleton.1 hs, htl, by rw [setI_self]; exact h0⟩
  · by_cases e : j = t
    · subst e; exact .inl (by simp)
    · rw [setI_ne e] at hm
      rcases h.cl j hj hm hne with h1 | h1
      · exact .inl (by simp [h1])
      · refine .inr ⟨by rw [setI_ne e]; exact h1.1, h1.2.set hm hn⟩
  · refine ⟨by rw [setI_ne hit]; exact hme, ?_⟩
    refine LinksDone.snoc ((h.me hi).2.set hme hn) hi hk ?_
    rw [htt, Int.toNat_natCast, setI_self, setI_ne hit]
    exact ⟨h0, rfl⟩
theorem FS.done {l : List Ty} {a b : List Nd} {out : Nat → Int} {st : List Int} {i k : Nat} (h : FS l a b out st i k) (hi : i < a.length) (hk : k = (a[i]).ln.length) (hty : sub l (nd b (out i).toNat).ty.toNat (nd a i).ty.toNat = true) : FS l a b out st a.length 0 :=
  ⟨h.zero, h.rng, h.only, h.stk, fun j hj hm _ => by
    by_cases e : j = i
    · subst e
      refine .inr ⟨hty, ?_⟩
      have h1 := (h.me hj).2
      rw [hk, ← nd_eq hj] at h1
      exact h1
    · exact h.cl j hj hm e, fun hi => absurd hi (Nat.lt_irrefl _), fun hi => absurd hi (Nat.lt_irrefl _)⟩
theorem FS.end_ {l : List Ty} {a b : List Nd} {out : Nat → Int} (hr : ∀ i, i < a.length → Rch a i) (h : FS l a b out [] a.length 0) : Hom l a b (fun i => (out i).toNat) ∧ ∀ i, i < a.length → 0 ≤ out i := by
  have hd : ∀ i, i < a.length → 0 ≤ out i → NodeDone l a b out i := fun i hi hm => by
    rcases h.cl i hi hm om with h1 | h1
    · cases h1
    · exact h1
  have hall : ∀ i, Rch a i → i < a.length → 0 ≤ out i := fun i hri => by
    induction hri with
    | zero => intro _; rw [h.zero]; exact Int.le_refl _
    | step hr hi hx ih =>
      rename_i i x
      intro _
      have h1 := (hd i hi (ih hi)).2 x (by rw [List.take_length, nd_eq hi]; exact hx)
      exact h1.1
  have hpos : ∀ i, i < a.length → 0 ≤ out i := fun i hi => hall i (hr i hi) hi
  refine ⟨⟨by show (out 0).toNat = 0; rw [h.zero]; rfl, fun i hi => ?_, fun i hi => (hd i hi (hpos i hi)).1, fun i hi x hx => ?_⟩, hpos⟩
  · have h1 := h.rng i; have h2 := hpos i hi; show (out i).toNat < b.length; omega
  · have h1 := (hd i hi (hpos i hi)).2 x (by rw [List.take_length]; exact hx)
    show tgt (nd b (out i).toNat).ln x.1 = ((out x.2.toNat).toNat : Nat)
    rw [h1.2]; have := h1.1; omega
def setP (p : Nat → Nat → Bool) (i j : Nat) (x y : Nat) : Bool := if x = i ∧ y = j then true else p x y
theorem setP_self (p : Nat → Nat → Bool) (i j : Nat) : setP p i j i j = true := by simp [setP]
theorem setP_mono {p : Nat → Nat → Bool} {i j x y : Nat} (h : p x y = true) : setP p i j x y = true := by
  unfold setP; split
  · rfl
  · exact h
theorem setP_cases {p : Nat → Nat → Bool} {i j x y : Nat} (h : setP p i j x y = true) : (x = i ∧ y = j) ∨ p x y = true := by
  unfold setP at h
  by_cases e : x = i ∧ y = j
  · exact .inl e
  · rw [if_neg e] at h; exact .inr h
def lackP (na nb : Nat) (p : Nat → Nat → Bool) : Nat := (List.range (na * nb)).countP (fun z => !p (z / nb) (z % nb))
theorem lackP_lt {na nb i j : Nat} {p q : Nat → Nat → Bool} (hpq : ∀ x y, p x y = true → q x y = true) (hi : i < na) (hj : j < nb) (h1 : p i j = false) (h2 : q i j = true) : lackP na nb q < lackP na nb p := by
  have hd : (i * nb + j) / nb = i := by
    rw [Nat.mul_comm, Nat.mul_add_div om, Nat.div_eq_of_lt hj, Nat.add_zero]
  have hm : (i * nb + j) % nb = j := by
    rw [Nat.mul_comm, Nat.mul_add_mod, Nat.mod_eq_of_lt hj]
  have hl : i * nb + j < na * nb := by
    have := Nat.mul_le_mul_right nb (show i + 1 ≤ na from hi)
    rw [Nat.add_mul, Nat.one_mul] at this
    omega
  refine countP_lt (fun z hz => ?_) (List.range (na * nb)) (i * nb + j) (List.mem_range.2 hl) ?_ ?_
  · cases hp : p (z / nb) (z % nb) with
    | false => rfl
    | true => rw [hpq _ _ hp] at hz; cases hz
  · show (!p ((i * nb + j) / nb) ((i * nb + j) % nb)) = true
    rw [hd, hm, h1]; rfl
  · show (!q ((i * nb + j) / nb) ((i * nb + j) % nb)) = false
    rw [hd, hm, h2]; rfl
def PairLn (a b : List Nd) (p : Nat → Nat → Bool) (i j k : Nat) : Prop := ∀ x ∈ (nd a i).ln.take k, ∃ t : Nat, tgt (nd b j).ln x.1 = (t : Int) ∧ p x.2.toNat t = true
def PairOk (l : List Ty) (a b : List Nd) (p : Nat → Nat → Bool) (i j : Nat) : Prop := sub l (nd b j).ty.toNat (nd a i).ty.toNat = true ∧ PairLn a b p i j (nd a i).ln.length
structure PB (l : List Ty) (a b : List Nd) (p : Nat → Nat → Bool) : Prop where
  zero : p 0 0 = true
  rng : ∀ i j, p i j = true → i < a.length ∧ j < b.length
  only : ∀ i j, p i j = true → ∀ φ, Hom l a b φ → φ i = j
structure MPS (l : List Ty) (a b : List Nd) (p : Nat → Nat → Bool) (ch : Bool) : Prop where
  pb : PB l a b p
  cl : ch = false → ∀ i j, p i j = true → PairOk l a b p i j
structure MPP (l : List Ty) (a b : List Nd) (p0 p : Nat → Nat → Bool) (ch : Bool) (i j k : Nat) : Prop where
  pb : PB l a b p
  sup : ∀ x y, p0 x y = true → p x y = true
  same : ch = false → ∀ x y, p x y = true → p0 x y = true
  more : ch = true → lackP a.length b.length p < lackP a.length b.length p0
  done : ∀ x y, p0 x y = true → x < i ∨ x = i ∧ y < j → PairOk l a b p x y
  me : 0 < k → i < a.length ∧ j < b.length ∧ p i j = true ∧ sub l (nd b j).ty.toNat (nd a i).ty.toNat = true ∧ PairLn a b p i j k
theorem MPS.start {l : List Ty} {a b : List Nd} (ha : 0 < a.length) (hb : 0 < b.length) : MPS l a b (setP (fun _ _ => false) 0 0) true :=
  ⟨⟨setP_self _ _ _, (fun i j h => by
    rcases setP_cases h with ⟨rfl, rfl⟩ | h
    · exact ⟨ha, hb⟩
    · cases h), (fun i j h φ hφ => by
    rcases setP_cases h with ⟨rfl, rfl⟩ | h
    · exact hφ.zero
    · cases h)⟩, fun h => nomatch h⟩
theorem MPP.start {l : List Ty} {a b : List Nd} {p : Nat → Nat → Bool} {ch : Bool} (h : MPS l a b p ch) : MPP l a b p p false 0 0 0 :=
  ⟨h.pb, fun _ _ h => h, fun _ _ _ h => h, (fun h => nomatch h), (fun x y _ hx => by omega), fun hk => absurd hk (Nat.lt_irrefl _)⟩
theorem MPP.row {l : List Ty} {a b : List Nd} {p0 p : Nat → Nat → Bool} {ch : Bool} {i : Nat} (h : MPP l a b p0 p ch i b.length 0) : MPP l a b p0 p ch (i + 1) 0 0 :=
  ⟨h.pb, h.sup, h.same, h.more, fun x y hp hx => h.done x y hp (by
    have := (h.pb.rng x y (h.sup x y hp)).2
    omega), fun hk => absurd hk (Nat.lt_irrefl _)⟩
theorem MPP.skip {l : List Ty} {a b : List Nd} {p0 p : Nat → Nat → Bool} {ch : Bool} {i j : Nat} (h : MPP l a b p0 p ch i j 0) (hp : p i j = false) : MPP l a b p0 p ch i (j + 1) 0 :=
  ⟨h.pb, h.sup, h.same, h.more, fun x y h0 hx => by
    by_cases e : x = i ∧ y = j
    · obtain ⟨rfl, rfl⟩ := e
      rw [h.sup _ _ h0] at hp; cases hp
    · exact h.done x y h0 om, fun hk => absurd hk (Nat.lt_irrefl _)⟩
theorem PairLn.snoc {a b : List Nd} {p : Nat → Nat → Bool} {i j k : Nat} (h : PairLn a b p i j k) (hi : i < a.length) (hk : k < (a[i]).ln.length) (hx : ∃ t : Nat, tgt (nd b j).ln ((a[i]).ln[k]).1 = (t : Int) ∧ p ((a[i]).ln[k]).2.toNat t = true) : PairLn a b p i j (k + 1) := fun x hxm => by
  rw [take_nd hi hk] at hxm
  rcases List.mem_append.1 hxm with h1 | h1
  · exact h x h1
  · rw [List.mem_singleton.1 h1]; exact hx
theorem PairLn.mono {a b : List Nd} {p q : Nat → Nat → Bool} {i j k : Nat} (h : PairLn a b p i j k) (hpq : ∀ x y, p x y = true → q x y = true) : PairLn a b q i j k := fun x hx => by
  obtain ⟨t, h1, h2⟩ := h x hx
  exact ⟨t, h1, hpq _ _ h2⟩
structure MPK (l : List Ty) (a b : List Nd) (p0 p : Nat → Nat → Bool) (ch : Bool) (i j k : Nat) : Prop where
  pp : MPP l a b p0 p ch i j 0
  at_ : p i j = true
  ty : sub l (nd b j).ty.toNat (nd a i).ty.toNat = true
  ln : PairLn a b p i j k
theorem MPK.start {l : List Ty} {a b : List Nd} {p0 p : Nat → Nat → Bool} {ch : Bool} {i j : Nat} (h : MPP l a b p0 p ch i j 0) (hp : p i j = true) (ht : sub l (nd b j).ty.toNat (nd a i).ty.toNat = true) : MPK l a b p0 p ch i j 0 := ⟨h, hp, ht, fun x hx => by simp at hx⟩
theorem MPK.old {l : List Ty} {a b : List Nd} {p0 p : Nat → Nat → Bool} {ch : Bool} {i j k s t : Nat} (h : MPK l a b p0 p ch i j k) (hi : i < a.length) (hk : k < (a[i]).ln.length) (hs : ((a[i]).ln[k]).2 = (s : Int)) (ht : tgt (nd b j).ln ((a[i]).ln[k]).1 = (t : Int)) (hp : p s t = true) : MPK l a b p0 p ch i j (k + 1) :=
  ⟨h.pp, h.at_, h.ty, h.ln.snoc hi hk ⟨t, ht, by rw [hs, Int.toNat_natCast]; exact hp⟩⟩
theorem MPK.new {l : List Ty} {a b : List Nd} {p0 p : Nat → Nat → Bool} {ch : Bool} {i j k s t : Nat} (h : MPK l a b p0 p ch i j k) (hi : i < a.length) (hk : k < (a[i]).ln.length) (hs : ((a[i]).ln[k]).2 = (s : Int)) (hsl : s < a.length) (ht : tgt (nd b j).ln ((a[i]).ln[k]).1 = (t : Int)) (htl : t < b.length) (hp : p s t = false) : MPK l a b p0 (setP p s t) true i j (k + 1) := by
  have hxm : (a[i]).ln[k] ∈ (nd a i).ln := by rw [nd_eq hi]; exact List.getElem_mem hk
  have hm : ∀ x y, p x y = true → setP p s t x y = true := fun x y h => setP_mono h
  refine ⟨⟨⟨hm _ _ h.pp.pb.zero, fun x y hx => ?_, fun x y hx φ hφ => ?_⟩, fun x y hx => hm _ _ (h.pp.sup x y hx), (fun h => nomatch h), fun _ => ?_, fun x y h0 hx => ?_, fun hk => absurd hk (Nat.lt_irrefl _)⟩, hm _ _ h.at_, h.ty, (h.ln.mono hm).snoc hi hk ⟨t, ht, by rw [hs, Int.toNat_natCast]; exact setP_self _ _ _⟩⟩
  · rcases setP_cases hx with ⟨rfl, rfl⟩ | hx
    · exact ⟨hsl, htl⟩
    · exact h.pp.pb.rng _ _ hx
  · rcases setP_cases hx with ⟨rfl, rfl⟩ | hx
    · have e := h.pp.pb.only i j h.at_ φ hφ
      have h1 := hφ.ln i hi _ hxm
      rw [e, ht, hs, Int.toNat_natCast] at h1
      exact (Int.ofNat.inj h1).symm
    · exact h.pp.pb.only x y hx φ hφ
  · have h1 := lackP_lt (na := a.length) (nb := b.length) hm hsl htl hp (setP_self p s t)
    cases ch with
    | true => exact Nat.lt_trans h1 (h.pp.more rfl)
    | false =>
      have e : lackP a.length b.length p0 = lackP a.length b.length p := by
        unfold lackP
        refine List.countP_congr (fun z _ => ?_)
        cases hz : p0 (z / b.length) (z % b.length) with
        | true => rw [h.pp.sup _ _ hz]
        | false =>
          cases hz2 : p (z / b.length) (z % b.length) with
          | false => rfl
          | true => rw [h.pp.same rfl _ _ hz2] at hz; cases hz
      rw [e]; exact h1
  · obtain ⟨h1, h2⟩ := h.pp.done x y h0 hx
    exact ⟨h1, h2.mono hm⟩
theorem MPK.done {l : List Ty} {a b : List Nd} {p0 p : Nat → Nat → Bool} {ch : Bool} {i j k : Nat} (h : MPK l a b p0 p ch i j k) (hi : i < a.length) (hk : k = (a[i]).ln.length) : MPP l a b p0 p ch i (j + 1) 0 :=
  ⟨h.pp.pb, h.pp.sup, h.pp.same, h.pp.more, fun x y h0 hx => by
    by_cases e : x = i ∧ y = j
    · obtain ⟨rfl, rfl⟩ := e
      have h1 := h.ln
      rw [hk, ← nd_eq hi] at h1
      exact ⟨h.ty, h1⟩
    · exact h.pp.done x y h0 om, fun hk => absurd hk (Nat.lt_irrefl _)⟩
theorem MPP.end_ {l : List Ty} {a b : List Nd} {p0 p : Nat → Nat → Bool} {ch : Bool} (h : MPP l a b p0 p ch a.length 0 0) : MPS l a b p ch :=
  ⟨h.pb, fun hc i j hp => h.done i j (h.same hc i j hp) (.inl (h.pb.rng i j hp).1)⟩
theorem MPS.two {l : List Ty} {a b : List Nd} {p : Nat → Nat → Bool} {ch : Bool} {i j k : Nat} (h : MPS l a b p ch) (h1 : p i j = true) (h2 : p i k = true) (hne : j ≠ k) : ¬ Maps l a b := by
  rintro ⟨φ, hφ⟩
  exact hne ((h.pb.only i j h1 φ hφ).symm.trans (h.pb.only i k h2 φ hφ))
theorem MPS.hom {l : List Ty} {a b : List Nd} {p : Nat → Nat → Bool} (h : MPS l a b p false) {φ : Nat → Nat} (ha : 0 < a.length) (hφ : ∀ i, i < a.length → p i (φ i) = true ∧ ∀ j, p i j = true → j = φ i) : Hom l a b φ := by
  refine ⟨((hφ 0 ha).2 0 h.pb.zero).symm, fun i hi => (h.pb.rng _ _ (hφ i hi).1).2, fun i hi => (h.cl rfl _ _ (hφ i hi).1).1, fun i hi x hx => ?_⟩
  obtain ⟨t, h1, h2⟩ := (h.cl rfl _ _ (hφ i hi).1).2 x (by rw [List.take_length]; exact hx)
  rw [h1, (hφ _ (h.pb.rng _ _ h2).1).2 t h2]
end Go.Proofs.YtegngekpmpdngaaDoor
namespace Go.Proofs.YtegngekpmpdngaaDoor
open Go.RowKit
theorem fn13 : callable Tryd.prog 13 = true := by kernel_rfl
theorem sz35_SFind : (Tryd.prog.info? 35).map (·.size) = some 2 := by kernel_rfl
theorem ze35_SFind : (Tryd.prog.info? 35).map (·.zero) = some (some (.agg #[.int .i64 0, .int .i64 0])) := by kernel_rfl
end Go.Proofs.YtegngekpmpdngaaDoor
