/- A graph whose nodes are numbered in another way: valid, and of the same canonical form. No program in sight. -/
import Derived.Test.YtlaihbaneoeffaaDoorGCan
namespace Go.Proofs.YtlaihbaneoeffaaDoor
open Go.RowKit
def trN (σ : Nat → Nat) (x : Nd) : Nd := ⟨x.ty, x.ln.map (fun y => (y.1, (σ y.2.toNat : Int)))⟩
theorem nd_out {g : List Nd} {i : Nat} (h : ¬ i < g.length) : nd g i = ⟨0, []⟩ := by simp [nd, List.getD, List.getElem?_eq_none (Nat.le_of_not_lt h)]
theorem lnFault_map {nf n m : Nat} {σ : Nat → Nat} : ∀ {xs : List (Int × Int)} {last : Int}, lnFault nf n last xs = 0 → (∀ x ∈ xs, σ x.2.toNat < m) → lnFault nf m last (xs.map (fun y => (y.1, (σ y.2.toNat : Int)))) = 0
  | [], _, _, _ => rfl
  | y :: ys, last, h, hm => by
    unfold lnFault at h
    by_cases h1 : lnBad nf n y
    · rw [if_pos h1] at h; cases h
    rw [if_neg h1] at h
    by_cases h2 : y.1 ≤ last
    · rw [if_pos h2] at h; cases h
    rw [if_neg h2] at h
    have h3 := hm y (by simp)
    have h4 : ¬ lnBad nf m (y.1, (σ y.2.toNat : Int)) := by
      unfold lnBad at h1 ⊢
      omega
    rw [List.map_cons]
    unfold lnFault
    rw [if_neg h4, if_neg h2]
    exact lnFault_map h (fun x hx => hm x (List.mem_cons_of_mem _ hx))
/-- every node is a valid graph's node with its links mapped, and all are reached -/
theorem gv_img {l : List Ty} {fs : List Ft} {g gt : List Nd} {σ τ : Nat → Nat} (h : GV l fs g) (hp : 0 < gt.length) (hle : gt.length ≤ 60)
    (hτ : ∀ j, j < gt.length → τ j < g.length ∧ nd gt j = trN σ (nd g (τ j)) ∧ ∀ x ∈ (nd g (τ j)).ln, σ x.2.toNat < gt.length ∧ (nd gt (σ x.2.toNat)).ty = (nd g x.2.toNat).ty)
    (hR : ∀ j, j < gt.length → Rch gt j) : (graphF l fs gt).1 = 0 := by
  have hl : looseF l.length fs.length gt = (0, 0) := by
    unfold looseF
    rw [if_neg (by omega)]
    refine firstF_all (fun k _ hk => ?_)
    have hk' : k < gt.length := by omega
    obtain ⟨hτ1, hτ2, hτ3⟩ := hτ k hk'
    rw [nd_eq hk', nd_eq hτ1] at hτ2
    rw [nd_eq hτ1] at hτ3
    have hty := h.gok.ty _ hτ1
    have hln := loose_ln h.lo _ hτ1
    have e : ¬ ((gt[k]).ty < 0 ∨ (l.length : Int) ≤ (gt[k]).ty) := by rw [hτ2]; simp only [trN]; omega
    rw [looseN_ln hk' e, List.drop_zero, hτ2]
    exact lnFault_map hln (fun x hx => (hτ3 x hx).1)
  have ht : tyF l fs gt = (0, 0) := by
    refine firstF_all (fun k _ hk => ?_)
    have hk' : k < gt.length := by omega
    obtain ⟨hτ1, hτ2, hτ3⟩ := hτ k hk'
    refine tyN_no hk' (fun j hj => ?_)
    have h0 : tyN l fs g (τ k) = 0 := firstF_zero (by rw [show firstF (tyN l fs g) 0 g.length = tyF l fs g from rfl, h.t]) _ (Nat.zero_le _) (by omega)
    rw [nd_eq hk', nd_eq hτ1] at hτ2
    rw [nd_eq hτ1] at hτ3
    have hex : ∃ y ∈ (g[τ k]).ln, (gt[k]).ln[j] = (y.1, (σ y.2.toNat : Int)) := by
      have hm : (gt[k]).ln[j] ∈ (trN σ (g[τ k])).ln := by rw [← hτ2]; exact List.getElem_mem hj
      simp only [trN, List.mem_map] at hm
      obtain ⟨y, hy, e⟩ := hm
      exact ⟨y, hy, e.symm⟩
    obtain ⟨y, hy, ey⟩ := hex
    have h1 : lnTy l fs g (g[τ k]).ty y = false := by
      simp only [tyN, List.getElem?_eq_getElem hτ1] at h0
      cases hb : lnTy l fs g (g[τ k]).ty y with
      | false => rfl
      | true => rw [if_pos (List.any_eq_true.2 ⟨y, hy, hb⟩)] at h0; cases h0
    have e3 := (hτ3 y hy).2
    have e2 : (gt[k]).ty = (g[τ k]).ty := by rw [hτ2]; rfl
    rw [ey, e2]
    unfold lnTy at h1 ⊢
    have e4 : (ndAt gt ((σ y.2.toNat : Nat) : Int)).ty = (ndAt g y.2).ty := by
      unfold nd at e3
      unfold ndAt
      rw [Int.toNat_natCast]; exact e3
    rw [e4]
    exact h1
  have hu : (-1 : Int) = unrI gt := unr_is (.inl ⟨rfl, hR⟩)
  rw [gf_in h.h, wi_zero (by rw [hl]) ht (by omega)]
theorem unr_ex (g : List Nd) : ∃ r, UnrIs g r := by
  have h : ∀ n : Nat, (∀ i, i < n → Rch g i) ∨ ∃ k, k < n ∧ ¬ Rch g k ∧ ∀ i, i < k → Rch g i := by
    intro n
    induction n with
    | zero => exact .inl (fun i hi => absurd hi (by omega))
    | succ n ih =>
      rcases ih with h | ⟨k, h1, h2, h3⟩
      · by_cases hn : Rch g n
        · refine .inl (fun i hi => ?_)
          by_cases e : i = n
          · rw [e]; exact hn
          · exact h i (by omega)
        · exact .inr ⟨n, by omega, hn, h⟩
      · exact .inr ⟨k, by omega, h2, h3⟩
  rcases h g.length with h | ⟨k, h1, h2, h3⟩
  · exact ⟨-1, .inl ⟨rfl, h⟩⟩
  · exact ⟨k, .inr ⟨k, rfl, h1, h2, h3⟩⟩
theorem GV.rch {l : List Ty} {fs : List Ft} {g : List Nd} (h : GV l fs g) : ∀ i, i < g.length → Rch g i := by
  obtain ⟨r, hr⟩ := unr_ex g
  have hu := h.u
  rw [← unr_is hr] at hu
  rcases hr with ⟨_, h3⟩ | ⟨k, h3, _⟩
  · exact h3
  · exact absurd (show 0 ≤ r by omega) hu
structure Turn (g gt : List Nd) (σ ρ : Nat → Nat) : Prop where
  len : gt.length = g.length
  z : σ 0 = 0
  lt : ∀ i, i < g.length → σ i < g.length
  rl : ∀ j, j < g.length → ρ j < g.length ∧ σ (ρ j) = j
  lr : ∀ i, i < g.length → ρ (σ i) = i
  nd : ∀ i, i < g.length → nd gt (σ i) = trN σ (nd g i)
section turn
variable {g gt : List Nd} {σ ρ : Nat → Nat}
theorem Turn.inj (t : Turn g gt σ ρ) {x y : Nat} (hx : x < g.length) (hy : y < g.length) (h : σ x = σ y) : x = y := by rw [← t.lr x hx, ← t.lr y hy, h]
theorem Turn.succ (t : Turn g gt σ ρ) {i : Nat} (hi : i < g.length) : succN gt (σ i) = (succN g i).map σ := by
  unfold succN; rw [t.nd i hi]; simp [trN]
theorem Turn.dl (t : Turn g gt σ ρ) (hr : ∀ i, i < g.length → ∀ y ∈ succN g i, y < g.length) {is a b : List Nat} (h : DL g is a b) : (∀ i ∈ is, i < g.length) → (∀ x ∈ b, x < g.length) → DL gt (is.map σ) (a.map σ) (b.map σ) := by
  induction h with
  | nil => exact fun _ _ => .nil
  | old h _ ih => exact fun hi hb => .old (List.mem_map_of_mem h) (ih (fun i h => hi i (List.mem_cons_of_mem _ h)) hb)
  | new h s u ihs iht =>
    intro hi hb
    rename_i i is o o1 o'
    have hil := hi i (List.mem_cons_self ..)
    have ho1 : ∀ x ∈ o1, x < g.length := fun x hx => hb x (u.sub _ hx)
    refine .new (fun hm => ?_) ?_ (iht (fun i h => hi i (List.mem_cons_of_mem _ h)) hb)
    · obtain ⟨y, hy, e⟩ := List.mem_map.1 hm
      have hyl := ho1 y (s.sub _ (List.mem_append_left _ hy))
      exact h (t.inj hyl hil e ▸ hy)
    · have := ihs (hr i hil) ho1
      rw [List.map_append] at this
      rw [t.succ hil]
      exact this
theorem Turn.rch (t : Turn g gt σ ρ) (hr : ∀ i, i < g.length → ∀ y ∈ succN g i, y < g.length) (hp : 0 < g.length) {i : Nat} (h : Rch g i) : i < g.length ∧ Rch gt (σ i) := by
  induction h with
  | zero => exact ⟨hp, by rw [t.z]; exact .zero⟩
  | step h hi hx ih =>
    rename_i i x
    refine ⟨hr i hi _ (by simp only [succN, nd_eq hi, List.mem_map]; exact ⟨x, hx, rfl⟩), ?_⟩
    have hlt : σ i < gt.length := by rw [t.len]; exact t.lt i hi
    have e := t.nd i hi
    rw [nd_eq hlt, nd_eq hi] at e
    have := Rch.step (x := (x.1, ((σ x.2.toNat : Nat) : Int))) ih.2 hlt (by rw [e]; exact List.mem_map.2 ⟨x, hx, rfl⟩)
    simpa using this
theorem idx_map {g : List Nd} {σ : Nat → Nat} {x : Nat} (hx : x < g.length) (inj : ∀ y, y < g.length → σ y = σ x → y = x) : ∀ {o : List Nat}, (∀ y ∈ o, y < g.length) → (o.map σ).idxOf (σ x) = o.idxOf x
  | [], _ => rfl
  | y :: o, h => by
    rw [List.map_cons, List.idxOf_cons, List.idxOf_cons, idx_map hx inj (fun z hz => h z (List.mem_cons_of_mem _ hz))]
    by_cases e : y = x
    · subst e; simp
    · have e2 : ¬ σ y = σ x := fun h2 => e (inj y (h y (List.mem_cons_self ..)) h2)
      have b1 : (y == x) = false := by simp [e]
      have b2 : (σ y == σ x) = false := by simp [e2]
      rw [b1, b2]
theorem Turn.num (t : Turn g gt σ ρ) {x : Nat} (hx : x < g.length) {o : List Nat} (ho : ∀ y ∈ o, y < g.length) : numO (o.map σ) (σ x) = numO o x := by
  unfold numO
  have e : σ x ∈ o.map σ ↔ x ∈ o := ⟨fun h => by
    obtain ⟨y, hy, e⟩ := List.mem_map.1 h
    exact t.inj (ho y hy) hx e ▸ hy, fun h => List.mem_map_of_mem h⟩
  by_cases h : x ∈ o
  · rw [if_pos (e.2 h), if_pos h, idx_map hx (fun y hy h => t.inj hy hx h) ho]
  · rw [if_neg (fun k => h (e.1 k)), if_neg h]
theorem Turn.can (t : Turn g gt σ ρ) (hr : ∀ i, i < g.length → ∀ y ∈ succN g i, y < g.length) {o : List Nat} (ho : ∀ y ∈ o, y < g.length) : canG gt (o.map σ) = canG g o := by
  unfold canG
  rw [List.map_map]
  refine List.map_congr_left (fun x hx => ?_)
  have hxl := ho x hx
  simp only [Function.comp]
  unfold canN
  rw [t.nd x hxl]
  refine nd_ext rfl ?_
  simp only [trN, List.map_map]
  refine List.map_congr_left (fun y hy => ?_)
  have hyl := hr x hxl y.2.toNat (by simp only [succN, List.mem_map]; exact ⟨y, hy, rfl⟩)
  simp only [Function.comp, canL, Int.toNat_natCast]
  rw [t.num hyl ho]
theorem turn_valid {l : List Ty} {fs : List Ft} (t : Turn g gt σ ρ) (h : GV l fs g) : (graphF l fs gt).1 = 0 := by
  have hr := succ_rng h.gok
  refine gv_img (σ := σ) (τ := ρ) h (by rw [t.len]; exact h.gok.pos) (by rw [t.len]; exact h.gok.le) (fun j hj => ?_) (fun j hj => ?_)
  · rw [t.len] at hj
    obtain ⟨h1, h2⟩ := t.rl j hj
    have e := t.nd _ h1
    rw [h2] at e
    refine ⟨h1, e, fun x hx => ?_⟩
    have hxl := hr _ h1 x.2.toNat (by simp only [succN, List.mem_map]; exact ⟨x, hx, rfl⟩)
    rw [t.len]
    exact ⟨t.lt _ hxl, by rw [t.nd _ hxl]; rfl⟩
  · rw [t.len] at hj
    obtain ⟨h1, h2⟩ := t.rl j hj
    have hR : Rch g (ρ j) := h.rch _ h1
    have := (t.rch hr h.gok.pos hR).2
    rwa [h2] at this
theorem turn_can {l : List Ty} {fs : List Ft} (t : Turn g gt σ ρ) (h0 : (graphF l fs g).1 = 0) {o : List Nat} (hd : DL g [0] [] o) : canF l fs gt = canF l fs g := by
  have h := gv_of h0
  have hr := succ_rng h.gok
  have ho := (tr_of h.gok hd).ok.lt
  have hd2 := t.dl hr hd (fun i hi => by rw [List.mem_singleton.1 hi]; exact h.gok.pos) ho
  simp only [List.map_cons, List.map_nil, t.z] at hd2
  rw [canF_ok (turn_valid t h) hd2, canF_ok h0 hd, t.can hr ho]
end turn
/-! ## the numbering of the statement -/
def turnN (n : Nat) (k : Int) (i : Nat) : Nat := if i = 0 then 0 else 1 + (i - 1 + modN k (n - 1)) % (n - 1)
def backN (n : Nat) (k : Int) (j : Nat) : Nat := if j = 0 then 0 else 1 + (j - 1 + (n - 1 - modN k (n - 1))) % (n - 1)
theorem mod_two {a m : Nat} (h : a < m + m) : a % m = if a < m then a else a - m := by
  by_cases h1 : a < m
  · rw [if_pos h1, Nat.mod_eq_of_lt h1]
  · rw [if_neg h1, Nat.mod_eq_sub_mod (by omega), Nat.mod_eq_of_lt (by omega)]
theorem turn_nums {n : Nat} (k : Int) : (∀ i, i < n → turnN n k i < n) ∧ (∀ j, j < n → backN n k j < n ∧ turnN n k (backN n k j) = j) ∧ (∀ i, i < n → backN n k (turnN n k i) = i) := by
  by_cases hn : n ≤ 1
  · have h0 : ∀ i, i < n → i = 0 := fun i hi => by omega
    refine ⟨fun i hi => ?_, fun i hi => ?_, fun i hi => ?_⟩ <;> rw [h0 i hi]
    · simp only [turnN]; simp only [if_true]; omega
    · simp only [turnN, backN, if_true]; exact ⟨by omega, trivial⟩
    · simp only [turnN, backN, if_true]
  · have hm : 0 < n - 1 := by omega
    have hr := modN_lt k hm
    generalize hm1 : n - 1 = m at *
    have e1 : ∀ i, i < n → 0 < i → turnN n k i = 1 + (if i - 1 + modN k m < m then i - 1 + modN k m else i - 1 + modN k m - m) := fun i h1 h2 => by
      unfold turnN; rw [if_neg (by omega), hm1, mod_two (by omega)]
    have e2 : ∀ i, i < n → 0 < i → backN n k i = 1 + (if i - 1 + (m - modN k m) < m then i - 1 + (m - modN k m) else i - 1 + (m - modN k m) - m) := fun i h1 h2 => by
      unfold backN; rw [if_neg (by omega), hm1, mod_two (by omega)]
    have z1 : turnN n k 0 = 0 := by simp [turnN]
    have z2 : backN n k 0 = 0 := by simp [backN]
    refine ⟨fun i hi => ?_, fun i hi => ?_, fun i hi => ?_⟩
    · by_cases h : i = 0
      · subst h; omega
      · rw [e1 i hi (by omega)]; split <;> omega
    · by_cases h : i = 0
      · subst h; rw [z2]; exact ⟨by omega, z1⟩
      · have h3 := e2 i hi (by omega)
        have h4 : backN n k i < n ∧ 0 < backN n k i := by rw [h3]; split <;> omega
        refine ⟨h4.1, ?_⟩
        rw [e1 _ h4.1 h4.2, h3]
        split <;> split <;> omega
    · by_cases h : i = 0
      · subst h; rw [z1]; exact z2
      · have h3 := e1 i hi (by omega)
        have h4 : turnN n k i < n ∧ 0 < turnN n k i := by rw [h3]; split <;> omega
        rw [e2 _ h4.1 h4.2, h3]
        split <;> split <;> omega
theorem modI_nat (x m : Nat) : modI (x : Int) (m : Int) = ((x % m : Nat) : Int) := by
  have h := Int.ofNat_tmod x m
  unfold modI
  rw [← h, if_neg (by omega)]
def turnG (g : List Nd) (k : Int) : List Nd := (List.range g.length).map (fun x => trN (turnN g.length k) (nd g (backN g.length k x)))
theorem turnG_len (g : List Nd) (k : Int) : (turnG g k).length = g.length := by simp [turnG]
theorem turnG_get {g : List Nd} {k : Int} {x : Nat} (hx : x < (turnG g k).length) : (turnG g k)[x] = trN (turnN g.length k) (nd g (backN g.length k x)) := by simp [turnG]
theorem turn_of (g : List Nd) (k : Int) : Turn g (turnG g k) (turnN g.length k) (backN g.length k) := by
  obtain ⟨h1, h2, h3⟩ := turn_nums (n := g.length) k
  refine ⟨turnG_len g k, by simp [turnN], h1, h2, h3, fun i hi => ?_⟩
  have hlt : turnN g.length k i < (turnG g k).length := by rw [turnG_len]; exact h1 i hi
  rw [nd_eq hlt, turnG_get hlt, h3 i hi]
theorem row2_splice {m i : Nat} {f h : Nat → Value} {a b : Value} : splice (row2 m f h) (0 + i * 2) [a, b] = row2 m (fun j => if j = i then a else f j) (fun j => if j = i then b else h j) := by
  show ((row2 m f h).setIfInBounds (0 + i * 2 + 0) a).setIfInBounds (0 + i * 2 + 1) b = _
  rw [row2_set0, row2_set1]
end Go.Proofs.YtlaihbaneoeffaaDoor
