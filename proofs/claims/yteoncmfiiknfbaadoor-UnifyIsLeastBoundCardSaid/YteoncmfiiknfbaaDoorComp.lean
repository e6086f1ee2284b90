/- What these functions of the program compute, at every world: glosswright/glosswrightlaw3.apart. Targets of links, walks along paths, what At answers. No program in sight. What these functions of the program compute, at every world: cmp.isNaN[int], cmp.Compare[int], glosswright/graph.Target$1, slices.BinarySearchFunc[[]glosswright/api.Link,glosswright/api.Link,int]. What these functions of the program compute, at every world: glosswright/graph.Target, glosswright/glosswrightref3.Target, glosswright/glosswrightlaw3.single. A graph whose nodes are numbered in another way: valid, and of the same canonical form. No program in sight. What is reached from a node of a valid graph is a valid graph; a path in it leads where the path leads in the graph. No program in sight. -/
import Derived.Test.YteoncmfiiknfbaaDoorGNodes
import Derived.Test.YteoncmfiiknfbaaDoorGVisit
namespace Go.Proofs.YteoncmfiiknfbaaDoor
open Go.RowKit

theorem links_of_blk {w : World} {b t : Nat} {cs : Array Value} (xs : List (Int × Int)) (h : Blk w b t cs) (he : cs = (lnV xs).toArray) (hl : xs.length ≤ maxI) : LinksIn w (some ⟨b, 0, none⟩) xs := by
  subst he
  refine ⟨hl, fun _ => ⟨b, 0, rfl, h.lt, fun k hk j v hj => ?_⟩⟩
  have h2 := lnV_get xs k hk
  match j, hj with
  | 0, hj => cases hj; exact h.cell (by simpa using h2.1)
  | 1, hj => cases hj; exact h.cell (by simpa using h2.2)
  | _ + 2, hj => cases hj
theorem links_nil (w : World) (A : Option Addr) : LinksIn w A [] := ⟨Nat.zero_le _, fun h => absurd rfl h⟩
inductive NdVs (w : World) : List Nd → List Value → Prop
  | nil : NdVs w [] []
  | cons {x : Nd} {l : List Nd} {vs : List Value} {A : Option Addr} {c : Nat} (h : LinksIn w A x.ln) (r : NdVs w l vs) : NdVs w (x :: l) (.int .i64 x.ty :: .slice A x.ln.length c :: vs)
theorem NdVs.get {w : World} {l : List Nd} {vs : List Value} (h : NdVs w l vs) : ∀ k (hk : k < l.length), ∃ A c, vs[k * 2]? = some (.int .i64 (l[k]).ty) ∧ vs[k * 2 + 1]? = some (.slice A (l[k]).ln.length c) ∧ LinksIn w A (l[k]).ln := by
  induction h with
  | nil => intro k hk; simp at hk
  | cons h r ih =>
    intro k hk
    match k, hk with
    | 0, _ => exact ⟨_, _, rfl, rfl, h⟩
    | k + 1, hk =>
      obtain ⟨A, c, h1, h2, h3⟩ := ih k (by simpa using hk)
      refine ⟨A, c, ?_, ?_, h3⟩
      · rw [show (k + 1) * 2 = k * 2 + 1 + 1 from by omega]; simpa using h1
      · rw [show (k + 1) * 2 + 1 = k * 2 + 1 + 1 + 1 from by omega]; simpa using h2
theorem nodes_of_blk {w : World} {b t : Nat} {l : List Nd} {vs : List Value} (h : Blk w b t vs.toArray) (hv : NdVs w l vs) (hl : l.length ≤ maxI) : NodesIn w (some ⟨b, 0, none⟩) l :=
  ⟨hl, fun _ => ⟨b, 0, rfl, h.lt, fun k hk => by
    obtain ⟨A, c, h1, h2, h3⟩ := hv.get k hk
    refine ⟨A, c, fun j v hj => ?_, h3⟩
    match j, hj with
    | 0, hj => cases hj; exact h.cell (by simpa using h1)
    | 1, hj => cases hj; exact h.cell (by simpa using h2)
    | _ + 2, hj => cases hj⟩⟩
/-- the order of the traversal, the canonical form -/
noncomputable def ordI (g : List Nd) : List Nat := @Classical.epsilon (List Nat) ⟨[]⟩ (fun o => DL g [0] [] o)
theorem ord_is {g : List Nd} {o : List Nat} (h : DL g [0] [] o) : ordI g = o := (@Classical.epsilon_spec (List Nat) (fun o => DL g [0] [] o) ⟨o, h⟩).det h
noncomputable def canF (l : List Ty) (fs : List Ft) (g : List Nd) : List Nd := if (graphF l fs g).1 = 0 then canG g (ordI g) else []
theorem canF_ok {l : List Ty} {fs : List Ft} {g : List Nd} {o : List Nat} (h : (graphF l fs g).1 = 0) (hd : DL g [0] [] o) : canF l fs g = canG g o := by unfold canF; rw [if_pos h, ord_is hd]
theorem same_any (A B : Option Addr) (n m c d : Nat) (ga gb : List Nd) (w : World) (hA : NodesIn w A ga) (hBn : NodesIn w B gb) (ha : ga.length = n) (hb : gb.length = m) (he : ga = gb) : Calls Tryd.prog 13 #[.agg #[.slice A n c], .agg #[.slice B m d]] w fun e w' => e = .returned (.bool true) ∧ Bel w w' := by
  subst ha hb
  have h := nodes_any A B c d ga gb w hA hBn
  rw [decide_eq_true he] at h
  exact h
def apartG : List Nd := [⟨1, [(0, 2), (1, 1)]⟩, ⟨2, []⟩, ⟨0, []⟩]
theorem apart_ok : (graphF pairT pairF apartG).1 = 0 := by
  have h0 : Rch apartG 0 := .zero
  have hu : (-1 : Int) = unrI apartG := unr_is (.inl ⟨rfl, fun i hi => by
    have hi3 : i < 3 := hi
    match i, hi3 with
    | 0, _ => exact h0
    | 1, _ => exact Rch.step (x := (1, 1)) h0 (by decide) (by decide)
    | 2, _ => exact Rch.step (x := (0, 2)) h0 (by decide) (by decide)⟩)
  rw [gf_in (by rw [pair_fault]), wi_zero (by decide +kernel) (by decide +kernel) (by omega)]
theorem apart_any (w : World) : Calls Tryd.prog 12 #[] w fun e w' => (∃ A, e = .returned (.agg #[.slice A 3 3]) ∧ NodesIn w' A apartG) ∧ Bel w w' := by
 refine enter Tryd.func12 Tryd.ntmps12 rfl (Nat.le_of_ble_eq_true rfl) ?_
 have hB : Bel w w := Below.refl _ _
 refine c_seq (c_region ?_)
 refine wl_al (cs := #[.slice none 0 0]) ze28 rfl (fun b0 w1 hb0 hs hr => ?_)
 have lo0 := Nat.le_trans (Bel.size hB) hr
 replace hB := hB.tr0 hs
 clear hs
 clear hr
 refine x_nil (e_S (c_seq (c_region (wl (r_bd2 (v0 := .int _ _) (v1 := .int _ _) (fun v0 v1 => #[v0, v1]) rfl rfl (by kernel_rfl)) (wl (r_bd2 (v0 := .int _ _) (v1 := .int _ _) (fun v0 v1 => #[v0, v1]) rfl rfl (by kernel_rfl)) ?_)))))
 refine wl_bs (cs := #[_, _, _, _]) [(0, .agg _), (1, .agg _)] rfl Tryd.underlying53 sz74 ze74 (by decide) (by decide) (by kernel_rfl) rfl (fun b3 w2 hb3 hs hr => ?_)
 have or_b0_b3 : b0 < b3 := Nat.lt_of_lt_of_le hb0.lt hr
 have lo3 := Nat.le_trans (Bel.size hB) hr
 replace hB := hB.tr0 hs
 replace hb0 := hb0.tr0 hs
 clear hs
 clear hr
 refine wl (r_bd2 (v0 := .int _ _) (v1 := .slice _ _ _) (fun v0 v1 => #[v0, v1]) rfl rfl (by kernel_rfl)) (wl (r_bd1 (v0 := .int _ _) (fun v0 => #[v0, .slice none 0 0]) rfl (by kernel_rfl)) (wl (r_bd (vs := #[]) (cs := #[.int .i64 0, .slice none 0 0]) (by simp) (by kernel_rfl)) ?_))
 refine wl_bs (cs := #[_, _, _, _, _, _]) [(0, .agg _), (1, .agg _), (2, .agg _)] rfl Tryd.underlying26 sz55 ze55 (by decide) (by decide) (by kernel_rfl) rfl (fun b7 w3 hb7 hs hr => ?_)
 have or_b0_b7 : b0 < b7 := Nat.lt_of_lt_of_le hb0.lt hr
 have or_b3_b7 : b3 < b7 := Nat.lt_of_lt_of_le hb3.lt hr
 have lo7 := Nat.le_trans (Bel.size hB) hr
 replace hB := hB.tr0 hs
 replace hb0 := hb0.tr0 hs
 replace hb3 := hb3.tr0 hs
 clear hs
 clear hr
 refine wl (r_bd1 (v0 := .slice _ _ _) (fun v0 => #[v0]) rfl (by kernel_rfl)) ?_
 refine wl_stW hb0 rfl rfl sz28 rfl (by repeat (first | rfl | refine one_cons (by first | rfl | assumption) ?_)) (fun w4 hq hs => ?_)
 replace hB := hB.tr1 hs lo0
 replace hb3 := hb3.tr1 hs (by omega)
 replace hb7 := hb7.tr1 hs (by omega)
 clear hs
 replace hb0 := hq
 refine x_nil (e_S (c_ret (fin1 (.inl rfl) rfl (rr_cell Tryd.underlying28 rfl rfl hb0.range0 sz28) ?_)))
 exact ⟨⟨_, rfl, nodes_of_blk (l := apartG) hb7 (.cons (links_of_blk [(0, 2), (1, 1)] hb3 rfl (by decide)) (.cons (links_nil _ _) (.cons (links_nil _ _) .nil))) (by decide)⟩, hB⟩
end Go.Proofs.YteoncmfiiknfbaaDoor
namespace Go.Proofs.YteoncmfiiknfbaaDoor
open Go.RowKit
def tgt (xs : List (Int × Int)) (f : Int) : Int := match xs.find? (fun y => decide (y.1 = f)) with
  | some y => y.2
  | none => -1
theorem tgt_at {f : Int} : ∀ {xs : List (Int × Int)} {i : Nat} (hi : i < xs.length), (xs[i]).1 = f → (∀ j (hj : j < xs.length), j < i → ¬ (xs[j]).1 = f) → tgt xs f = (xs[i]).2
  | [], _, hi, _, _ => absurd hi (by simp)
  | x :: xs, 0, _, h, _ => by
    have h1 : x.1 = f := h
    unfold tgt
    rw [List.find?_cons, decide_eq_true h1]
    rfl
  | x :: xs, i + 1, hi, h, hb => by
    have h0 : ¬ x.1 = f := hb 0 (by simp) (by omega)
    have ih := tgt_at (xs := xs) (i := i) (by simpa using hi) h (fun j hj hji => hb (j + 1) (by simpa using hj) (by omega))
    unfold tgt at ih ⊢
    rw [List.find?_cons, decide_eq_false h0]
    exact ih
theorem tgt_no {f : Int} : ∀ {xs : List (Int × Int)}, (∀ j (hj : j < xs.length), ¬ (xs[j]).1 = f) → tgt xs f = -1
  | [], _ => rfl
  | x :: xs, h => by
    have h0 : ¬ x.1 = f := h 0 (by simp)
    have ih := tgt_no (xs := xs) (f := f) (fun j hj => h (j + 1) (by simpa using hj))
    unfold tgt at ih ⊢
    rw [List.find?_cons, decide_eq_false h0]
    exact ih
theorem ln_sorted {nf n : Nat} : ∀ {xs : List (Int × Int)} {last : Int}, lnFault nf n last xs = 0 → (∀ j (hj : j < xs.length), last < (xs[j]).1) ∧ ∀ i j (hi : i < xs.length) (hj : j < xs.length), i < j → (xs[i]).1 < (xs[j]).1
  | [], _, _ => ⟨fun j hj => absurd hj (by simp), fun i j hi => absurd hi (by simp)⟩
  | y :: ys, last, h => by
    unfold lnFault at h
    by_cases h1 : lnBad nf n y
    · rw [if_pos h1] at h; cases h
    rw [if_neg h1] at h
    by_cases h2 : y.1 ≤ last
    · rw [if_pos h2] at h; cases h
    rw [if_neg h2] at h
    obtain ⟨ih1, ih2⟩ := ln_sorted h
    refine ⟨fun j hj => ?_, fun i j hi hj hij => ?_⟩
    · match j, hj with
      | 0, _ => show last < y.1; omega
      | j + 1, hj =>
        have := ih1 j (by simpa using hj)
        show last < (ys[j]'(by simpa using hj)).1
        omega
    · match i, j, hi, hj, hij with
      | 0, j + 1, _, hj, _ => exact ih1 j (by simpa using hj)
      | i + 1, j + 1, hi, hj, hij => exact ih2 i j (by simpa using hi) (by simpa using hj) (by omega)
/-- what a binary search finds, in links in order -/
theorem tgt_bs {nf n : Nat} {xs : List (Int × Int)} {last f : Int} {i : Nat} (hs : lnFault nf n last xs = 0) (hlo : ∀ j (hj : j < xs.length), j < i → (xs[j]).1 < f) (hhi : ∀ j (hj : j < xs.length), i ≤ j → f ≤ (xs[j]).1) :
    (∀ h : i < xs.length, (xs[i]).1 = f → tgt xs f = (xs[i]).2) ∧ ((¬ ∃ h : i < xs.length, (xs[i]).1 = f) → tgt xs f = -1) := by
  refine ⟨fun h e => tgt_at h e (fun j hj hji => by have := hlo j hj hji; omega), fun hn => tgt_no (fun j hj e => ?_)⟩
  by_cases h1 : j < i
  · have := hlo j hj h1; omega
  · by_cases h2 : j = i
    · subst h2; exact hn ⟨hj, e⟩
    · have h3 := (ln_sorted hs).2 i j (by omega) hj (by omega)
      have h4 := hhi i (by omega) (Nat.le_refl _)
      omega
theorem tgt_mem {xs : List (Int × Int)} {f : Int} : tgt xs f = -1 ∨ ∃ y ∈ xs, y.1 = f ∧ tgt xs f = y.2 := by
  unfold tgt
  cases h : xs.find? (fun y => decide (y.1 = f)) with
  | none => exact .inl rfl
  | some y => exact .inr ⟨y, List.mem_of_find?_eq_some h, by simpa using List.find?_some h, rfl⟩
theorem tgt_rng {nt nf : Nat} {g : List Nd} (hk : GOk nt nf g) {i : Nat} (hi : i < g.length) (f : Int) : -1 ≤ tgt (g[i]).ln f ∧ tgt (g[i]).ln f < g.length := by
  rcases tgt_mem (xs := (g[i]).ln) (f := f) with h | ⟨y, hy, _, h⟩
  · rw [h]; omega
  · have := hk.ln i hi y hy
    rw [h]; omega
def walkT (g : List Nd) : List Int → Int → Int
  | [], a => a
  | f :: p, a => if a < 0 then a else walkT g p (tgt (nd g a.toNat).ln f)
def pF (nf : Nat) (p : List Int) (i : Nat) : Int := match p[i]? with
  | none => 0
  | some x => if x < 0 ∨ (nf : Int) ≤ x then 3 else 0
noncomputable def atF (l : List Ty) (fs : List Ft) (g : List Nd) (p : List Int) : Fl := if ¬ (graphF l fs g).1 = 0 then graphF l fs g else if 300 < p.length then (2, -3) else firstF (pF fs.length p) 0 p.length
def AtOk (l : List Ty) (fs : List Ft) (g : List Nd) (p : List Int) : Prop := (atF l fs g p).1 = 0 ∧ 0 ≤ walkT g p 0
noncomputable instance (l : List Ty) (fs : List Ft) (g : List Nd) (p : List Int) : Decidable (AtOk l fs g p) := Classical.propDecidable _
end Go.Proofs.YteoncmfiiknfbaaDoor
namespace Go.Proofs.YteoncmfiiknfbaaDoor
open Go.RowKit

theorem r_cvU {P : Program} {n : Nat} {f : Fr} {w : World} {dst : Option Tmp} {gd : Option (Nat × Bool)} {ty : TypeId} {pos : String} {af : Array Edge} {x : Operand} {k' : IntKind} {a : Int} {t t' : TypeId} {dd : TypeDesc} (hs : P.underlying t = some dd) (hd : P.underlying t' = some (.int .u64)) (hx : ev n f x = .int k' a) (ha : 0 ≤ a ∧ a ≤ 18446744073709551615) :
    RV P n f w ⟨dst, .convert t t' x, ty, pos, af, gd⟩ (.int .u64 a) w := by
  have := IntWalk.u64_in a ha
  simp [RV, execOp, hx, convert, run_underlying hs, run_underlying hd, Conv.intToInt, this]
def cmpI (a b : Int) : Int := if a < b then -1 else if b < a then 1 else 0
theorem cmpI_lt {a b : Int} : cmpI a b < 0 ↔ a < b := by unfold cmpI; split <;> (try split) <;> omega
theorem cmpI_eq {a b : Int} : cmpI a b = 0 ↔ a = b := by unfold cmpI; split <;> (try split) <;> omega

theorem fn60 : callable Tryd.prog 60 = true := by kernel_rfl
theorem fn67 : callable Tryd.prog 67 = true := by kernel_rfl
theorem fn70 : callable Tryd.prog 70 = true := by kernel_rfl
theorem sz3_GSearch : (Tryd.prog.info? 3).map (·.size) = some 1 := by kernel_rfl
theorem sz74_GSearch : (Tryd.prog.info? 74).map (·.size) = some 2 := by kernel_rfl
theorem nan_any (a : Int) (w : World) : Calls Tryd.prog 70 #[.int .i64 a] w fun e w' => e = .returned (.bool false) ∧ Bel w w' := by
 refine enter Tryd.func70 Tryd.ntmps70 rfl (Nat.le_of_ble_eq_true rfl) ?_
 have hB : Bel w w := Below.refl _ _
 refine c_seq (c_region (wl (r_as (v := .bool _) rfl) (x_nil (e_S (c_seq ?_)))))
 refine c_region (wl (r_mv (v := .int _ _) rfl) (wl (r_mv (v := .int _ _) rfl) (wl (r_neq rfl rfl) (wl (r_as (v := .bool _) rfl) (x_nil ?_)))))
 refine e_S (c_ret (fin1 (.inl rfl) rfl rfl ?_))
 exact ⟨ret_bool (decide_eq_false (fun h => h rfl)).symm, hB⟩

theorem compare_any (a b : Int) (w : World) : Calls Tryd.prog 60 #[.int .i64 a, .int .i64 b] w fun e w' => e = .returned (.int .i64 (cmpI a b)) ∧ Bel w w' := by
 refine enter Tryd.func60 Tryd.ntmps60 rfl (Nat.le_of_ble_eq_true rfl) ?_
 have hB : Bel w w := Below.refl _ _
 refine c_seq (c_region (wl (r_as (v := .int _ _) rfl) (x_nil (e_S (c_seq ?_)))))
 refine c_region (wl (r_mv (v := .int _ _) rfl) ?_)
 refine wl_cl fn70 (nan_any _ _) rfl (fun e' w1 hr => ?_)
 obtain ⟨rfl, hs⟩ := hr
 replace hs := Same.of_bel hs
 replace hB := hB.tr0 hs
 clear hs
 refine ⟨_, rfl, ?_⟩
 refine wl (r_as (v := .bool _) rfl) (x_nil (e_S (c_seq (c_region (wl (r_mv (v := .int _ _) rfl) ?_)))))
 refine wl_cl fn70 (nan_any _ _) rfl (fun e' w2 hr => ?_)
 obtain ⟨rfl, hs⟩ := hr
 replace hs := Same.of_bel hs
 replace hB := hB.tr0 hs
 clear hs
 refine ⟨_, rfl, ?_⟩
 refine wl (r_as (v := .bool _) rfl) (x_nil (e_S (c_seq (c_seq (c_region ?_)))))
 refine wl (r_mv (v := .bool _) rfl) (x_nil (e_S ?_))
 refine c_if rfl (fun c11 => ?_) (fun c11 => ?_)
 ·
  exact absurd c11 (by decide)
 ·
  refine c_skip (e_S (c_seq (c_seq (c_region (wl (r_mv (v := .bool _) rfl) ?_)))))
  refine x_nil (e_S ?_)
  refine c_if rfl (fun c13 => ?_) (fun c13 => ?_)
  ·
   exact absurd c13 (by decide)
  ·
   refine c_skip (e_S (c_seq (c_seq (c_region (wl (r_mv (v := .int _ _) rfl) ?_)))))
   refine wl (r_mv (v := .int _ _) rfl) (wl (r_lss rfl rfl) (x_nil (e_S ?_)))
   refine c_ifd rfl (fun c16 => ?_) (fun c16 => ?_)
   ·
    refine c_seq (c_region (wl (r_as (v := .int _ _) rfl) (x_nil (e_S (c_ret ?_)))))
    refine e_Sr (fin1 (.inl rfl) rfl rfl ?_)
    exact ⟨ret_int (by unfold cmpI; rw [if_pos c16]), hB⟩
   ·
    refine c_skip (e_S (c_seq (c_seq (c_region (wl (r_mv (v := .int _ _) rfl) ?_)))))
    refine wl (r_mv (v := .int _ _) rfl) (wl (r_gtr rfl rfl) (x_nil (e_S ?_)))
    refine c_ifd rfl (fun c19 => ?_) (fun c19 => ?_)
    ·
     refine c_seq (c_region (wl (r_as (v := .int _ _) rfl) (x_nil (e_S (c_ret ?_)))))
     refine e_Sr (fin1 (.inl rfl) rfl rfl ?_)
     exact ⟨ret_int (by unfold cmpI; rw [if_neg c16]; exact if_pos c19), hB⟩
    ·
     refine c_skip (e_S (c_seq (c_region (wl (r_as (v := .int _ _) rfl) (x_nil ?_)))))
     refine e_S (c_ret (fin1 (.inl rfl) rfl rfl ?_))
     exact ⟨ret_int (by unfold cmpI; rw [if_neg c16]; exact if_neg c19), hB⟩

theorem tcl_any (a b f : Int) (w : World) : Calls Tryd.prog 67 #[.agg #[.int .i64 a, .int .i64 b], .int .i64 f] w fun e w' => e = .returned (.int .i64 (cmpI a f)) ∧ Bel w w' := by
 refine enter Tryd.func67 Tryd.ntmps67 rfl (Nat.le_of_ble_eq_true rfl) ?_
 have hB : Bel w w := Below.refl _ _
 refine c_seq (c_region ?_)
 refine wl_bx (v := .agg #[_, _]) (cs := #[_, _]) rfl rfl (fun b2 w1 hb2 hs hr => ?_)
 have lo2 := Nat.le_trans (Bel.size hB) hr
 replace hB := hB.tr0 hs
 clear hs
 clear hr
 refine wl (r_as (v := .int _ _) rfl) (x_nil (e_S (c_seq (c_region (wl (r_fa Tryd.underlying74 sz3_GSearch (by decide) rfl rfl rfl) ?_)))))
 refine wl (r_ld1 (v := .int _ _) Tryd.underlying3 rfl rfl (hb2.cell rfl)) (wl (r_mv (v := .int _ _) rfl) ?_)
 refine wl_cl fn60 (compare_any _ _ _) rfl (fun e' w2 hr => ?_)
 obtain ⟨rfl, hs⟩ := hr
 replace hs := Same.of_bel hs
 replace hB := hB.tr0 hs
 replace hb2 := hb2.tr0 hs
 clear hs
 refine ⟨_, rfl, ?_⟩
 refine wl (r_as (v := .int _ _) rfl) (x_nil (e_S (c_ret (fin1 (.inl rfl) rfl rfl ?_))))
 exact ⟨rfl, hB⟩

theorem bsf_any (A : Option Addr) (c : Nat) (xs : List (Int × Int)) (f : Int) (w : World) (hX : LinksIn w A xs) (hl : xs.length ≤ 1000) (hmono : ∀ i j (hi : i < xs.length) (hj : j < xs.length), i ≤ j → (xs[i]).1 ≤ (xs[j]).1) : Calls Tryd.prog 66 #[.slice A xs.length c, .int .i64 f, .func (.func 67) #[] #[]] w fun e w' => (∃ (i : Nat) (b : Bool), i ≤ xs.length ∧ e = .returned (.tuple #[.int .i64 i, .bool b]) ∧ (∀ j (hj : j < xs.length), j < i → (xs[j]).1 < f) ∧ (∀ j (hj : j < xs.length), i ≤ j → f ≤ (xs[j]).1) ∧ (b = true ↔ ∃ h : i < xs.length, (xs[i]).1 = f)) ∧ Bel w w' := by
 refine enter Tryd.func66 Tryd.ntmps66 rfl (Nat.le_of_ble_eq_true rfl) ?_
 have hB : Bel w w := Below.refl _ _
 refine c_seq (c_region (wl (r_as (v := .int _ _) rfl) (wl (r_as (v := .bool _) rfl) (x_nil (e_S ?_)))))
 refine c_seq (c_region (wl (r_mv (v := .slice _ _ _) rfl) (wl (r_len Tryd.underlying53 rfl) (wl (r_as (v := .int _ _) rfl) (x_nil ?_)))))
 refine e_S (c_seq (c_region (wl (r_mv (v := .int _ _) rfl) (wl (r_as (v := .int _ _) rfl) (wl (r_as (v := .int _ _) rfl) ?_)))))
 refine x_nil (e_S (c_seq (c_block ?_)))
 refine c_loopS [9, 10, 11, 15, 16, 17, 18, 19, 20, 21, 22, 23, 24, 25, 26, 27, 28, 29, 30, 31, 32, 33, 34] (fun m g w' => ∃ i j : Nat, i ≤ j ∧ j ≤ xs.length ∧ m = j - i ∧ g 9 = .int .i64 i ∧ g 10 = .int .i64 j ∧ Bel w w' ∧ (∀ x (hx : x < xs.length), x < i → (xs[x]).1 < f) ∧ (∀ x (hx : x < xs.length), j ≤ x → f ≤ (xs[x]).1)) (xs.length) ?_ (fun m g3 w1 hI => ?_)
 ·
  exact ⟨0, xs.length, Nat.zero_le _, Nat.le_refl _, rfl, rfl, rfl, hB, fun x _ h => by omega, fun x h1 h2 => by omega⟩
 obtain ⟨i, j, hij, hj, hm, h9, h10, hB, hlo, hhi⟩ := hI
 refine c_know 9 (.int .i64 i) h9 (by simp [undef]) (c_know 10 (.int .i64 j) h10 (by simp [undef]) (c_seq (c_seq (c_region (wl (r_mv (v := .int _ _) rfl) ?_)))))
 refine wl (r_mv (v := .int _ _) rfl) (wl (r_lss rfl rfl) (x_nil (e_S ?_)))
 refine c_ifd rfl (fun c17 => ?_) (fun c17 => ?_)
 ·
  obtain ⟨h, hh⟩ : ∃ h, h = (i + j) / 2 := ⟨_, rfl⟩
  have hhl : h < xs.length := by omega
  obtain ⟨lb, lof, rfl, hlb, hlr⟩ := hX.at_ hB hhl
  refine c_skip (e_S (c_block (c_seq (c_region (wl (r_mv (v := .int _ _) rfl) ?_)))))
  refine wl (r_mv (v := .int _ _) rfl) (wl (r_add (c := ((i + j : Nat) : Int)) rfl rfl (by omega) (by omega)) (wl (r_cvU Tryd.underlying3 Tryd.underlying119 rfl (by omega)) (wl (r_shr (b := 1) (c := h) rfl rfl (by omega) (by rw [hh, Nat.shiftRight_eq_div_pow])) (wl (r_cvI Tryd.underlying119 Tryd.underlying3 rfl (by omega)) (wl (r_as (v := .int _ _) rfl) ?_)))))
  refine x_nil (e_S (c_seq (c_region (wl (r_mv (v := .func _ _ _) rfl) (wl (r_mv (v := .slice _ _ _) rfl) ?_)))))
  refine wl (r_mv (v := .int _ _) rfl) (wl (r_ia (i := h) Tryd.underlying53 sz74_GSearch rfl rfl (by omega) rfl) (wl (r_ldS Tryd.underlying74 rfl rfl hlr sz74_GSearch) (wl (r_mv (v := .int _ _) rfl) ?_)))
  refine wl_clv rfl fn67 (tcl_any _ _ f _) rfl rfl (fun e' w2 hr => ?_)
  obtain ⟨rfl, hs⟩ := hr
  replace hB := hB.tr0 (Same.of_bel hs)
  refine ⟨_, rfl, ?_⟩
  refine wl (r_lss rfl rfl) (x_nil (e_S ?_))
  refine c_ifd rfl (fun c31 => ?_) (fun c31 => ?_)
  ·
   have hlt := cmpI_lt.1 c31
   obtain ⟨i2, hi2⟩ : ∃ i2, i2 = h + 1 := ⟨_, rfl⟩
   obtain ⟨j2, hj2⟩ : ∃ j2, j2 = j := ⟨_, rfl⟩
   have hlo2 : ∀ x (hx : x < xs.length), x < i2 → (xs[x]).1 < f := fun x hx hxi => by
     by_cases e : x = h
     · subst e; exact hlt
     · have hsx : (xs[x]).1 ≤ (xs[h]).1 := hmono x h hx hhl (by omega)
       omega
   have hhi2 : ∀ x (hx : x < xs.length), j2 ≤ x → f ≤ (xs[x]).1 := fun x hx hxj => hhi x hx (by omega)
   refine c_region (wl (r_mv (v := .int _ _) rfl) (wl (r_add rfl rfl rfl (by omega)) (wl (r_as (v := .int _ _) rfl) (x_nil (e_B ?_)))))
   refine e_LS (j2 - i2) (by omega) (by repeat (first | exact ag_refl | exact ag_ovr' | refine ag_upd rfl ?_ | refine ag_sub rfl ?_ | refine ag_kn (by assumption) ?_)) ?_
   exact ⟨i2, j2, by omega, by omega, rfl, by subst hi2; rfl, by subst hj2; rfl, hB, hlo2, hhi2⟩
  ·
   have hge : ¬ (xs[h]).1 < f := fun h => c31 (cmpI_lt.2 h)
   obtain ⟨i2, hi2⟩ : ∃ i2, i2 = i := ⟨_, rfl⟩
   obtain ⟨j2, hj2⟩ : ∃ j2, j2 = h := ⟨_, rfl⟩
   have hlo2 : ∀ x (hx : x < xs.length), x < i2 → (xs[x]).1 < f := fun x hx hxi => hlo x hx (by omega)
   have hhi2 : ∀ x (hx : x < xs.length), j2 ≤ x → f ≤ (xs[x]).1 := fun x hx hxj => by
     have hsx : (xs[h]).1 ≤ (xs[x]).1 := hmono h x hhl hx (by omega)
     omega
   refine c_region (wl (r_mv (v := .int _ _) rfl) (wl (r_as (v := .int _ _) rfl) (x_nil (e_B ?_))))
   refine e_LS (j2 - i2) (by omega) (by repeat (first | exact ag_refl | exact ag_ovr' | refine ag_upd rfl ?_ | refine ag_sub rfl ?_ | refine ag_kn (by assumption) ?_)) ?_
   exact ⟨i2, j2, by omega, by omega, rfl, by subst hi2; rfl, by subst hj2; rfl, hB, hlo2, hhi2⟩
 ·
  have hije : i = j := by omega
  subst hije
  refine c_exit (e_Sx (e_LSx (e_Bx (e_S (c_seq ?_)))))
  refine c_region (wl (r_mv (v := .int _ _) rfl) (wl (r_mv (v := .int _ _) rfl) (wl (r_mv (v := .int _ _) rfl) (wl (r_lss rfl rfl) (wl (r_mv (v := .bool _) rfl) ?_)))))
  refine wl_casesd 39 rfl (fun g39 => ?_) (fun g39 => ?_)
  ·
   refine wl_gd 39 rfl rfl (wl (r_mv (v := .func _ _ _) rfl) (wl_gd 39 rfl rfl (wl (r_mv (v := .slice _ _ _) rfl) (wl_gd 39 rfl rfl (wl (r_mv (v := .int _ _) rfl) ?_)))))
   have hiN : i < xs.length := by omega
   obtain ⟨lb, lof, rfl, hlb, hlr⟩ := hX.at_ hB hiN
   refine wl_gd 39 rfl rfl (wl (r_ia (i := i) Tryd.underlying53 sz74_GSearch rfl rfl (by omega) rfl) (wl_gd 39 rfl rfl (wl (r_ldS Tryd.underlying74 rfl rfl hlr sz74_GSearch) (wl_gd 39 rfl rfl (wl (r_mv (v := .int _ _) rfl) ?_)))))
   refine wl_gd 39 rfl rfl ?_
   refine wl_clv rfl fn67 (tcl_any _ _ f _) rfl rfl (fun e' w3 hr => ?_)
   obtain ⟨rfl, hs⟩ := hr
   replace hB := hB.tr0 (Same.of_bel hs)
   refine ⟨_, rfl, ?_⟩
   refine wl_gd 39 rfl rfl (wl (r_eql rfl rfl) (wl (r_pt (v := .bool _) rfl rfl) (wl (r_as (v := .int _ _) rfl) (wl (r_as (v := .bool _) rfl) (x_nil ?_)))))
   refine e_S (c_ret (fin2 (.inl rfl) rfl rfl rfl ?_))
   first
     | exact ⟨⟨i, false, by omega, rfl, hlo, hhi, ⟨fun h => (Bool.noConfusion h), fun hh => absurd hh.1 (by omega)⟩⟩, hB⟩
     | exact ⟨⟨i, decide (cmpI (xs[i]'hiN).1 f = 0), by omega, rfl, hlo, hhi, by rw [decide_eq_true_iff, cmpI_eq]; exact ⟨fun h => ⟨hiN, h⟩, fun ⟨_, h⟩ => h⟩⟩, hB⟩
  ·
   refine wlgn 39 rfl rfl rfl (wlgn 39 rfl rfl rfl (wlgn 39 rfl rfl rfl (wlgn 39 rfl rfl rfl (wlgn 39 rfl rfl rfl (wlgn 39 rfl rfl rfl ?_)))))
   refine wlgn 39 rfl rfl rfl (wlgn 39 rfl rfl rfl (wl (r_pf (v := .bool _) rfl rfl) (wl (r_as (v := .int _ _) rfl) (wl (r_as (v := .bool _) rfl) (x_nil ?_)))))
   refine e_S (c_ret (fin2 (.inl rfl) rfl rfl rfl ?_))
   first
     | exact ⟨⟨i, false, by omega, rfl, hlo, hhi, ⟨fun h => (Bool.noConfusion h), fun hh => absurd hh.1 (by omega)⟩⟩, hB⟩
     | exact ⟨⟨i, decide (cmpI (xs[i]'hiN).1 f = 0), by omega, rfl, hlo, hhi, by rw [decide_eq_true_iff, cmpI_eq]; exact ⟨fun h => ⟨hiN, h⟩, fun ⟨_, h⟩ => h⟩⟩, hB⟩
end Go.Proofs.YteoncmfiiknfbaaDoor
namespace Go.Proofs.YteoncmfiiknfbaaDoor
open Go.RowKit

theorem fn66 : callable Tryd.prog 66 = true := by kernel_rfl
theorem sz26_GTgt : (Tryd.prog.info? 26).map (·.size) = some 1 := by kernel_rfl
theorem sz28_GTgt : (Tryd.prog.info? 28).map (·.size) = some 1 := by kernel_rfl
theorem sz53_GTgt : (Tryd.prog.info? 53).map (·.size) = some 1 := by kernel_rfl
theorem sz55_GTgt : (Tryd.prog.info? 55).map (·.size) = some 2 := by kernel_rfl
theorem ze28_GTgt : (Tryd.prog.info? 28).map (·.zero) = some (some (.agg #[.slice none 0 0])) := by kernel_rfl
theorem ze55_GTgt : (Tryd.prog.info? 55).map (·.zero) = some (some (.agg #[.int .i64 0, .slice none 0 0])) := by kernel_rfl
theorem ze74_GTgt : (Tryd.prog.info? 74).map (·.zero) = some (some (.agg #[.int .i64 0, .int .i64 0])) := by kernel_rfl
theorem target_any (G : Option Addr) (cg nf : Nat) (gr : List Nd) (i : Nat) (f : Int) (w : World) (hG : NodesIn w G gr) (hi : i < gr.length) (hl : lnFault nf gr.length (-1) (gr[i]'hi).ln = 0) (hw : (gr[i]'hi).ln.length ≤ 1000) : Calls Tryd.prog 42 #[.agg #[.slice G gr.length cg], .int .i64 i, .int .i64 f] w fun e w' => e = .returned (.int .i64 (tgt (gr[i]'hi).ln f)) ∧ Bel w w' := by
 obtain ⟨nb, no, LA, lc, rfl, hnb, hnr, hln⟩ := hG.at_ (Below.refl _ _ : Bel w w) hi
 have hso := (ln_sorted hl).2
 refine enter Tryd.func42 Tryd.ntmps42 rfl (Nat.le_of_ble_eq_true rfl) ?_
 have hB : Bel w w := Below.refl _ _
 refine c_seq (c_region ?_)
 refine wl_bx (v := .agg #[_]) (cs := #[_]) rfl rfl (fun b3 w1 hb3 hs hr => ?_)
 have lo3 := Nat.le_trans (Bel.size hB) hr
 replace hB := hB.tr0 hs
 clear hs
 clear hr
 refine wl (r_as (v := .int _ _) rfl) (x_nil (e_S (c_seq (c_region (wl (r_fa Tryd.underlying28 sz26_GTgt (by decide) rfl rfl rfl) ?_)))))
 refine wl (r_ld1 (v := .slice _ _ _) Tryd.underlying26 rfl rfl (hb3.cell rfl)) (wl (r_mv (v := .int _ _) rfl) (wl (r_ia (i := i) Tryd.underlying26 sz55_GTgt rfl rfl hi rfl) (wl (r_fa Tryd.underlying55 sz53_GTgt (by decide) rfl rfl rfl) (wl (r_ld1 (v := .slice _ _ _) Tryd.underlying53 rfl rfl (hB.cell hnb (hnr 1 _ rfl))) (wl (r_mv (v := .int _ _) rfl) ?_)))))
 refine wl_cl fn66 (bsf_any LA lc (gr[i]'hi).ln f _ (hln.mono hB) hw (fun x y hx hy hxy => by
       by_cases e : x = y
       · subst e; exact Int.le_refl _
       · exact Int.le_of_lt (hso x y hx hy (by omega)))) rfl (fun e' w2 hr => ?_)
 obtain ⟨⟨ix, b, hix, rfl, hlo, hhi, hbt⟩, hs⟩ := hr
 replace hs := Same.of_bel hs
 replace hB := hB.tr0 hs
 replace hb3 := hb3.tr0 hs
 clear hs
 obtain ⟨hy, hn⟩ := tgt_bs hl hlo hhi
 refine ⟨_, rfl, ?_⟩
 refine wl (r_mv (v := .tuple _) rfl) (wl (r_ex (v := .int _ _) rfl rfl) (wl (r_ex (v := .bool _) rfl rfl) (wl (r_as (v := .int _ _) rfl) (wl (r_as (v := .bool _) rfl) (x_nil ?_)))))
 refine e_S (c_seq (c_seq (c_region (wl (r_mv (v := .bool _) rfl) (wl (r_not rfl) ?_)))))
 refine x_nil (e_S ?_)
 refine c_if rfl (fun c21 => ?_) (fun c21 => ?_)
 ·
  have hbf : ¬ b = true := by simpa using c21
  have hno := hn (fun h => hbf (hbt.2 h))
  refine c_seq (c_region (wl (r_as (v := .int _ _) rfl) (x_nil (e_S (c_ret ?_)))))
  refine e_Sr (fin1 (.inl rfl) rfl rfl ?_)
  exact ⟨ret_int hno, hB⟩
 ·
  have hbt2 : b = true := by simpa using c21
  obtain ⟨hxl, hxe⟩ := hbt.1 hbt2
  have hyes := hy hxl hxe
  obtain ⟨lb, lof, rfl, hlb, hlr⟩ := hln.at_ hB hxl
  refine c_skip (e_S (c_seq (c_region (wl (r_fa Tryd.underlying28 sz26_GTgt (by decide) rfl rfl rfl) (wl (r_ld1 (v := .slice _ _ _) Tryd.underlying26 rfl rfl (hb3.cell rfl)) ?_)))))
  refine wl (r_mv (v := .int _ _) rfl) (wl (r_ia (i := i) Tryd.underlying26 sz55_GTgt rfl rfl hi rfl) (wl (r_fa Tryd.underlying55 sz53_GTgt (by decide) rfl rfl rfl) (wl (r_ld1 (v := .slice _ _ _) Tryd.underlying53 rfl rfl (hB.cell hnb (hnr 1 _ rfl))) (wl (r_mv (v := .int _ _) rfl) (wl (r_ia (i := ix) Tryd.underlying53 sz74_GSearch rfl rfl (by omega) rfl) ?_)))))
  refine wl (r_fa Tryd.underlying74 sz3_GSearch (by decide) rfl rfl rfl) (wl (r_ld1 (v := .int _ _) Tryd.underlying3 rfl rfl (hlr 1 _ rfl)) (wl (r_as (v := .int _ _) rfl) (x_nil (e_S (c_ret ?_)))))
  refine fin1 (.inl rfl) rfl rfl ?_
  exact ⟨ret_int hyes, hB⟩

end Go.Proofs.YteoncmfiiknfbaaDoor
namespace Go.Proofs.YteoncmfiiknfbaaDoor
open Go.RowKit
def trN (σ : Nat → Nat) (x : Nd) : Nd := ⟨x.ty, x.ln.map (fun y => (y.1, (σ y.2.toNat : Int)))⟩
theorem unr_ex (g : List Nd) : ∃ r, UnrIs g r := by
  have h : ∀ n : Nat, (∀ i, i < n → Rch g i) ∨ ∃ k, k < n ∧ ¬ Rch g k ∧ ∀ i, i < k → Rch g i := by
    intro n
    induction n with
    | zero => exact .inl (fun i hi => absurd hi (by omega))
    | succ n ih =>
      rcases ih with h | ⟨k, h1, h2, h3⟩
      · by_cases hn : Rch g n
        · refine .inl (fun i hi => ?_)
          by_cases e : i = n
          · rw [e]; exact hn
          · exact h i (by omega)
        · exact .inr ⟨n, by omega, hn, h⟩
      · exact .inr ⟨k, by omega, h2, h3⟩
  rcases h g.length with h | ⟨k, h1, h2, h3⟩
  · exact ⟨-1, .inl ⟨rfl, h⟩⟩
  · exact ⟨k, .inr ⟨k, rfl, h1, h2, h3⟩⟩
theorem GV.rch {l : List Ty} {fs : List Ft} {g : List Nd} (h : GV l fs g) : ∀ i, i < g.length → Rch g i := by
  obtain ⟨r, hr⟩ := unr_ex g
  have hu := h.u
  rw [← unr_is hr] at hu
  rcases hr with ⟨_, h3⟩ | ⟨k, h3, _⟩
  · exact h3
  · exact absurd (show 0 ≤ r by omega) hu
structure Turn (g gt : List Nd) (σ ρ : Nat → Nat) : Prop where
  len : gt.length = g.length
  z : σ 0 = 0
  lt : ∀ i, i < g.length → σ i < g.length
  rl : ∀ j, j < g.length → ρ j < g.length ∧ σ (ρ j) = j
  lr : ∀ i, i < g.length → ρ (σ i) = i
  nd : ∀ i, i < g.length → nd gt (σ i) = trN σ (nd g i)
section turn
variable {g gt : List Nd} {σ ρ : Nat → Nat}
theorem Turn.inj (t : Turn g gt σ ρ) {x y : Nat} (hx : x < g.length) (hy : y < g.length) (h : σ x = σ y) : x = y := by rw [← t.lr x hx, ← t.lr y hy, h]
theorem Turn.succ (t : Turn g gt σ ρ) {i : Nat} (hi : i < g.length) : succN gt (σ i) = (succN g i).map σ := by
  unfold succN; rw [t.nd i hi]; simp [trN]
theorem Turn.dl (t : Turn g gt σ ρ) (hr : ∀ i, i < g.length → ∀ y ∈ succN g i, y < g.length) {is a b : List Nat} (h : DL g is a b) : (∀ i ∈ is, i < g.length) → (∀ x ∈ b, x < g.length) → DL gt (is.map σ) (a.map σ) (b.map σ) := by
  induction h with
  | nil => exact fun _ _ => .nil
  | old h _ ih => exact fun hi hb => .old (List.mem_map_of_mem h) (ih (fun i h => hi i (List.mem_cons_of_mem _ h)) hb)
  | new h s u ihs iht =>
    intro hi hb
    rename_i i is o o1 o'
    have hil := hi i (List.mem_cons_self ..)
    have ho1 : ∀ x ∈ o1, x < g.length := fun x hx => hb x (u.sub _ hx)
    refine .new (fun hm => ?_) ?_ (iht (fun i h => hi i (List.mem_cons_of_mem _ h)) hb)
    · obtain ⟨y, hy, e⟩ := List.mem_map.1 hm
      have hyl := ho1 y (s.sub _ (List.mem_append_left _ hy))
      exact h (t.inj hyl hil e ▸ hy)
    · have := ihs (hr i hil) ho1
      rw [List.map_append] at this
      rw [t.succ hil]
      exact this
theorem Turn.rch (t : Turn g gt σ ρ) (hr : ∀ i, i < g.length → ∀ y ∈ succN g i, y < g.length) (hp : 0 < g.length) {i : Nat} (h : Rch g i) : i < g.length ∧ Rch gt (σ i) := by
  induction h with
  | zero => exact ⟨hp, by rw [t.z]; exact .zero⟩
  | step h hi hx ih =>
    rename_i i x
    refine ⟨hr i hi _ (by simp only [succN, nd_eq hi, List.mem_map]; exact ⟨x, hx, rfl⟩), ?_⟩
    have hlt : σ i < gt.length := by rw [t.len]; exact t.lt i hi
    have e := t.nd i hi
    rw [nd_eq hlt, nd_eq hi] at e
    have := Rch.step (x := (x.1, ((σ x.2.toNat : Nat) : Int))) ih.2 hlt (by rw [e]; exact List.mem_map.2 ⟨x, hx, rfl⟩)
    simpa using this
theorem idx_map {g : List Nd} {σ : Nat → Nat} {x : Nat} (hx : x < g.length) (inj : ∀ y, y < g.length → σ y = σ x → y = x) : ∀ {o : List Nat}, (∀ y ∈ o, y < g.length) → (o.map σ).idxOf (σ x) = o.idxOf x
  | [], _ => rfl
  | y :: o, h => by
    rw [List.map_cons, List.idxOf_cons, List.idxOf_cons, idx_map hx inj (fun z hz => h z (List.mem_cons_of_mem _ hz))]
    by_cases e : y = x
    · subst e; simp
    · have e2 : ¬ σ y = σ x := fun h2 => e (inj y (h y (List.mem_cons_self ..)) h2)
      have b1 : (y == x) = false := by simp [e]
      have b2 : (σ y == σ x) = false := by simp [e2]
      rw [b1, b2]
theorem Turn.num (t : Turn g gt σ ρ) {x : Nat} (hx : x < g.length) {o : List Nat} (ho : ∀ y ∈ o, y < g.length) : numO (o.map σ) (σ x) = numO o x := by
  unfold numO
  have e : σ x ∈ o.map σ ↔ x ∈ o := ⟨fun h => by
    obtain ⟨y, hy, e⟩ := List.mem_map.1 h
    exact t.inj (ho y hy) hx e ▸ hy, fun h => List.mem_map_of_mem h⟩
  by_cases h : x ∈ o
  · rw [if_pos (e.2 h), if_pos h, idx_map hx (fun y hy h => t.inj hy hx h) ho]
  · rw [if_neg (fun k => h (e.1 k)), if_neg h]
theorem Turn.can (t : Turn g gt σ ρ) (hr : ∀ i, i < g.length → ∀ y ∈ succN g i, y < g.length) {o : List Nat} (ho : ∀ y ∈ o, y < g.length) : canG gt (o.map σ) = canG g o := by
  unfold canG
  rw [List.map_map]
  refine List.map_congr_left (fun x hx => ?_)
  have hxl := ho x hx
  simp only [Function.comp]
  unfold canN
  rw [t.nd x hxl]
  refine nd_ext rfl ?_
  simp only [trN, List.map_map]
  refine List.map_congr_left (fun y hy => ?_)
  have hyl := hr x hxl y.2.toNat (by simp only [succN, List.mem_map]; exact ⟨y, hy, rfl⟩)
  simp only [Function.comp, canL, Int.toNat_natCast]
  rw [t.num hyl ho]
end turn
/-! ## the numbering of the statement -/
theorem row2_splice {m i : Nat} {f h : Nat → Value} {a b : Value} : splice (row2 m f h) (0 + i * 2) [a, b] = row2 m (fun j => if j = i then a else f j) (fun j => if j = i then b else h j) := by
  show ((row2 m f h).setIfInBounds (0 + i * 2 + 0) a).setIfInBounds (0 + i * 2 + 1) b = _
  rw [row2_set0, row2_set1]
end Go.Proofs.YteoncmfiiknfbaaDoor
namespace Go.Proofs.YteoncmfiiknfbaaDoor
open Go.RowKit
/-- the facts of a traversal from any node -/
structure TrR (g : List Nd) (r : Nat) (o : List Nat) : Prop where
  dl : DL g [r] [] o
  ok : OOk g.length o
  nodup : o.Nodup
  has : r ∈ o
  zero : o.idxOf r = 0
  clo : ∀ x ∈ o, ∀ t ∈ succN g x, t ∈ o
theorem DL.within {g : List Nd} {o : List Nat} (hc : ∀ x ∈ o, ∀ t ∈ succN g x, t ∈ o) {is a b : List Nat} (h : DL g is a b) : (∀ i ∈ is, i ∈ o) → (∀ x ∈ a, x ∈ o) → ∀ x ∈ b, x ∈ o := by
  induction h with
  | nil => exact fun _ h => h
  | old h t ih => exact fun hi ha => ih (fun i h => hi i (List.mem_cons_of_mem _ h)) ha
  | new h s t ihs iht =>
    intro hi ha
    have hio := hi _ (List.mem_cons_self ..)
    refine iht (fun i h => hi i (List.mem_cons_of_mem _ h)) (ihs (hc _ hio) (fun x hx => ?_))
    rcases List.mem_append.1 hx with hx | hx
    · exact ha x hx
    · rw [List.mem_singleton.1 hx]; exact hio
theorem idx_inj {o : List Nat} {x y : Nat} (hx : x ∈ o) (hy : y ∈ o) (e : o.idxOf x = o.idxOf y) : x = y := by
  obtain ⟨h1, h2⟩ := get_idx hx
  obtain ⟨h3, h4⟩ := get_idx hy
  rw [← h2, ← h4]
  simp only [e]
theorem idx_map2 {o : List Nat} {x : Nat} (hx : x ∈ o) : ∀ {o2 : List Nat}, (∀ y ∈ o2, y ∈ o) → (o2.map (o.idxOf ·)).idxOf (o.idxOf x) = o2.idxOf x
  | [], _ => rfl
  | y :: o2, h => by
    rw [List.map_cons, List.idxOf_cons, List.idxOf_cons, idx_map2 hx (fun z hz => h z (List.mem_cons_of_mem _ hz))]
    by_cases e : y = x
    · subst e; simp
    · have e2 : ¬ o.idxOf y = o.idxOf x := fun h2 => e (idx_inj (h y (List.mem_cons_self ..)) hx h2)
      have b1 : (y == x) = false := by simp [e]
      have b2 : (o.idxOf y == o.idxOf x) = false := by simp [e2]
      rw [b1, b2]
theorem num_map2 {o o2 : List Nat} {x : Nat} (hx : x ∈ o) (h : ∀ y ∈ o2, y ∈ o) : numO (o2.map (o.idxOf ·)) (o.idxOf x) = numO o2 x := by
  unfold numO
  have e : o.idxOf x ∈ o2.map (o.idxOf ·) ↔ x ∈ o2 := ⟨fun hm => by
    obtain ⟨y, hy, e⟩ := List.mem_map.1 hm
    exact idx_inj (h y hy) hx e ▸ hy, fun h => List.mem_map_of_mem h⟩
  by_cases h2 : x ∈ o2
  · rw [if_pos h2, if_pos (e.2 h2), idx_map2 hx h]
  · rw [if_neg h2, if_neg (fun h3 => h2 (e.1 h3))]
section sub
variable {g : List Nd} {r : Nat} {o : List Nat}
theorem TrR.mem (t : TrR g r o) {x : Nat} (hx : x ∈ o) {y : Int × Int} (hy : y ∈ (nd g x).ln) : y.2.toNat ∈ o := t.clo x hx _ (by simp only [succN, List.mem_map]; exact ⟨y, hy, rfl⟩)
theorem TrR.lt (t : TrR g r o) {x : Nat} (hx : x ∈ o) : x < g.length := t.ok.lt x hx
/-- a canonical form of a part of what is reached -/
theorem TrR.can2 (t : TrR g r o) {c : Nat} {o2 : List Nat} (hc : c ∈ o) (h2 : DL g [c] [] o2) : canG (canG g o) (o2.map (o.idxOf ·)) = canG g o2 := by
  have hw := h2.within t.clo (fun i hi => by rw [List.mem_singleton.1 hi]; exact hc) (fun x hx => by cases hx)
  have hcl := h2.clo
  unfold canG
  rw [List.map_map]
  refine List.map_congr_left (fun x hx => ?_)
  have hxo := hw x hx
  have e := canG_nd (g := g) hxo
  unfold canG at e
  show canN _ _ (o.idxOf x) = canN g o2 x
  unfold canN at e ⊢
  rw [e]
  refine nd_ext rfl ?_
  simp only [List.map_map]
  refine List.map_congr_left (fun y hy => ?_)
  have hyo := t.mem hxo hy
  simp only [Function.comp, canL, numO_in hyo, Int.toNat_natCast]
  rw [num_map2 hyo hw]
theorem TrR.dl2 (t : TrR g r o) {c : Nat} {o2 : List Nat} (hc : c ∈ o) (h2 : DL g [c] [] o2) : DL (canG g o) [o.idxOf c] [] (o2.map (o.idxOf ·)) :=
  h2.map t.clo (h2.within t.clo (fun i hi => by rw [List.mem_singleton.1 hi]; exact hc) (fun x hx => by cases hx))
end sub
section comp
variable {l : List Ty} {fs : List Ft} {g : List Nd} {p q : List Int}
end comp
end Go.Proofs.YteoncmfiiknfbaaDoor
