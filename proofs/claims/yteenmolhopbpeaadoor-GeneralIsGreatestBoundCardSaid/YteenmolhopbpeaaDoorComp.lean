/- What these functions of the program compute, at every world: glosswright/glosswrightlaw3.pairOf. The canonical form of a valid graph is valid, and its own canonical form. No program in sight. What these functions of the program compute, at every world: slices.Equal[[]glosswright/api.Link,glosswright/api.Link], glosswright/glosswrightequal.Nodes. What these functions of the program compute, at every world: glosswright/glosswrightref3.From. What these functions of the program compute, at every world: glosswright/glosswrightlaw3.apart. Targets of links, walks along paths, what At answers. No program in sight. A graph whose nodes are numbered in another way: valid, and of the same canonical form. No program in sight. What is reached from a node of a valid graph is a valid graph; a path in it leads where the path leads in the graph. No program in sight. -/
import Derived.Test.YteenmolhopbpeaaDoorU
import Derived.Test.YteenmolhopbpeaaDoorGVal
import Derived.Test.YteenmolhopbpeaaDoorDfs
namespace Go.Proofs.YteenmolhopbpeaaDoor
open Go.RowKit
theorem ints_of_blk {w : World} {b t : Nat} (xs : List Int) (h : Blk w b t (xs.map (Value.int .i64)).toArray) (hl : xs.length ≤ maxI) : IntsIn w (some ⟨b, 0, none⟩) xs :=
  ⟨hl, fun _ => ⟨b, 0, rfl, h.lt, fun k hk => h.cell (by simp [hk])⟩⟩
theorem feats_of_blk {w : World} {b t : Nat} (fs : List Ft) (h : Blk w b t (fs.flatMap (fun f => [Value.string f.name, .int .i64 f.of, .int .i64 f.val])).toArray) (hl : fs.length ≤ maxI) : FeatsIn w (some ⟨b, 0, none⟩) fs := by
  refine ⟨hl, fun _ => ⟨b, 0, rfl, h.lt, fun k hk => ?_⟩⟩
  have key : ∀ (l : List Ft) (k : Nat) (hk : k < l.length) (j : Nat) (v : Value), [Value.string (l[k]).name, .int .i64 (l[k]).of, .int .i64 (l[k]).val][j]? = some v → (l.flatMap (fun f => [Value.string f.name, .int .i64 f.of, .int .i64 f.val]))[k * 3 + j]? = some v := by
    intro l
    induction l with
    | nil => intro k hk; simp at hk
    | cons a r ih =>
      intro k hk j v hj
      match k, hk with
      | 0, _ =>
        have hj3 : j < 3 := (List.getElem?_eq_some_iff.1 hj).1
        rw [List.flatMap_cons, List.getElem?_append_left (by simpa using hj3)]
        simpa using hj
      | k + 1, hk =>
        rw [List.flatMap_cons, List.getElem?_append_right (by simp; omega)]
        have := ih k (by simpa using hk) j v hj
        have e : (k + 1) * 3 + j - [Value.string a.name, .int .i64 a.of, .int .i64 a.val].length = k * 3 + j := by simp; omega
        rw [e]; exact this
  intro j v hj
  have := key fs k hk j v hj
  exact h.cell (by simpa using this)
inductive TyVs (w : World) : List Ty → List Value → Prop
  | nil : TyVs w [] []
  | cons {t : Ty} {l : List Ty} {vs : List Value} {A : Option Addr} {c : Nat} (h : IntsIn w A t.par) (r : TyVs w l vs) : TyVs w (t :: l) (.string t.name :: .slice A t.par.length c :: vs)
theorem TyVs.get {w : World} {l : List Ty} {vs : List Value} (h : TyVs w l vs) : ∀ k (hk : k < l.length), ∃ A c, vs[k * 2]? = some (.string (l[k]).name) ∧ vs[k * 2 + 1]? = some (.slice A (l[k]).par.length c) ∧ IntsIn w A (l[k]).par := by
  induction h with
  | nil => intro k hk; simp at hk
  | cons h r ih =>
    intro k hk
    match k, hk with
    | 0, _ => exact ⟨_, _, rfl, rfl, h⟩
    | k + 1, hk =>
      obtain ⟨A, c, h1, h2, h3⟩ := ih k (by simpa using hk)
      refine ⟨A, c, ?_, ?_, h3⟩
      · rw [show (k + 1) * 2 = k * 2 + 1 + 1 from by omega]; simpa using h1
      · rw [show (k + 1) * 2 + 1 = k * 2 + 1 + 1 + 1 from by omega]; simpa using h2
theorem types_of_blk {w : World} {b t : Nat} {l : List Ty} {vs : List Value} (h : Blk w b t vs.toArray) (hv : TyVs w l vs) (hl : l.length ≤ maxI) : TypesIn w (some ⟨b, 0, none⟩) l :=
  ⟨hl, fun _ => ⟨b, 0, rfl, h.lt, fun k hk => by
    obtain ⟨A, c, h1, h2, h3⟩ := hv.get k hk
    refine ⟨A, c, h.range (fun j v hj => ?_), h3⟩
    match j, hj with
    | 0, hj => cases hj; simpa using h1
    | 1, hj => cases hj; simpa using h2
    | _ + 2, hj => cases hj⟩⟩
theorem ints_nil (w : World) (A : Option Addr) : IntsIn w A [] := ⟨Nat.zero_le _, fun h => absurd rfl h⟩
def pairT : List Ty := [⟨⟨#[116, 111, 112]⟩, []⟩, ⟨⟨#[97]⟩, [0]⟩, ⟨⟨#[98]⟩, [0]⟩, ⟨⟨#[99]⟩, [1]⟩]
def pairF : List Ft := [⟨⟨#[102]⟩, 1, 0⟩, ⟨⟨#[103]⟩, 1, 0⟩]
theorem pair_fault : hierFault pairT pairF = (0, 0) := by decide +kernel
theorem nodes_nil (w : World) (A : Option Addr) : NodesIn w A [] := ⟨Nat.zero_le _, fun h => absurd rfl h⟩
theorem sz61_GLaw : (Tryd.prog.info? 61).map (·.size) = some 2 := by kernel_rfl
theorem ze25 : (Tryd.prog.info? 25).map (·.zero) = some (some (.agg #[.slice none 0 0, .slice none 0 0])) := by kernel_rfl
theorem ze61_GLaw : (Tryd.prog.info? 61).map (·.zero) = some (some (.agg #[.string ⟨#[]⟩, .slice none 0 0])) := by kernel_rfl
theorem pair_any (w : World) : Calls Tryd.prog 6 #[] w fun e w' => (∃ A B, e = .returned (.agg #[.slice A 4 4, .slice B 2 2]) ∧ TypesIn w' A pairT ∧ FeatsIn w' B pairF) ∧ Bel w w' := by
 refine enter Tryd.func6 Tryd.ntmps6 rfl (Nat.le_of_ble_eq_true rfl) ?_
 have hB : Bel w w := Below.refl _ _
 refine c_seq (c_region ?_)
 refine wl_al (cs := #[.slice none 0 0, .slice none 0 0]) ze25 rfl (fun b0 w1 hb0 hs hr => ?_)
 have lo0 := nLT (Bel.size hB) hr
 replace hB := hB.tr0 hs
 clear hs
 clear hr
 refine x_nil (e_S (c_seq (c_region (wl (r_bd1 (v0 := .string _) (fun v0 => #[v0, .slice none 0 0]) rfl kR) ?_))))
 refine wl_bs (cs := #[_]) [(0, .int _ _)] rfl U56 sz3_GLoose ze3_GUnr dE dE kR rfl (fun b2 w2 hb2 hs hr => ?_)
 have or_b0_b2 : b0 < b2 := nLL hb0.lt hr
 have lo2 := nLT (Bel.size hB) hr
 replace hB := hB.tr0 hs
 replace hb0 := hb0.tr0 hs
 clear hs
 clear hr
 refine wl (r_bd2 (v0 := .string _) (v1 := .slice _ _ _) (fun v0 v1 => #[v0, v1]) rfl rfl kR) ?_
 refine wl_bs (cs := #[_]) [(0, .int _ _)] rfl U56 sz3_GLoose ze3_GUnr dE dE kR rfl (fun b4 w3 hb4 hs hr => ?_)
 have or_b0_b4 : b0 < b4 := nLL hb0.lt hr
 have or_b2_b4 : b2 < b4 := nLL hb2.lt hr
 have lo4 := nLT (Bel.size hB) hr
 replace hB := hB.tr0 hs
 replace hb0 := hb0.tr0 hs
 replace hb2 := hb2.tr0 hs
 clear hs
 clear hr
 refine wl (r_bd2 (v0 := .string _) (v1 := .slice _ _ _) (fun v0 v1 => #[v0, v1]) rfl rfl kR) ?_
 refine wl_bs (cs := #[_]) [(0, .int _ _)] rfl U56 sz3_GLoose ze3_GUnr dE dE kR rfl (fun b6 w4 hb6 hs hr => ?_)
 have or_b0_b6 : b0 < b6 := nLL hb0.lt hr
 have or_b2_b6 : b2 < b6 := nLL hb2.lt hr
 have or_b4_b6 : b4 < b6 := nLL hb4.lt hr
 have lo6 := nLT (Bel.size hB) hr
 replace hB := hB.tr0 hs
 replace hb0 := hb0.tr0 hs
 replace hb2 := hb2.tr0 hs
 replace hb4 := hb4.tr0 hs
 clear hs
 clear hr
 refine wl (r_bd2 (v0 := .string _) (v1 := .slice _ _ _) (fun v0 v1 => #[v0, v1]) rfl rfl kR) ?_
 refine wl_bs (cs := #[_, _, _, _, _, _, _, _]) [(0, .agg _), (1, .agg _), (2, .agg _), (3, .agg _)] rfl U22 sz61_GLaw ze61_GLaw dE dE kR rfl (fun b8 w5 hb8 hs hr => ?_)
 have or_b0_b8 : b0 < b8 := nLL hb0.lt hr
 have or_b2_b8 : b2 < b8 := nLL hb2.lt hr
 have or_b4_b8 : b4 < b8 := nLL hb4.lt hr
 have or_b6_b8 : b6 < b8 := nLL hb6.lt hr
 have lo8 := nLT (Bel.size hB) hr
 replace hB := hB.tr0 hs
 replace hb0 := hb0.tr0 hs
 replace hb2 := hb2.tr0 hs
 replace hb4 := hb4.tr0 hs
 replace hb6 := hb6.tr0 hs
 clear hs
 clear hr
 refine wl (r_bd3 (v0 := .string _) (v1 := .int _ _) (v2 := .int _ _) (fun v0 v1 v2 => #[v0, v1, v2]) rfl rfl rfl kR) (wl (r_bd3 (v0 := .string _) (v1 := .int _ _) (v2 := .int _ _) (fun v0 v1 v2 => #[v0, v1, v2]) rfl rfl rfl kR) ?_)
 refine wl_bs (cs := #[_, _, _, _, _, _]) [(0, .agg _), (1, .agg _)] rfl U23 sz63_GVal ze63_GVal dE dE kR rfl (fun b11 w6 hb11 hs hr => ?_)
 have or_b0_b11 : b0 < b11 := nLL hb0.lt hr
 have or_b2_b11 : b2 < b11 := nLL hb2.lt hr
 have or_b4_b11 : b4 < b11 := nLL hb4.lt hr
 have or_b6_b11 : b6 < b11 := nLL hb6.lt hr
 have or_b8_b11 : b8 < b11 := nLL hb8.lt hr
 have lo11 := nLT (Bel.size hB) hr
 replace hB := hB.tr0 hs
 replace hb0 := hb0.tr0 hs
 replace hb2 := hb2.tr0 hs
 replace hb4 := hb4.tr0 hs
 replace hb6 := hb6.tr0 hs
 replace hb8 := hb8.tr0 hs
 clear hs
 clear hr
 refine wl (r_bd2 (v0 := .slice _ _ _) (v1 := .slice _ _ _) (fun v0 v1 => #[v0, v1]) rfl rfl kR) ?_
 refine wl_stW hb0 rfl rfl sz25 rfl oneA (fun w7 hq hs => ?_)
 replace hB := hB.tr1 hs lo0
 replace hb2 := hb2.tr1 hs om
 replace hb4 := hb4.tr1 hs om
 replace hb6 := hb6.tr1 hs om
 replace hb8 := hb8.tr1 hs om
 replace hb11 := hb11.tr1 hs om
 clear hs
 replace hb0 := hq
 refine x_nil (e_S (c_ret (fin1 (.inl rfl) rfl (rr_cell U25 rfl rfl hb0.range0 sz25) ?_)))
 exact ⟨⟨_, _, rfl, types_of_blk (l := pairT) hb8 (.cons (ints_nil _ _) (.cons (ints_of_blk [0] hb2 dE) (.cons (ints_of_blk [0] hb4 dE) (.cons (ints_of_blk [1] hb6 dE) .nil)))) dE, feats_of_blk pairF hb11 dE⟩, hB⟩
end Go.Proofs.YteenmolhopbpeaaDoor
namespace Go.Proofs.YteenmolhopbpeaaDoor
open Go.RowKit
structure GV (l : List Ty) (fs : List Ft) (g : List Nd) : Prop where
  h : (hierFault l fs).1 = 0
  s : Sound l
  few : fs.length ≤ 40
  f : FOk l.length fs
  gok : GOk l.length fs.length g
  t : tyF l fs g = (0, 0)
  u : ¬ 0 ≤ unrI g
  lo : (looseF l.length fs.length g).1 = 0
theorem gv_of {l : List Ty} {fs : List Ft} {g : List Nd} (h : (graphF l fs g).1 = 0) : GV l fs g := by
  by_cases h0 : (hierFault l fs).1 = 0
  · rw [gf_in h0] at h
    by_cases h1 : (looseF l.length fs.length g).1 = 0
    · by_cases h2 : (tyF l fs g).1 = 0
      · have h2' : tyF l fs g = (0, 0) := firstF_zz h2
        by_cases h3 : 0 ≤ unrI g
        · rw [wi_unr h1 h2' h3] at h; cases h
        · refine ⟨h0, sound_of h0, ?_, fok_of h0, gok_of h1, h2', h3, h1⟩
          unfold hierFault at h0
          by_cases h4 : 40 < fs.length
          · rw [if_pos h4] at h0; cases h0
          · omega
      · unfold withinF at h
        rw [if_neg (fun e => e h1), if_pos h2] at h
        exact absurd h h2
    · rw [wi_loose h1] at h; exact absurd h h1
  · rw [gf_hier h0] at h; exact absurd h h0
theorem DL.sub {g : List Nd} {is a b : List Nat} (h : DL g is a b) : ∀ x ∈ a, x ∈ b := by
  induction h with
  | nil => exact fun x h => h
  | old h t ih => exact ih
  | new h s t ihs iht => exact fun x hx => iht x (ihs x (List.mem_append_left _ hx))
theorem DL.has {g : List Nd} {is a b : List Nat} (h : DL g is a b) : ∀ i ∈ is, i ∈ b := by
  induction h with
  | nil => exact fun i h => by cases h
  | old h t ih =>
    intro i hi
    rcases List.mem_cons.1 hi with rfl | hi
    · exact t.sub _ h
    · exact ih i hi
  | new h s t ihs iht =>
    intro i hi
    rcases List.mem_cons.1 hi with rfl | hi
    · exact t.sub _ (s.sub _ (by simp))
    · exact iht i hi
theorem DL.clo {g : List Nd} {is a b : List Nat} (h : DL g is a b) : ∀ x ∈ b, ¬ x ∈ a → ∀ t ∈ succN g x, t ∈ b := by
  induction h with
  | nil => exact fun x h1 h2 => absurd h1 h2
  | old h t ih => exact ih
  | new h s t ihs iht =>
    rename_i i is o o1 o'
    intro x hx hn y hy
    by_cases h1 : x ∈ o1
    · by_cases h2 : x = i
      · subst h2; exact t.sub _ (s.has y hy)
      · exact t.sub _ (ihs x h1 (fun h3 => by
          rcases List.mem_append.1 h3 with h3 | h3
          · exact hn h3
          · exact h2 (List.mem_singleton.1 h3)) y hy)
    · exact iht x hx h1 y hy
theorem DL.nodup {g : List Nd} {is a b : List Nat} (h : DL g is a b) : a.Nodup → b.Nodup := by
  induction h with
  | nil => exact fun h => h
  | old h t ih => exact ih
  | new h s t ihs iht =>
    intro hd
    refine iht (ihs (List.nodup_append.2 ⟨hd, by simp, fun x hx y hy => ?_⟩))
    rw [List.mem_singleton.1 hy]
    exact fun e => h (e ▸ hx)
theorem DL.rch {g : List Nd} (hr : ∀ i, i < g.length → ∀ t ∈ succN g i, t < g.length) {is a b : List Nat} (h : DL g is a b) : (∀ i ∈ is, i < g.length) → (∀ i ∈ is, Rch g i) → (∀ x ∈ a, Rch g x) → ∀ x ∈ b, Rch g x := by
  induction h with
  | nil => exact fun _ _ h => h
  | old h t ih => exact fun hi hR ha => ih (fun i h => hi i (List.mem_cons_of_mem _ h)) (fun i h => hR i (List.mem_cons_of_mem _ h)) ha
  | new h s t ihs iht =>
    rename_i i is o o1 o'
    intro hi hR ha
    have hlt := hi i (List.mem_cons_self ..)
    have hRi := hR i (List.mem_cons_self ..)
    refine iht (fun i h => hi i (List.mem_cons_of_mem _ h)) (fun i h => hR i (List.mem_cons_of_mem _ h)) (ihs (hr i hlt) (fun t ht => ?_) (fun x hx => ?_))
    · simp only [succN, nd_eq hlt, List.mem_map] at ht
      obtain ⟨y, hy, rfl⟩ := ht
      exact .step hRi hlt hy
    · rcases List.mem_append.1 hx with hx | hx
      · exact ha x hx
      · rw [List.mem_singleton.1 hx]; exact hRi
structure Tr (g : List Nd) (o : List Nat) : Prop where
  dl : DL g [0] [] o
  ok : OOk g.length o
  nd : o.Nodup
  pos : 0 < o.length
  zero : o.idxOf 0 = 0
  clo : ∀ x ∈ o, ∀ t ∈ succN g x, t ∈ o
theorem idx_get {o : List Nat} (hn : o.Nodup) {k : Nat} (hk : k < o.length) : o.idxOf o[k] = k := by
  have h1 : o.idxOf o[k] < o.length := List.idxOf_lt_length_of_mem (List.getElem_mem hk)
  have h2 : o[o.idxOf o[k]] = o[k] := List.getElem_idxOf h1
  exact (List.getElem_inj hn).1 h2
theorem get_idx {o : List Nat} {x : Nat} (hx : x ∈ o) : ∃ h : o.idxOf x < o.length, o[o.idxOf x] = x := ⟨List.idxOf_lt_length_of_mem hx, List.getElem_idxOf _⟩
theorem numO_in {o : List Nat} {x : Nat} (hx : x ∈ o) : numO o x = (o.idxOf x : Nat) := by simp [numO, hx]
theorem canG_len (g : List Nd) (o : List Nat) : (canG g o).length = o.length := by simp [canG]
theorem canG_nd {g : List Nd} {o : List Nat} {x : Nat} (hx : x ∈ o) : nd (canG g o) (o.idxOf x) = canN g o x := by
  obtain ⟨h1, h2⟩ := get_idx hx
  rw [nd_eq (by rw [canG_len]; exact h1)]
  simp [canG, h2]
theorem canG_succ {g : List Nd} {o : List Nat} (h : ∀ x ∈ o, ∀ t ∈ succN g x, t ∈ o) {x : Nat} (hx : x ∈ o) : succN (canG g o) (o.idxOf x) = (succN g x).map (o.idxOf ·) := by
  unfold succN
  rw [canG_nd hx]
  simp only [canN, List.map_map]
  refine List.map_congr_left (fun y hy => ?_)
  have : y.2.toNat ∈ o := h x hx _ (by simp only [succN, List.mem_map]; exact ⟨y, hy, rfl⟩)
  simp [canL, numO_in this]
theorem DL.map {g : List Nd} {o : List Nat} (hc : ∀ x ∈ o, ∀ t ∈ succN g x, t ∈ o) {is a b : List Nat} (h : DL g is a b) : (∀ x ∈ b, x ∈ o) → DL (canG g o) (is.map (o.idxOf ·)) (a.map (o.idxOf ·)) (b.map (o.idxOf ·)) := by
  have inj : ∀ x y, x ∈ o → y ∈ o → o.idxOf x = o.idxOf y → x = y := fun x y hx hy e => by
    obtain ⟨h1, h2⟩ := get_idx hx
    obtain ⟨h3, h4⟩ := get_idx hy
    rw [← h2, ← h4]
    simp only [e]
  induction h with
  | nil => exact fun _ => .nil
  | old h t ih =>
    intro hb
    exact .old (List.mem_map_of_mem h) (ih hb)
  | new h s t ihs iht =>
    rename_i i is o0 o1 o'
    intro hb
    have hio := hb i (t.sub _ (s.sub _ (by simp)))
    refine .new (fun hm => ?_) ?_ (iht hb)
    · obtain ⟨y, hy, e⟩ := List.mem_map.1 hm
      have hyo := hb y (t.sub _ (s.sub _ (List.mem_append_left _ hy)))
      exact h (inj y i hyo hio e ▸ hy)
    · have := ihs (fun x hx => hb x (t.sub _ hx))
      rw [List.map_append] at this
      rw [canG_succ hc hio]
      exact this
theorem map_idx {o : List Nat} (hn : o.Nodup) : o.map (o.idxOf ·) = List.range o.length := by
  apply List.ext_getElem
  · simp
  · intro k h1 h2
    simp only [List.getElem_map, List.getElem_range]
    exact idx_get hn (by simpa using h1)
end Go.Proofs.YteenmolhopbpeaaDoor
namespace Go.Proofs.YteenmolhopbpeaaDoor
open Go.RowKit
theorem FrSame.then {B B0 : Nat} {w0 w1 w2 : World} (h : FrSame B w0 w1) (k : FrSame B0 w1 w2) (hb : B0 ≤ B) : FrSame B w0 w2 :=
  ⟨nLT h.size k.size, fun i hi hl => (k.blk i (nLT hb hi) (nLL hl h.size)).trans (h.blk i hi hl)⟩
end Go.Proofs.YteenmolhopbpeaaDoor
namespace Go.Proofs.YteenmolhopbpeaaDoor
open Go.RowKit
theorem ze28 : (Tryd.prog.info? 28).map (·.zero) = some (some (.agg #[.slice none 0 0])) := by kernel_rfl
end Go.Proofs.YteenmolhopbpeaaDoor
namespace Go.Proofs.YteenmolhopbpeaaDoor
open Go.RowKit
theorem links_of_blk {w : World} {b t : Nat} {cs : Array Value} (xs : List (Int × Int)) (h : Blk w b t cs) (he : cs = (lnV xs).toArray) (hl : xs.length ≤ maxI) : LinksIn w (some ⟨b, 0, none⟩) xs := by
  subst he
  refine ⟨hl, fun _ => ⟨b, 0, rfl, h.lt, fun k hk j v hj => ?_⟩⟩
  have h2 := lnV_get xs k hk
  match j, hj with
  | 0, hj => cases hj; exact h.cell (by simpa using h2.1)
  | 1, hj => cases hj; exact h.cell (by simpa using h2.2)
  | _ + 2, hj => cases hj
theorem links_nil (w : World) (A : Option Addr) : LinksIn w A [] := ⟨Nat.zero_le _, fun h => absurd rfl h⟩
inductive NdVs (w : World) : List Nd → List Value → Prop
  | nil : NdVs w [] []
  | cons {x : Nd} {l : List Nd} {vs : List Value} {A : Option Addr} {c : Nat} (h : LinksIn w A x.ln) (r : NdVs w l vs) : NdVs w (x :: l) (.int .i64 x.ty :: .slice A x.ln.length c :: vs)
theorem NdVs.get {w : World} {l : List Nd} {vs : List Value} (h : NdVs w l vs) : ∀ k (hk : k < l.length), ∃ A c, vs[k * 2]? = some (.int .i64 (l[k]).ty) ∧ vs[k * 2 + 1]? = some (.slice A (l[k]).ln.length c) ∧ LinksIn w A (l[k]).ln := by
  induction h with
  | nil => intro k hk; simp at hk
  | cons h r ih =>
    intro k hk
    match k, hk with
    | 0, _ => exact ⟨_, _, rfl, rfl, h⟩
    | k + 1, hk =>
      obtain ⟨A, c, h1, h2, h3⟩ := ih k (by simpa using hk)
      refine ⟨A, c, ?_, ?_, h3⟩
      · rw [show (k + 1) * 2 = k * 2 + 1 + 1 from by omega]; simpa using h1
      · rw [show (k + 1) * 2 + 1 = k * 2 + 1 + 1 + 1 from by omega]; simpa using h2
theorem nodes_of_blk {w : World} {b t : Nat} {l : List Nd} {vs : List Value} (h : Blk w b t vs.toArray) (hv : NdVs w l vs) (hl : l.length ≤ maxI) : NodesIn w (some ⟨b, 0, none⟩) l :=
  ⟨hl, fun _ => ⟨b, 0, rfl, h.lt, fun k hk => by
    obtain ⟨A, c, h1, h2, h3⟩ := hv.get k hk
    refine ⟨A, c, fun j v hj => ?_, h3⟩
    match j, hj with
    | 0, hj => cases hj; exact h.cell (by simpa using h1)
    | 1, hj => cases hj; exact h.cell (by simpa using h2)
    | _ + 2, hj => cases hj⟩⟩
def apartG : List Nd := [⟨1, [(0, 2), (1, 1)]⟩, ⟨2, []⟩, ⟨0, []⟩]
theorem apart_ok : (graphF pairT pairF apartG).1 = 0 := by
  have h0 : Rch apartG 0 := .zero
  have hu : (-1 : Int) = unrI apartG := unr_is (.inl ⟨rfl, fun i hi => by
    have hi3 : i < 3 := hi
    match i, hi3 with
    | 0, _ => exact h0
    | 1, _ => exact Rch.step (x := (1, 1)) h0 dE dE
    | 2, _ => exact Rch.step (x := (0, 2)) h0 dE dE⟩)
  rw [gf_in (by rw [pair_fault]), wi_zero (by decide +kernel) (by decide +kernel) om]
theorem apart_any (w : World) : Calls Tryd.prog 11 #[] w fun e w' => (∃ A, e = .returned (.agg #[.slice A 3 3]) ∧ NodesIn w' A apartG) ∧ Bel w w' := by
 refine enter Tryd.func11 Tryd.ntmps11 rfl (Nat.le_of_ble_eq_true rfl) ?_
 have hB : Bel w w := Below.refl _ _
 refine c_seq (c_region ?_)
 refine wl_al (cs := #[.slice none 0 0]) ze28 rfl (fun b0 w1 hb0 hs hr => ?_)
 have lo0 := nLT (Bel.size hB) hr
 replace hB := hB.tr0 hs
 clear hs
 clear hr
 refine x_nil (e_S (c_seq (c_region (wl (r_bd2 (v0 := .int _ _) (v1 := .int _ _) (fun v0 v1 => #[v0, v1]) rfl rfl kR) (wl (r_bd2 (v0 := .int _ _) (v1 := .int _ _) (fun v0 v1 => #[v0, v1]) rfl rfl kR) ?_)))))
 refine wl_bs (cs := #[_, _, _, _]) [(0, .agg _), (1, .agg _)] rfl U37 sz36 ze36 dE dE kR rfl (fun b3 w2 hb3 hs hr => ?_)
 have or_b0_b3 : b0 < b3 := nLL hb0.lt hr
 have lo3 := nLT (Bel.size hB) hr
 replace hB := hB.tr0 hs
 replace hb0 := hb0.tr0 hs
 clear hs
 clear hr
 refine wl (r_bd2 (v0 := .int _ _) (v1 := .slice _ _ _) (fun v0 v1 => #[v0, v1]) rfl rfl kR) (wl (r_bd1 (v0 := .int _ _) (fun v0 => #[v0, .slice none 0 0]) rfl kR) (wl (r_bd (vs := #[]) (cs := #[.int .i64 0, .slice none 0 0]) (by simp) kR) ?_))
 refine wl_bs (cs := #[_, _, _, _, _, _]) [(0, .agg _), (1, .agg _), (2, .agg _)] rfl U26 sz39 ze39 dE dE kR rfl (fun b7 w3 hb7 hs hr => ?_)
 have or_b0_b7 : b0 < b7 := nLL hb0.lt hr
 have or_b3_b7 : b3 < b7 := nLL hb3.lt hr
 have lo7 := nLT (Bel.size hB) hr
 replace hB := hB.tr0 hs
 replace hb0 := hb0.tr0 hs
 replace hb3 := hb3.tr0 hs
 clear hs
 clear hr
 refine wl (r_bd1 (v0 := .slice _ _ _) (fun v0 => #[v0]) rfl kR) ?_
 refine wl_stW hb0 rfl rfl sz28 rfl oneA (fun w4 hq hs => ?_)
 replace hB := hB.tr1 hs lo0
 replace hb3 := hb3.tr1 hs om
 replace hb7 := hb7.tr1 hs om
 clear hs
 replace hb0 := hq
 refine x_nil (e_S (c_ret (fin1 (.inl rfl) rfl (rr_cell U28 rfl rfl hb0.range0 sz28) ?_)))
 exact ⟨⟨_, rfl, nodes_of_blk (l := apartG) hb7 (.cons (links_of_blk [(0, 2), (1, 1)] hb3 rfl dE) (.cons (links_nil _ _) (.cons (links_nil _ _) .nil))) dE⟩, hB⟩
end Go.Proofs.YteenmolhopbpeaaDoor
namespace Go.Proofs.YteenmolhopbpeaaDoor
open Go.RowKit
def tgt (xs : List (Int × Int)) (f : Int) : Int := match xs.find? (fun y => decide (y.1 = f)) with
  | some y => y.2
  | none => -1
theorem tgt_at {f : Int} : ∀ {xs : List (Int × Int)} {i : Nat} (hi : i < xs.length), (xs[i]).1 = f → (∀ j (hj : j < xs.length), j < i → ¬ (xs[j]).1 = f) → tgt xs f = (xs[i]).2
  | [], _, hi, _, _ => absurd hi (by simp)
  | x :: xs, 0, _, h, _ => by
    have h1 : x.1 = f := h
    unfold tgt
    rw [List.find?_cons, decide_eq_true h1]
    rfl
  | x :: xs, i + 1, hi, h, hb => by
    have h0 : ¬ x.1 = f := hb 0 (by simp) om
    have ih := tgt_at (xs := xs) (i := i) (by simpa using hi) h (fun j hj hji => hb (j + 1) (by simpa using hj) om)
    unfold tgt at ih ⊢
    rw [List.find?_cons, decide_eq_false h0]
    exact ih
theorem tgt_no {f : Int} : ∀ {xs : List (Int × Int)}, (∀ j (hj : j < xs.length), ¬ (xs[j]).1 = f) → tgt xs f = -1
  | [], _ => rfl
  | x :: xs, h => by
    have h0 : ¬ x.1 = f := h 0 (by simp)
    have ih := tgt_no (xs := xs) (f := f) (fun j hj => h (j + 1) (by simpa using hj))
    unfold tgt at ih ⊢
    rw [List.find?_cons, decide_eq_false h0]
    exact ih
theorem ln_sorted {nf n : Nat} : ∀ {xs : List (Int × Int)} {last : Int}, lnFault nf n last xs = 0 → (∀ j (hj : j < xs.length), last < (xs[j]).1) ∧ ∀ i j (hi : i < xs.length) (hj : j < xs.length), i < j → (xs[i]).1 < (xs[j]).1
  | [], _, _ => ⟨fun j hj => absurd hj (by simp), fun i j hi => absurd hi (by simp)⟩
  | y :: ys, last, h => by
    unfold lnFault at h
    by_cases h1 : lnBad nf n y
    · rw [if_pos h1] at h; cases h
    rw [if_neg h1] at h
    by_cases h2 : y.1 ≤ last
    · rw [if_pos h2] at h; cases h
    rw [if_neg h2] at h
    obtain ⟨ih1, ih2⟩ := ln_sorted h
    refine ⟨fun j hj => ?_, fun i j hi hj hij => ?_⟩
    · match j, hj with
      | 0, _ => show last < y.1; omega
      | j + 1, hj =>
        have := ih1 j (by simpa using hj)
        show last < (ys[j]'(by simpa using hj)).1
        omega
    · match i, j, hi, hj, hij with
      | 0, j + 1, _, hj, _ => exact ih1 j (by simpa using hj)
      | i + 1, j + 1, hi, hj, hij => exact ih2 i j (by simpa using hi) (by simpa using hj) om
theorem tgt_bs {nf n : Nat} {xs : List (Int × Int)} {last f : Int} {i : Nat} (hs : lnFault nf n last xs = 0) (hlo : ∀ j (hj : j < xs.length), j < i → (xs[j]).1 < f) (hhi : ∀ j (hj : j < xs.length), i ≤ j → f ≤ (xs[j]).1) :
    (∀ h : i < xs.length, (xs[i]).1 = f → tgt xs f = (xs[i]).2) ∧ ((¬ ∃ h : i < xs.length, (xs[i]).1 = f) → tgt xs f = -1) := by
  refine ⟨fun h e => tgt_at h e (fun j hj hji => by have := hlo j hj hji; omega), fun hn => tgt_no (fun j hj e => ?_)⟩
  by_cases h1 : j < i
  · have := hlo j hj h1; omega
  · by_cases h2 : j = i
    · subst h2; exact hn ⟨hj, e⟩
    · have h3 := (ln_sorted hs).2 i j om hj om
      have h4 := hhi i om (Nat.le_refl _)
      omega
theorem tgt_mem {xs : List (Int × Int)} {f : Int} : tgt xs f = -1 ∨ ∃ y ∈ xs, y.1 = f ∧ tgt xs f = y.2 := by
  unfold tgt
  cases h : xs.find? (fun y => decide (y.1 = f)) with
  | none => exact .inl rfl
  | some y => exact .inr ⟨y, List.mem_of_find?_eq_some h, by simpa using List.find?_some h, rfl⟩
theorem tgt_rng {nt nf : Nat} {g : List Nd} (hk : GOk nt nf g) {i : Nat} (hi : i < g.length) (f : Int) : -1 ≤ tgt (g[i]).ln f ∧ tgt (g[i]).ln f < g.length := by
  rcases tgt_mem (xs := (g[i]).ln) (f := f) with h | ⟨y, hy, _, h⟩
  · rw [h]; omega
  · have := hk.ln i hi y hy
    rw [h]; omega
def walkT (g : List Nd) : List Int → Int → Int
  | [], a => a
  | f :: p, a => if a < 0 then a else walkT g p (tgt (nd g a.toNat).ln f)
def pF (nf : Nat) (p : List Int) (i : Nat) : Int := match p[i]? with
  | none => 0
  | some x => if x < 0 ∨ (nf : Int) ≤ x then 3 else 0
noncomputable def atF (l : List Ty) (fs : List Ft) (g : List Nd) (p : List Int) : Fl := if ¬ (graphF l fs g).1 = 0 then graphF l fs g else if 300 < p.length then (2, -3) else firstF (pF fs.length p) 0 p.length
def AtOk (l : List Ty) (fs : List Ft) (g : List Nd) (p : List Int) : Prop := (atF l fs g p).1 = 0 ∧ 0 ≤ walkT g p 0
noncomputable instance (l : List Ty) (fs : List Ft) (g : List Nd) (p : List Int) : Decidable (AtOk l fs g p) := Classical.propDecidable _
end Go.Proofs.YteenmolhopbpeaaDoor
namespace Go.Proofs.YteenmolhopbpeaaDoor
open Go.RowKit
def trN (σ : Nat → Nat) (x : Nd) : Nd := ⟨x.ty, x.ln.map (fun y => (y.1, (σ y.2.toNat : Int)))⟩
theorem unr_ex (g : List Nd) : ∃ r, UnrIs g r := by
  have h : ∀ n : Nat, (∀ i, i < n → Rch g i) ∨ ∃ k, k < n ∧ ¬ Rch g k ∧ ∀ i, i < k → Rch g i := by
    intro n
    induction n with
    | zero => exact .inl (fun i hi => absurd hi om)
    | succ n ih =>
      rcases ih with h | ⟨k, h1, h2, h3⟩
      · by_cases hn : Rch g n
        · refine .inl (fun i hi => ?_)
          by_cases e : i = n
          · rw [e]; exact hn
          · exact h i om
        · exact .inr ⟨n, by omega, hn, h⟩
      · exact .inr ⟨k, by omega, h2, h3⟩
  rcases h g.length with h | ⟨k, h1, h2, h3⟩
  · exact ⟨-1, .inl ⟨rfl, h⟩⟩
  · exact ⟨k, .inr ⟨k, rfl, h1, h2, h3⟩⟩
theorem GV.rch {l : List Ty} {fs : List Ft} {g : List Nd} (h : GV l fs g) : ∀ i, i < g.length → Rch g i := by
  obtain ⟨r, hr⟩ := unr_ex g
  have hu := h.u
  rw [← unr_is hr] at hu
  rcases hr with ⟨_, h3⟩ | ⟨k, h3, _⟩
  · exact h3
  · exact absurd (show 0 ≤ r by omega) hu
structure Turn (g gt : List Nd) (σ ρ : Nat → Nat) : Prop where
  len : gt.length = g.length
  z : σ 0 = 0
  lt : ∀ i, i < g.length → σ i < g.length
  rl : ∀ j, j < g.length → ρ j < g.length ∧ σ (ρ j) = j
  lr : ∀ i, i < g.length → ρ (σ i) = i
  nd : ∀ i, i < g.length → nd gt (σ i) = trN σ (nd g i)
section turn
variable {g gt : List Nd} {σ ρ : Nat → Nat}
theorem Turn.inj (t : Turn g gt σ ρ) {x y : Nat} (hx : x < g.length) (hy : y < g.length) (h : σ x = σ y) : x = y := by rw [← t.lr x hx, ← t.lr y hy, h]
theorem Turn.succ (t : Turn g gt σ ρ) {i : Nat} (hi : i < g.length) : succN gt (σ i) = (succN g i).map σ := by
  unfold succN; rw [t.nd i hi]; simp [trN]
theorem Turn.dl (t : Turn g gt σ ρ) (hr : ∀ i, i < g.length → ∀ y ∈ succN g i, y < g.length) {is a b : List Nat} (h : DL g is a b) : (∀ i ∈ is, i < g.length) → (∀ x ∈ b, x < g.length) → DL gt (is.map σ) (a.map σ) (b.map σ) := by
  induction h with
  | nil => exact fun _ _ => .nil
  | old h _ ih => exact fun hi hb => .old (List.mem_map_of_mem h) (ih (fun i h => hi i (List.mem_cons_of_mem _ h)) hb)
  | new h s u ihs iht =>
    intro hi hb
    rename_i i is o o1 o'
    have hil := hi i (List.mem_cons_self ..)
    have ho1 : ∀ x ∈ o1, x < g.length := fun x hx => hb x (u.sub _ hx)
    refine .new (fun hm => ?_) ?_ (iht (fun i h => hi i (List.mem_cons_of_mem _ h)) hb)
    · obtain ⟨y, hy, e⟩ := List.mem_map.1 hm
      have hyl := ho1 y (s.sub _ (List.mem_append_left _ hy))
      exact h (t.inj hyl hil e ▸ hy)
    · have := ihs (hr i hil) ho1
      rw [List.map_append] at this
      rw [t.succ hil]
      exact this
theorem Turn.rch (t : Turn g gt σ ρ) (hr : ∀ i, i < g.length → ∀ y ∈ succN g i, y < g.length) (hp : 0 < g.length) {i : Nat} (h : Rch g i) : i < g.length ∧ Rch gt (σ i) := by
  induction h with
  | zero => exact ⟨hp, by rw [t.z]; exact .zero⟩
  | step h hi hx ih =>
    rename_i i x
    refine ⟨hr i hi _ (by simp only [succN, nd_eq hi, List.mem_map]; exact ⟨x, hx, rfl⟩), ?_⟩
    have hlt : σ i < gt.length := by rw [t.len]; exact t.lt i hi
    have e := t.nd i hi
    rw [nd_eq hlt, nd_eq hi] at e
    have := Rch.step (x := (x.1, ((σ x.2.toNat : Nat) : Int))) ih.2 hlt (by rw [e]; exact List.mem_map.2 ⟨x, hx, rfl⟩)
    simpa using this
end turn
end Go.Proofs.YteenmolhopbpeaaDoor
namespace Go.Proofs.YteenmolhopbpeaaDoor
open Go.RowKit
structure TrR (g : List Nd) (r : Nat) (o : List Nat) : Prop where
  dl : DL g [r] [] o
  ok : OOk g.length o
  nodup : o.Nodup
  has : r ∈ o
  zero : o.idxOf r = 0
  clo : ∀ x ∈ o, ∀ t ∈ succN g x, t ∈ o
theorem DL.within {g : List Nd} {o : List Nat} (hc : ∀ x ∈ o, ∀ t ∈ succN g x, t ∈ o) {is a b : List Nat} (h : DL g is a b) : (∀ i ∈ is, i ∈ o) → (∀ x ∈ a, x ∈ o) → ∀ x ∈ b, x ∈ o := by
  induction h with
  | nil => exact fun _ h => h
  | old h t ih => exact fun hi ha => ih (fun i h => hi i (List.mem_cons_of_mem _ h)) ha
  | new h s t ihs iht =>
    intro hi ha
    have hio := hi _ (List.mem_cons_self ..)
    refine iht (fun i h => hi i (List.mem_cons_of_mem _ h)) (ihs (hc _ hio) (fun x hx => ?_))
    rcases List.mem_append.1 hx with hx | hx
    · exact ha x hx
    · rw [List.mem_singleton.1 hx]; exact hio
section sub
variable {g : List Nd} {r : Nat} {o : List Nat}
theorem TrR.mem (t : TrR g r o) {x : Nat} (hx : x ∈ o) {y : Int × Int} (hy : y ∈ (nd g x).ln) : y.2.toNat ∈ o := t.clo x hx _ (by simp only [succN, List.mem_map]; exact ⟨y, hy, rfl⟩)
theorem TrR.lt (t : TrR g r o) {x : Nat} (hx : x ∈ o) : x < g.length := t.ok.lt x hx
theorem TrR.dl2 (t : TrR g r o) {c : Nat} {o2 : List Nat} (hc : c ∈ o) (h2 : DL g [c] [] o2) : DL (canG g o) [o.idxOf c] [] (o2.map (o.idxOf ·)) :=
  h2.map t.clo (h2.within t.clo (fun i hi => by rw [List.mem_singleton.1 hi]; exact hc) (fun x hx => by cases hx))
end sub
section comp
variable {l : List Ty} {fs : List Ft} {g : List Nd} {p q : List Int}
end comp
end Go.Proofs.YteenmolhopbpeaaDoor
