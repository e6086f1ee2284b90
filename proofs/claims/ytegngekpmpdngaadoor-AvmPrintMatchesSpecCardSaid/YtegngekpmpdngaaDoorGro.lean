/- What these functions of the program compute, at every world: glosswright/glosswrightlaw3.pairOf. What these functions of the program compute, at every world: glosswright/graph.From$1. The engine's fourth part: a check of a pointer, a slice that owns its cells opened and closed again, rows of cells told by a list. A graph in memory that nobody else can reach: its nodes may be written in place. Types and links apart. No program in sight. -/
import Derived.Test.YtegngekpmpdngaaDoorU
import Derived.Test.YtegngekpmpdngaaDoorGVal
import Derived.Test.YtegngekpmpdngaaDoorDfs
import Derived.Test.YtegngekpmpdngaaDoorEng2
import Derived.Lib.AppendZerosOnto
namespace Go.Proofs.YtegngekpmpdngaaDoor
open Go.RowKit
theorem ints_of_blk {w : World} {b t : Nat} (xs : List Int) (h : Blk w b t (xs.map (Value.int .i64)).toArray) (hl : xs.length ≤ maxI) : IntsIn w (some ⟨b, 0, none⟩) xs :=
  ⟨hl, fun _ => ⟨b, 0, rfl, h.lt, fun k hk => h.cell (by simp [hk])⟩⟩
theorem feats_of_blk {w : World} {b t : Nat} (fs : List Ft) (h : Blk w b t (fs.flatMap (fun f => [Value.string f.name, .int .i64 f.of, .int .i64 f.val])).toArray) (hl : fs.length ≤ maxI) : FeatsIn w (some ⟨b, 0, none⟩) fs := by
  refine ⟨hl, fun _ => ⟨b, 0, rfl, h.lt, fun k hk => ?_⟩⟩
  have key : ∀ (l : List Ft) (k : Nat) (hk : k < l.length) (j : Nat) (v : Value), [Value.string (l[k]).name, .int .i64 (l[k]).of, .int .i64 (l[k]).val][j]? = some v → (l.flatMap (fun f => [Value.string f.name, .int .i64 f.of, .int .i64 f.val]))[k * 3 + j]? = some v := by
    intro l
    induction l with
    | nil => intro k hk; simp at hk
    | cons a r ih =>
      intro k hk j v hj
      match k, hk with
      | 0, _ =>
        have hj3 : j < 3 := (List.getElem?_eq_some_iff.1 hj).1
        rw [List.flatMap_cons, List.getElem?_append_left (by simpa using hj3)]
        simpa using hj
      | k + 1, hk =>
        rw [List.flatMap_cons, List.getElem?_append_right (by simp; omega)]
        have := ih k (by simpa using hk) j v hj
        have e : (k + 1) * 3 + j - [Value.string a.name, .int .i64 a.of, .int .i64 a.val].length = k * 3 + j := by simp; omega
        rw [e]; exact this
  intro j v hj
  have := key fs k hk j v hj
  exact h.cell (by simpa using this)
inductive TyVs (w : World) : List Ty → List Value → Prop
  | nil : TyVs w [] []
  | cons {t : Ty} {l : List Ty} {vs : List Value} {A : Option Addr} {c : Nat} (h : IntsIn w A t.par) (r : TyVs w l vs) : TyVs w (t :: l) (.string t.name :: .slice A t.par.length c :: vs)
theorem TyVs.get {w : World} {l : List Ty} {vs : List Value} (h : TyVs w l vs) : ∀ k (hk : k < l.length), ∃ A c, vs[k * 2]? = some (.string (l[k]).name) ∧ vs[k * 2 + 1]? = some (.slice A (l[k]).par.length c) ∧ IntsIn w A (l[k]).par := by
  induction h with
  | nil => intro k hk; simp at hk
  | cons h r ih =>
    intro k hk
    match k, hk with
    | 0, _ => exact ⟨_, _, rfl, rfl, h⟩
    | k + 1, hk =>
      obtain ⟨A, c, h1, h2, h3⟩ := ih k (by simpa using hk)
      refine ⟨A, c, ?_, ?_, h3⟩
      · rw [show (k + 1) * 2 = k * 2 + 1 + 1 from by omega]; simpa using h1
      · rw [show (k + 1) * 2 + 1 = k * 2 + 1 + 1 + 1 from by omega]; simpa using h2
theorem types_of_blk {w : World} {b t : Nat} {l : List Ty} {vs : List Value} (h : Blk w b t vs.toArray) (hv : TyVs w l vs) (hl : l.length ≤ maxI) : TypesIn w (some ⟨b, 0, none⟩) l :=
  ⟨hl, fun _ => ⟨b, 0, rfl, h.lt, fun k hk => by
    obtain ⟨A, c, h1, h2, h3⟩ := hv.get k hk
    refine ⟨A, c, h.range (fun j v hj => ?_), h3⟩
    match j, hj with
    | 0, hj => cases hj; simpa using h1
    | 1, hj => cases hj; simpa using h2
    | _ + 2, hj => cases hj⟩⟩
theorem ints_nil (w : World) (A : Option Addr) : IntsIn w A [] := ⟨Nat.zero_le _, fun h => absurd rfl h⟩
def pairT : List Ty := [⟨⟨#[116, 111, 112]⟩, []⟩, ⟨⟨#[97]⟩, [0]⟩, ⟨⟨#[98]⟩, [0]⟩, ⟨⟨#[99]⟩, [1]⟩]
def pairF : List Ft := [⟨⟨#[102]⟩, 1, 0⟩, ⟨⟨#[103]⟩, 1, 0⟩]
theorem pair_fault : hierFault pairT pairF = (0, 0) := by decide +kernel
theorem sz77_GLaw : (Tryd.prog.info? 77).map (·.size) = some 2 := by kernel_rfl
theorem ze25 : (Tryd.prog.info? 25).map (·.zero) = some (some (.agg #[.slice none 0 0, .slice none 0 0])) := by kernel_rfl
theorem ze77_GLaw : (Tryd.prog.info? 77).map (·.zero) = some (some (.agg #[.string ⟨#[]⟩, .slice none 0 0])) := by kernel_rfl
theorem pair_any (w : World) : Calls Tryd.prog 10 #[] w fun e w' => (∃ A B, e = .returned (.agg #[.slice A 4 4, .slice B 2 2]) ∧ TypesIn w' A pairT ∧ FeatsIn w' B pairF) ∧ Bel w w' := by
 refine enter Tryd.func10 Tryd.ntmps10 rfl (Nat.le_of_ble_eq_true rfl) ?_
 have hB : Bel w w := Below.refl _ _
 refine c_seq (c_region ?_)
 refine wl_al (cs := #[.slice none 0 0, .slice none 0 0]) ze25 rfl (fun b0 w1 hb0 hs hr => ?_)
 have lo0 := nLT (Bel.size hB) hr
 replace hB := hB.tr0 hs
 clear hs
 clear hr
 refine x_nil (e_S (c_seq (c_region (wl (r_bd1 (v0 := .string _) (fun v0 => #[v0, .slice none 0 0]) rfl kR) ?_))))
 refine wl_bs (cs := #[_]) [(0, .int _ _)] rfl U43 sz3_GLoose ze3_GUnr dE dE kR rfl (fun b2 w2 hb2 hs hr => ?_)
 have or_b0_b2 : b0 < b2 := nLL hb0.lt hr
 have lo2 := nLT (Bel.size hB) hr
 replace hB := hB.tr0 hs
 replace hb0 := hb0.tr0 hs
 clear hs
 clear hr
 refine wl (r_bd2 (v0 := .string _) (v1 := .slice _ _ _) (fun v0 v1 => #[v0, v1]) rfl rfl kR) ?_
 refine wl_bs (cs := #[_]) [(0, .int _ _)] rfl U43 sz3_GLoose ze3_GUnr dE dE kR rfl (fun b4 w3 hb4 hs hr => ?_)
 have or_b0_b4 : b0 < b4 := nLL hb0.lt hr
 have or_b2_b4 : b2 < b4 := nLL hb2.lt hr
 have lo4 := nLT (Bel.size hB) hr
 replace hB := hB.tr0 hs
 replace hb0 := hb0.tr0 hs
 replace hb2 := hb2.tr0 hs
 clear hs
 clear hr
 refine wl (r_bd2 (v0 := .string _) (v1 := .slice _ _ _) (fun v0 v1 => #[v0, v1]) rfl rfl kR) ?_
 refine wl_bs (cs := #[_]) [(0, .int _ _)] rfl U43 sz3_GLoose ze3_GUnr dE dE kR rfl (fun b6 w4 hb6 hs hr => ?_)
 have or_b0_b6 : b0 < b6 := nLL hb0.lt hr
 have or_b2_b6 : b2 < b6 := nLL hb2.lt hr
 have or_b4_b6 : b4 < b6 := nLL hb4.lt hr
 have lo6 := nLT (Bel.size hB) hr
 replace hB := hB.tr0 hs
 replace hb0 := hb0.tr0 hs
 replace hb2 := hb2.tr0 hs
 replace hb4 := hb4.tr0 hs
 clear hs
 clear hr
 refine wl (r_bd2 (v0 := .string _) (v1 := .slice _ _ _) (fun v0 v1 => #[v0, v1]) rfl rfl kR) ?_
 refine wl_bs (cs := #[_, _, _, _, _, _, _, _]) [(0, .agg _), (1, .agg _), (2, .agg _), (3, .agg _)] rfl U22 sz77_GLaw ze77_GLaw dE dE kR rfl (fun b8 w5 hb8 hs hr => ?_)
 have or_b0_b8 : b0 < b8 := nLL hb0.lt hr
 have or_b2_b8 : b2 < b8 := nLL hb2.lt hr
 have or_b4_b8 : b4 < b8 := nLL hb4.lt hr
 have or_b6_b8 : b6 < b8 := nLL hb6.lt hr
 have lo8 := nLT (Bel.size hB) hr
 replace hB := hB.tr0 hs
 replace hb0 := hb0.tr0 hs
 replace hb2 := hb2.tr0 hs
 replace hb4 := hb4.tr0 hs
 replace hb6 := hb6.tr0 hs
 clear hs
 clear hr
 refine wl (r_bd3 (v0 := .string _) (v1 := .int _ _) (v2 := .int _ _) (fun v0 v1 v2 => #[v0, v1, v2]) rfl rfl rfl kR) (wl (r_bd3 (v0 := .string _) (v1 := .int _ _) (v2 := .int _ _) (fun v0 v1 v2 => #[v0, v1, v2]) rfl rfl rfl kR) ?_)
 refine wl_bs (cs := #[_, _, _, _, _, _]) [(0, .agg _), (1, .agg _)] rfl U23 sz63_GVal ze63_GVal dE dE kR rfl (fun b11 w6 hb11 hs hr => ?_)
 have or_b0_b11 : b0 < b11 := nLL hb0.lt hr
 have or_b2_b11 : b2 < b11 := nLL hb2.lt hr
 have or_b4_b11 : b4 < b11 := nLL hb4.lt hr
 have or_b6_b11 : b6 < b11 := nLL hb6.lt hr
 have or_b8_b11 : b8 < b11 := nLL hb8.lt hr
 have lo11 := nLT (Bel.size hB) hr
 replace hB := hB.tr0 hs
 replace hb0 := hb0.tr0 hs
 replace hb2 := hb2.tr0 hs
 replace hb4 := hb4.tr0 hs
 replace hb6 := hb6.tr0 hs
 replace hb8 := hb8.tr0 hs
 clear hs
 clear hr
 refine wl (r_bd2 (v0 := .slice _ _ _) (v1 := .slice _ _ _) (fun v0 v1 => #[v0, v1]) rfl rfl kR) ?_
 refine wl_stW hb0 rfl rfl sz25 rfl oneA (fun w7 hq hs => ?_)
 replace hB := hB.tr1 hs lo0
 replace hb2 := hb2.tr1 hs om
 replace hb4 := hb4.tr1 hs om
 replace hb6 := hb6.tr1 hs om
 replace hb8 := hb8.tr1 hs om
 replace hb11 := hb11.tr1 hs om
 clear hs
 replace hb0 := hq
 refine x_nil (e_S (c_ret (fin1 (.inl rfl) rfl (rr_cell U25 rfl rfl hb0.range0 sz25) ?_)))
 exact ⟨⟨_, _, rfl, types_of_blk (l := pairT) hb8 (.cons (ints_nil _ _) (.cons (ints_of_blk [0] hb2 dE) (.cons (ints_of_blk [0] hb4 dE) (.cons (ints_of_blk [1] hb6 dE) .nil)))) dE, feats_of_blk pairF hb11 dE⟩, hB⟩
end Go.Proofs.YtegngekpmpdngaaDoor
namespace Go.Proofs.YtegngekpmpdngaaDoor
open Go.RowKit
theorem fn82 : callable Tryd.prog 82 = true := by kernel_rfl
theorem sz43_GVisit : (Tryd.prog.info? 43).map (·.size) = some 1 := by kernel_rfl
set_option maxHeartbeats 2000000 in
theorem visit_step {w0 : World} {G : Option Addr} {cg nf bP bQ bG bV bn base : Nat} {gr : List Nd} (hG : NodesIn w0 G gr) (hk : GOk2 nf gr) (hlo : w0.heap.size ≤ base) (_l0P : w0.heap.size ≤ bP) (l0Q : w0.heap.size ≤ bQ) (_l0G : w0.heap.size ≤ bG) (_l0V : w0.heap.size ≤ bV) (l0n : w0.heap.size ≤ bn) (lP : bP < base) (lQ : bQ < base) (lG : bG < base) (lV : bV < base) (ln : bn < base) (nPQ : bP ≠ bQ) (nPn : bP ≠ bn) (nQn : bQ ≠ bn) (nGQ : bG ≠ bQ) (nGn : bG ≠ bn) (nVQ : bV ≠ bQ) (nVn : bV ≠ bn) {o : List Nat} {A : Option Addr} {cap : Nat} {w : World} (hB : Bel w0 w) (hbs : base ≤ w.heap.size) (hok : OOk gr.length o) (hbP : Blk w bP 43 #[.slice (some ⟨bn, 0, none⟩) gr.length gr.length]) (hbQ : Blk w bQ 43 #[.slice A (o).length cap]) (hbG : Blk w bG 28 #[.slice G gr.length cg]) (hbV : Blk w bV 123 #[.func (.func 82) #[] #[.pointer (some ⟨bP, 0, none⟩), .pointer (some ⟨bQ, 0, none⟩), .pointer (some ⟨bG, 0, none⟩), .pointer (some ⟨bV, 0, none⟩)]]) (hbn : Blk w bn 3 (row gr.length (fun x => .int .i64 (numO o x)))) (ho : Own w base 3 1 A (o).length cap (oV (o))) {i : Nat} (hin : i < gr.length) (IH : ∀ (t : Nat) (o2 : List Nat) (A2 : Option Addr) (cap2 : Nat) (w2 : World), lackN gr.length (memB o2) < lackN gr.length (memB o) → t < gr.length → Bel w0 w2 → base ≤ w2.heap.size → OOk gr.length o2 → Blk w2 bP 43 #[.slice (some ⟨bn, 0, none⟩) gr.length gr.length] → Blk w2 bQ 43 #[.slice A2 (o2).length cap2] → Blk w2 bG 28 #[.slice G gr.length cg] → Blk w2 bV 123 #[.func (.func 82) #[] #[.pointer (some ⟨bP, 0, none⟩), .pointer (some ⟨bQ, 0, none⟩), .pointer (some ⟨bG, 0, none⟩), .pointer (some ⟨bV, 0, none⟩)]] → Blk w2 bn 3 (row gr.length (fun x => .int .i64 (numO o2 x))) → Own w2 base 3 1 A2 (o2).length cap2 (oV (o2)) → Calls Tryd.prog 82 #[.int .i64 (t : Nat), .pointer (some ⟨bP, 0, none⟩), .pointer (some ⟨bQ, 0, none⟩), .pointer (some ⟨bG, 0, none⟩), .pointer (some ⟨bV, 0, none⟩)] w2 fun e w' => e = .returned (.tuple #[]) ∧ ∃ o' A' cap', DL gr [t] o2 o' ∧ Blk w' bQ 43 #[.slice A' o'.length cap'] ∧ Own w' base 3 1 A' o'.length cap' (oV o') ∧ Blk w' bn 3 (row gr.length (fun x => .int .i64 (numO o' x))) ∧ Chg base [bQ, bn] w2 w') : Calls Tryd.prog 82 #[.int .i64 (i : Nat), .pointer (some ⟨bP, 0, none⟩), .pointer (some ⟨bQ, 0, none⟩), .pointer (some ⟨bG, 0, none⟩), .pointer (some ⟨bV, 0, none⟩)] w fun e w' => e = .returned (.tuple #[]) ∧ ∃ o' A' cap', DL gr [i] o o' ∧ Blk w' bQ 43 #[.slice A' o'.length cap'] ∧ Own w' base 3 1 A' o'.length cap' (oV o') ∧ Blk w' bn 3 (row gr.length (fun x => .int .i64 (numO o' x))) ∧ Chg base [bQ, bn] w w' := by
 have hCS : Chg base [bQ, bn] w w ∧ base ≤ w.heap.size := ⟨Chg.refl _ _ _, hbs⟩
 have hn6 := hk.le
 have hrg := succ_rng2 hk
 have hol := hok.cnt
 refine enter Tryd.func82 Tryd.ntmps82 rfl (Nat.le_of_ble_eq_true rfl) (c_seq (c_seq (c_region (wl (r_ld1 (v := .slice _ _ _) U43 rfl rfl (hbP.cell rfl)) (wmI rfl ?_)))))
 refine wl (r_ia (i := i) U43 sz3_GLoose rfl rfl hin rfl) (wl (r_ld1 (v := .int _ _) U3 rfl rfl (hbn.cell (row_get hin))) (wl (r_geq rfl rfl) (x_nil (e_S ?_))))
 refine c_ifd rfl (fun c12 => ?_) (fun c12 => ?_)
 ·
  refine c_ret (e_Sr (fin0 (.inl rfl) rfl  ?_))
  exact ⟨rfl, o, A, cap, .old (numO_pos c12) .nil, hbQ, ho, hbn, hCS.1⟩
 have hni := numO_neg c12
 have hok2 := hok.snoc hin hni
 have hol2 := hok2.cnt
 refine c_skip (e_S (c_seq (c_region (wl (r_ld1 (v := .slice _ _ _) U43 rfl rfl (hbP.cell rfl)) (wmI rfl ?_)))))
 refine wl (r_ld1 (v := .slice _ _ _) U43 rfl rfl (hbQ.cell rfl)) (wl (r_len U43 rfl) (wl (r_ia (i := i) U43 sz3_GLoose rfl rfl hin rfl) ?_))
 refine wl_st1 (v := .int _ _) hbn rfl rfl sz3_GLoose (by rw [row_size]; omega) rfl row_set (fun w1 hq hs => ?_)
 replace hB := hB.tr1 hs l0n
 replace hbP := hbP.tr1 hs om
 replace hbQ := hbQ.tr1 hs om
 replace hbG := hbG.tr1 hs om
 replace hbV := hbV.tr1 hs om
 replace ho := ho.tr1 hs (fun g hg => by have := (ho.lt g hg).1; (try have := or_ho_bn g hg); (try simp only [aL] at hg); (try simp only [List.mem_singleton] at hg); omega)
 replace hCS := And.intro (hCS.1.st hs hCS.2 (fun g hg => by have h1 := List.mem_singleton.1 hg; first | (left; rw [h1]; simp; done) | (right; omega))) (nLT hCS.2 (Same.size hs))
 clear hs
 replace hbn := hq
 rw [row_num hni] at hbn
 refine x_nil (e_S (c_seq (c_region (wl (r_ld1 (v := .slice _ _ _) U43 rfl rfl (hbQ.cell rfl)) (wmI rfl ?_)))))
 refine wl_bs (cs := #[_]) [(0, .int _ _)] rfl U43 sz3_GLoose ze3_GUnr dE dE kR rfl (fun b20 w2 hb20 hs hr => ?_)
 have or_bP_b20 : bP < b20 := nLL hbP.lt hr
 have or_bQ_b20 : bQ < b20 := nLL hbQ.lt hr
 have or_bG_b20 : bG < b20 := nLL hbG.lt hr
 have or_bV_b20 : bV < b20 := nLL hbV.lt hr
 have or_bn_b20 : bn < b20 := nLL hbn.lt hr
 have or_ho_b20 := fun g hg => nLL (ho.lt g hg).2 hr
 have or_hCS_b20 := (nLT hCS.2 hr)
 have lo20 := nLT (Bel.size hB) hr
 replace hB := hB.tr0 hs
 replace hbP := hbP.tr0 hs
 replace hbQ := hbQ.tr0 hs
 replace hbG := hbG.tr0 hs
 replace hbV := hbV.tr0 hs
 replace hbn := hbn.tr0 hs
 replace ho := ho.tr0 hs
 replace hCS := And.intro (hCS.1.st hs hCS.2 (by simp)) (nLT hCS.2 (Same.size hs))
 clear hs
 clear hr
 refine wl_app U43 in3 rfl dE ho hb20 rfl rfl rfl oneA dE om om hCS.2 (fun g21 cap21 w3 ho21 hs hg => ?_)
 have ne_ho21_bP : g21 ≠ bP := fun e => by
  have hl := hbP.lt
  rcases hg with hg | hg
  · have h1 := ho.lt g21 (by rw [hg]; exact List.mem_singleton.2 rfl)
    (try have := or_ho_bP g21 (by rw [hg]; exact List.mem_singleton.2 rfl)); omega
  · omega
 have ne_ho21_bQ : g21 ≠ bQ := fun e => by
  have hl := hbQ.lt
  rcases hg with hg | hg
  · have h1 := ho.lt g21 (by rw [hg]; exact List.mem_singleton.2 rfl)
    (try have := or_ho_bQ g21 (by rw [hg]; exact List.mem_singleton.2 rfl)); omega
  · omega
 have ne_ho21_bG : g21 ≠ bG := fun e => by
  have hl := hbG.lt
  rcases hg with hg | hg
  · have h1 := ho.lt g21 (by rw [hg]; exact List.mem_singleton.2 rfl)
    (try have := or_ho_bG g21 (by rw [hg]; exact List.mem_singleton.2 rfl)); omega
  · omega
 have ne_ho21_bV : g21 ≠ bV := fun e => by
  have hl := hbV.lt
  rcases hg with hg | hg
  · have h1 := ho.lt g21 (by rw [hg]; exact List.mem_singleton.2 rfl)
    (try have := or_ho_bV g21 (by rw [hg]; exact List.mem_singleton.2 rfl)); omega
  · omega
 have ne_ho21_bn : g21 ≠ bn := fun e => by
  have hl := hbn.lt
  rcases hg with hg | hg
  · have h1 := ho.lt g21 (by rw [hg]; exact List.mem_singleton.2 rfl)
    (try have := or_ho_bn g21 (by rw [hg]; exact List.mem_singleton.2 rfl)); omega
  · omega
 replace hB := hB.tr hs (fun g hg => nLT hlo (ho.lt g hg).1)
 replace hbP := hbP.tr hs (fun hx => by have := (ho.lt _ hx).1; (try have := or_ho_bP _ hx); omega)
 replace hbQ := hbQ.tr hs (fun hx => by have := (ho.lt _ hx).1; (try have := or_ho_bQ _ hx); omega)
 replace hbG := hbG.tr hs (fun hx => by have := (ho.lt _ hx).1; (try have := or_ho_bG _ hx); omega)
 replace hbV := hbV.tr hs (fun hx => by have := (ho.lt _ hx).1; (try have := or_ho_bV _ hx); omega)
 replace hbn := hbn.tr hs (fun hx => by have := (ho.lt _ hx).1; (try have := or_ho_bn _ hx); omega)
 replace hCS := And.intro (hCS.1.st hs hCS.2 (fun g hg => .inr ((ho).lt g hg).1)) (nLT hCS.2 (Same.size hs))
 refine wl_st1 (v := .slice _ _ _) hbQ rfl rfl sz43_GVisit (by first | decide | simp) rfl rfl (fun w4 hq hs => ?_)
 replace hB := hB.tr1 hs l0Q
 replace hbP := hbP.tr1 hs om
 replace hbG := hbG.tr1 hs om
 replace hbV := hbV.tr1 hs om
 replace hbn := hbn.tr1 hs om
 replace hCS := And.intro (hCS.1.st hs hCS.2 (fun g hg => by have h1 := List.mem_singleton.1 hg; first | (left; rw [h1]; simp; done) | (right; omega))) (nLT hCS.2 (Same.size hs))
 replace ho21 := ho21.tr1 hs (fun g hg => by have := (ho21.lt g hg).1; (try have := or_ho21_bQ g hg); (try simp only [aL] at hg); (try simp only [List.mem_singleton] at hg); omega)
 clear hs
 replace hbQ := hq
 replace hbQ : Blk w4 bQ 43 #[.slice (some ⟨g21, 0, none⟩) (o ++ [i]).length cap21] := by rw [← sl_oV]; exact hbQ
 replace ho21 := own_oV ho21
 refine x_nil (e_S (c_seq ?_))
 obtain ⟨nb, no, LA, lc, rfl, hnb, hnr, hln⟩ := hG.at_ hB hin
 have hmx := hln.1
 unfold maxI at hmx
 refine c_region (wl (r_fa U28 sz26 dE rfl rfl rfl) (wl (r_ld1 (v := .slice _ _ _) U26 rfl rfl (hbG.cell rfl)) (wmI rfl (wl (r_ia (i := i) U26 sz33 rfl rfl hin rfl) (wl (r_fa U33 sz31 dE rfl rfl rfl) ?_)))))
 refine wl (r_ld1 (v := .slice _ _ _) U31 rfl rfl (hnr 1 _ rfl)) (wl (r_len U31 rfl) (wmI rfl (x_nil (e_S (c_block ?_)))))
 refine c_loopS [7, 29, 30, 31, 32, 33, 34, 35, 36, 37] (fun m g w' => ∃ (j : Nat) (o2 : List Nat) (A2 : Option Addr) (cap2 : Nat), j ≤ (gr[i]'hin).ln.length ∧ m = (gr[i]'hin).ln.length - j ∧ g 29 = .int .i64 j ∧ DL gr ((succN gr i).take j) (o ++ [i]) o2 ∧ Bel w0 w' ∧ Blk w' bP 43 #[.slice (some ⟨bn, 0, none⟩) gr.length gr.length] ∧ Blk w' bQ 43 #[.slice A2 (o2).length cap2] ∧ Blk w' bG 28 #[.slice (some ⟨nb, no, none⟩) gr.length cg] ∧ Blk w' bV 123 #[.func (.func 82) #[] #[.pointer (some ⟨bP, 0, none⟩), .pointer (some ⟨bQ, 0, none⟩), .pointer (some ⟨bG, 0, none⟩), .pointer (some ⟨bV, 0, none⟩)]] ∧ Blk w' bn 3 (row gr.length (fun x => .int .i64 (numO o2 x))) ∧ Own w' base 3 1 A2 (o2).length cap2 (oV (o2)) ∧ (Chg base [bQ, bn] w w' ∧ base ≤ w'.heap.size)) ((gr[i]'hin).ln.length) ?_ (fun m g4 w5 hI => ?_)
 ·
  exact ⟨0, _, _, _, Nat.zero_le _, rfl, rfl, .nil, hB, hbP, hbQ, hbG, hbV, hbn, ho21, hCS⟩
 obtain ⟨j, o2, A2, cap2, hj, hm, h29, hD, hB, hbP, hbQ, hbG, hbV, hbn, ho, hCS⟩ := hI
 refine c_know 29 (.int .i64 j) h29 nu (c_seq (c_region (wl (r_lss rfl rfl) (x_nil (e_S ?_)))))
 refine c_seq ?_
 refine c_ifd rfl (fun c30 => ?_) (fun c30 => ?_)
 ·
  have hjl : j < (gr[i]'hin).ln.length := by omega
  obtain ⟨lb, lof, rfl, hlb, hlr⟩ := hln.at_ hB hjl
  obtain ⟨t, ht, htl⟩ : ∃ t : Nat, ((gr[i]'hin).ln[j]'hjl).2 = (t : Int) ∧ t < gr.length := by
    have h1 := hk.ln i hin _ (List.getElem_mem hjl)
    exact ⟨(((gr[i]'hin).ln[j]'hjl).2).toNat, by omega, by omega⟩
  obtain ⟨hok3, s3, hs3⟩ := hD.ok hrg (fun x hx => hrg i hin x (List.mem_of_mem_take hx)) hok2
  have hlk : lackN gr.length (memB o2) < lackN gr.length (memB o) := by
    rw [hs3]; exact Nat.lt_of_le_of_lt (lack_more _ _ _) (lack_snoc hin hni)
  refine c_skip (e_S (c_seq (c_block (c_seq (c_region ?_)))))
  refine wl (r_ia (i := j) U31 sz30 rfl rfl om rfl) (wl (r_ldS U30 rfl rfl hlr sz30) ?_)
  refine wl_al (cs := #[.int .i64 0, .int .i64 0]) ze30 rfl (fun b7 w6 hb7 hs hr => ?_)
  have or_bP_b7 : bP < b7 := nLL hbP.lt hr
  have or_bQ_b7 : bQ < b7 := nLL hbQ.lt hr
  have or_bG_b7 : bG < b7 := nLL hbG.lt hr
  have or_bV_b7 : bV < b7 := nLL hbV.lt hr
  have or_bn_b7 : bn < b7 := nLL hbn.lt hr
  have or_hCS_b7 := (nLT hCS.2 hr)
  have or_ho_b7 := fun g hg => nLL (ho.lt g hg).2 hr
  have lo7 := nLT (Bel.size hB) hr
  replace hB := hB.tr0 hs
  replace hbP := hbP.tr0 hs
  replace hbQ := hbQ.tr0 hs
  replace hbG := hbG.tr0 hs
  replace hbV := hbV.tr0 hs
  replace hbn := hbn.tr0 hs
  replace hCS := And.intro (hCS.1.st hs hCS.2 (by simp)) (nLT hCS.2 (Same.size hs))
  replace ho := ho.tr0 hs
  clear hs
  clear hr
  refine wl_stW hb7 rfl rfl sz30 rfl oneA (fun w7 hq hs => ?_)
  replace hB := hB.tr1 hs lo7
  replace hbP := hbP.tr1 hs om
  replace hbQ := hbQ.tr1 hs om
  replace hbG := hbG.tr1 hs om
  replace hbV := hbV.tr1 hs om
  replace hbn := hbn.tr1 hs om
  replace hCS := And.intro (hCS.1.st hs hCS.2 (fun g hg => by have h1 := List.mem_singleton.1 hg; first | (left; rw [h1]; simp; done) | (right; omega))) (nLT hCS.2 (Same.size hs))
  replace ho := ho.tr1 hs (fun g hg => by have := (ho.lt g hg).1; (try have := or_ho_b7 g hg); (try simp only [aL] at hg); (try simp only [List.mem_singleton] at hg); omega)
  clear hs
  replace hb7 := hq
  refine x_nil (e_S ?_)
  rw [ht] at hb7
  refine c_region (wl (r_ld1 (v := .func _ _ _) U123 rfl rfl (hbV.cell rfl)) (wl (r_fa U30 sz3_GLoose dE rfl rfl rfl) (wl (r_ld1 (v := .int _ _) U3 rfl rfl (hb7.cell rfl)) ?_)))
  refine wl_clv rfl fn82 (IH t o2 A2 cap2 _ hlk htl hB hCS.2 hok3 hbP hbQ hbG hbV hbn ho) rfl rfl (fun e' w8 hr => ?_)
  obtain ⟨rfl, o3, A3, cap3, hD3, hbQ3, ho3, hbn3, hC3⟩ := hr
  replace hB := hB.chg hC3 hlo (by simp [l0Q, l0n])
  replace hbP := hbP.chg hC3 lP (by simp [nPQ, nPn])
  replace hbG := hbG.chg hC3 lG (by simp [nGQ, nGn])
  replace hbV := hbV.chg hC3 lV (by simp [nVQ, nVn])
  replace hbQ := hbQ3
  replace hbn := hbn3
  replace ho := ho3
  replace hCS := And.intro (hCS.1.trans hC3) (nLT hCS.2 hC3.size)
  refine ⟨_, rfl, ?_⟩
  refine x_nil (e_B (e_S (c_region (wl (r_add rfl rfl rfl om) (wmI rfl ?_)))))
  refine x_nil (e_LS ((gr[i]'hin).ln.length - (j + 1)) om agA ?_)
  exact ⟨j + 1, o3, A3, cap3, by omega, rfl, rfl, by rw [take_succN hin hjl ht]; exact hD.append hD3, hB, hbP, hbQ, hbG, hbV, hbn, ho, hCS⟩
 have hjx : j = (gr[i]'hin).ln.length := by omega
 have hfin : DL gr (succN gr i) (o ++ [i]) o2 := by
   have e : (succN gr i).take j = succN gr i := List.take_of_length_le (by simp [succN, nd_eq hin, hjx])
   rw [e] at hD; exact hD
 refine c_exit (e_Sx (e_LSx (e_Bx (fin0 (.inr rfl) rfl  ?_))))
 exact ⟨rfl, o2, A2, cap2, .new hni hfin .nil, hbQ, ho, hbn, hCS.1⟩
theorem visit_any {w0 : World} {G : Option Addr} {cg nf bP bQ bG bV bn base : Nat} {gr : List Nd} (hG : NodesIn w0 G gr) (hk : GOk2 nf gr) (hlo : w0.heap.size ≤ base) (_l0P : w0.heap.size ≤ bP) (l0Q : w0.heap.size ≤ bQ) (_l0G : w0.heap.size ≤ bG) (_l0V : w0.heap.size ≤ bV) (l0n : w0.heap.size ≤ bn) (lP : bP < base) (lQ : bQ < base) (lG : bG < base) (lV : bV < base) (ln : bn < base) (nPQ : bP ≠ bQ) (nPn : bP ≠ bn) (nQn : bQ ≠ bn) (nGQ : bG ≠ bQ) (nGn : bG ≠ bn) (nVQ : bV ≠ bQ) (nVn : bV ≠ bn) : ∀ (m : Nat) (o : List Nat) (A : Option Addr) (cap : Nat) (w : World) (i : Nat), lackN gr.length (memB o) ≤ m → i < gr.length → Bel w0 w → base ≤ w.heap.size → OOk gr.length o → Blk w bP 43 #[.slice (some ⟨bn, 0, none⟩) gr.length gr.length] → Blk w bQ 43 #[.slice A (o).length cap] → Blk w bG 28 #[.slice G gr.length cg] → Blk w bV 123 #[.func (.func 82) #[] #[.pointer (some ⟨bP, 0, none⟩), .pointer (some ⟨bQ, 0, none⟩), .pointer (some ⟨bG, 0, none⟩), .pointer (some ⟨bV, 0, none⟩)]] → Blk w bn 3 (row gr.length (fun x => .int .i64 (numO o x))) → Own w base 3 1 A (o).length cap (oV (o)) → Calls Tryd.prog 82 #[.int .i64 (i : Nat), .pointer (some ⟨bP, 0, none⟩), .pointer (some ⟨bQ, 0, none⟩), .pointer (some ⟨bG, 0, none⟩), .pointer (some ⟨bV, 0, none⟩)] w fun e w' => e = .returned (.tuple #[]) ∧ ∃ o' A' cap', DL gr [i] o o' ∧ Blk w' bQ 43 #[.slice A' o'.length cap'] ∧ Own w' base 3 1 A' o'.length cap' (oV o') ∧ Blk w' bn 3 (row gr.length (fun x => .int .i64 (numO o' x))) ∧ Chg base [bQ, bn] w w' := by
  intro m
  induction m with
  | zero => intro o A cap w i hm hin hB hbs hok h1 h2 h3 h4 h5 h6; exact visit_step hG hk hlo _l0P l0Q _l0G _l0V l0n lP lQ lG lV ln nPQ nPn nQn nGQ nGn nVQ nVn hB hbs hok h1 h2 h3 h4 h5 h6 hin (fun t o2 A2 cap2 w2 hl => by omega)
  | succ m ih => intro o A cap w i hm hin hB hbs hok h1 h2 h3 h4 h5 h6; exact visit_step hG hk hlo _l0P l0Q _l0G _l0V l0n lP lQ lG lV ln nPQ nPn nQn nGQ nGn nVQ nVn hB hbs hok h1 h2 h3 h4 h5 h6 hin (fun t o2 A2 cap2 w2 hl => ih o2 A2 cap2 w2 t om)
end Go.Proofs.YtegngekpmpdngaaDoor
namespace Go.Proofs.YtegngekpmpdngaaDoor
open Go.RowKit
section eng4
variable {P : Program} {Q : Exit → Act → World → Prop} {n : Nat} {f : Fr} {w w' : World} {ops : Array Oper} {rest : List Oper} {d : Tmp} {ty t e : TypeId} {pos : String} {af : Array Edge} {x y : Operand}
theorem r_nc {dst : Option Tmp} {gd : Option (Nat × Bool)} {a : Addr} (hx : ev n f x = .pointer (some a)) :
    RV P n f w ⟨dst, .nilCheck x, ty, pos, af, gd⟩ (.pointer (some a)) w := by simp [RV, execOp, hx]
variable {base sz k cap : Nat} {A : Option Addr} {xs : List Value}
end eng4
end Go.Proofs.YtegngekpmpdngaaDoor
namespace Go.Proofs.YtegngekpmpdngaaDoor
open Go.RowKit
def SameQ (X : List Nat) (w w' : World) : Prop := Same X w w'
theorem SameQ.trans {X : List Nat} {a b c : World} (h : SameQ X a b) {Y : List Nat} (k : Same Y b c) (hy : ∀ g ∈ Y, g ∈ X) : SameQ X a c := Same.trans h (k.weak hy)
structure ChG (Z : Nat → Prop) (w w' : World) : Prop where
  os : w'.os = w.os
  tape : w'.tape = w.tape
  output : w'.output = w.output
  size : w.heap.size ≤ w'.heap.size
  blk : ∀ k, k < w.heap.size → ¬ Z k → w'.heap[k]? = w.heap[k]?
theorem ChG.refl (Z : Nat → Prop) (w : World) : ChG Z w w := ⟨rfl, rfl, rfl, Nat.le_refl _, fun _ _ _ => rfl⟩
theorem ChG.st {Z : Nat → Prop} {Y : List Nat} {a b c : World} (h : ChG Z a b) (k : Same Y b c) (hy : ∀ g ∈ Y, Z g ∨ a.heap.size ≤ g) : ChG Z a c :=
  ⟨k.os.trans h.os, k.tape.trans h.tape, k.output.trans h.output, nLT h.size k.size, fun i hi hx => (k.blk i (nLL hi h.size) (fun hm => (hy i hm).elim hx (fun h2 => by omega))).trans (h.blk i hi hx)⟩
theorem ChG.trans {Z Z' : Nat → Prop} {a b c : World} (h : ChG Z a b) (k : ChG Z' b c) (hz : ∀ g, Z' g → Z g ∨ a.heap.size ≤ g) : ChG Z a c :=
  ⟨k.os.trans h.os, k.tape.trans h.tape, k.output.trans h.output, nLT h.size k.size, fun i hi hx => (k.blk i (nLL hi h.size) (fun hm => (hz i hm).elim hx (fun h2 => by omega))).trans (h.blk i hi hx)⟩
theorem ChG.bel {Z : Nat → Prop} {w w' : World} (h : Bel w w') : ChG Z w w' := ⟨h.os, h.tape, h.output, h.size, fun k hk _ => h.block k hk⟩
def rtG (gr : List Nd) (T : Nat → Int) : List Nd := (List.range gr.length).map (fun i => ⟨T i, (nd gr i).ln⟩)
theorem rtG_len (gr : List Nd) (T : Nat → Int) : (rtG gr T).length = gr.length := by simp [rtG]
theorem rtG_self (gr : List Nd) : rtG gr (fun x => (nd gr x).ty) = gr := by
  refine List.ext_getElem (rtG_len _ _) (fun i h1 h2 => ?_)
  have := nd_eq h2
  simp [rtG, this]
theorem nd_canG {gr : List Nd} {o : List Nat} {x : Nat} (hx : x < o.length) : nd (canG gr o) x = ⟨(nd gr (o.getD x 0)).ty, (nd gr (o.getD x 0)).ln.map (canL o)⟩ := by simp [nd, canG, canN, List.getD, hx]
def GrT (w : World) (lo hi : Nat) (A : Option Addr) (c : Nat) (gr : List Nd) (T : Nat → Int) : Prop :=
  ∃ V : Nat → Value, Own w lo 33 2 A gr.length c (ndV (fun x => .int .i64 (T x)) V gr.length) ∧ (∀ g ∈ aL A, g < hi) ∧ ∀ x, x < gr.length → RowO w lo hi (V x) (nd gr x).ln
def Dis (V : Nat → Value) (n : Nat) : Prop := ∀ x y, x < n → y < n → x ≠ y → ∀ A m c A' m' c', V x = .slice A m c → V y = .slice A' m' c' → ∀ g ∈ aL A, ¬ g ∈ aL A'
theorem Dis.congr {V V' : Nat → Value} {n : Nat} (h : Dis V n) (e : ∀ x, x < n → V x = V' x) : Dis V' n := fun x y hx hy hne A m c A' m' c' h1 h2 => h x y hx hy hne A m c A' m' c' ((e x hx).trans h1) ((e y hy).trans h2)
theorem Dis.snoc {V : Nat → Value} {L : Nat → List (Int × Int)} {w : World} {lo bs k n c : Nat} {A : Option Addr} (h : Dis V k) (hr : ∀ x, x < k → RowO w lo bs (V x) (L x)) (hg : ∀ g ∈ aL A, bs ≤ g) : Dis (fun x => if x = k then .slice A n c else V x) (k + 1) := fun x y hx hy hne A1 m1 c1 A2 m2 c2 h1 h2 g hg1 hg2 => by
  have far : ∀ z, z < k → ∀ A3 m3 c3, V z = .slice A3 m3 c3 → ∀ g ∈ aL A3, g < bs := fun z hz A3 m3 c3 e g hg => by
    obtain ⟨A4, c4, e4, _, h4⟩ := hr z hz
    rw [e] at e4
    cases e4
    exact h4 g hg
  by_cases e : x = k
  · simp only [e, if_true, Value.slice.injEq] at h1
    by_cases e2 : y = k
    · exact hne (by rw [e, e2])
    · simp only [e2, if_false] at h2
      rw [← h1.1] at hg1
      have := far y om _ _ _ h2 g hg2
      have := hg g hg1
      omega
  · simp only [e, if_false] at h1
    by_cases e2 : y = k
    · simp only [e2, if_true, Value.slice.injEq] at h2
      rw [← h2.1] at hg2
      have := far x om _ _ _ h1 g hg1
      have := hg g hg2
      omega
    · simp only [e2, if_false] at h2
      exact h x y om om hne _ _ _ _ _ _ h1 h2 g hg1 hg2
def GrD (w : World) (lo hi : Nat) (A : Option Addr) (c : Nat) (gr : List Nd) (T : Nat → Int) : Prop :=
  ∃ V : Nat → Value, Own w lo 33 2 A gr.length c (ndV (fun x => .int .i64 (T x)) V gr.length) ∧ (∀ g ∈ aL A, g < hi) ∧ (∀ x, x < gr.length → RowO w lo hi (V x) (nd gr x).ln) ∧ Dis V gr.length
section
variable {w w' : World} {lo hi c : Nat} {A : Option Addr} {gr : List Nd} {T : Nat → Int}
theorem GrD.grt (h : GrD w lo hi A c gr T) : GrT w lo hi A c gr T := by obtain ⟨V, h1, h2, h3, _⟩ := h; exact ⟨V, h1, h2, h3⟩
theorem GrD.mk {base bs m : Nat} {V f : Nat → Value} (ho : Own w base 33 2 A m c (ndV f V m)) (hm : gr.length = m) (hb : lo ≤ base) (hf : ∀ x, x < m → f x = .int .i64 (T x)) (hA : ∀ g ∈ aL A, g < hi) (hbs : bs ≤ hi) (hr : ∀ x, x < m → RowO w lo bs (V x) (nd gr x).ln) (hd : Dis V m) : GrD w lo hi A c gr T := by
  subst hm
  refine ⟨V, ?_, hA, fun x hx => (hr x hx).up hbs, hd⟩
  rw [ndV_congr (f' := f) (h' := V) (fun x hx => (hf x hx).symm) (fun _ _ => rfl)]
  exact ho.low hb
theorem GrT.nodes (h : GrT w lo hi A c gr T) : NodesIn w A (rtG gr T) := by
  obtain ⟨V, ho, _, hr⟩ := h
  refine nodes_own (lo := lo) (bs := hi) ho (rtG_len gr T) (fun k hk => ?_) (fun k hk => ?_)
  · simp [rtG]
  · rw [rtG_len] at hk
    have e : ((rtG gr T)[k]'(by rw [rtG_len]; exact hk)).ln = (nd gr k).ln := by simp [rtG]
    rw [e]; exact hr k hk
theorem GrT.cap_le (h : GrT w lo hi A c gr T) : gr.length ≤ c := by obtain ⟨V, ho, _⟩ := h; exact ho.cap_le
theorem GrT.congr (h : GrT w lo hi A c gr T) {T' : Nat → Int} (e : ∀ i, i < gr.length → T i = T' i) : GrT w lo hi A c gr T' := by
  obtain ⟨V, ho, hA, hr⟩ := h
  exact ⟨V, by rw [ndV_congr (f' := fun x => .int .i64 (T x)) (h' := V) (fun x hx => by rw [e x hx]) (fun _ _ => rfl)]; exact ho, hA, hr⟩
theorem GrT.tr {X : List Nat} (h : GrT w lo hi A c gr T) (hs : Same X w w') (hx : ∀ g ∈ X, g < lo ∨ hi ≤ g) : GrT w' lo hi A c gr T := by
  obtain ⟨V, ho, hA, hr⟩ := h
  refine ⟨V, ho.tr hs (fun g hg hm => ?_), hA, fun x hxl => ?_⟩
  · have h1 := hx g hm
    have h2 := (ho.lt g hg).1
    have h3 := hA g hg
    omega
  · obtain ⟨A2, c2, e, h1, h2⟩ := hr x hxl
    refine ⟨A2, c2, e, h1.tr hs (fun g hg hm => ?_), h2⟩
    have h3 := hx g hm
    have h4 := (h1.lt g hg).1
    have h5 := h2 g hg
    omega
theorem GrT.fr {w2 : World} (h : GrT w lo hi A c gr T) (hf : FrSame lo w w2) : GrT w2 lo hi A c gr T := by
  obtain ⟨V, ho, hA, hr⟩ := h
  exact ⟨V, ho.fr (Nat.le_refl _) hf, hA, fun x hx => (hr x hx).fr hf⟩
theorem GrT.up {hi' : Nat} (h : GrT w lo hi A c gr T) (hh : hi ≤ hi') : GrT w lo hi' A c gr T := by
  obtain ⟨V, ho, hA, hr⟩ := h
  exact ⟨V, ho, fun g hg => nLL (hA g hg) hh, fun x hx => (hr x hx).up hh⟩
theorem RowO.low {lo' bs : Nat} {v : Value} {xs : List (Int × Int)} (h : RowO w lo bs v xs) (hl : lo' ≤ lo) : RowO w lo' bs v xs := by
  obtain ⟨A, c, e, h1, h2⟩ := h
  exact ⟨A, c, e, h1.low hl, h2⟩
theorem GrT.low {lo' : Nat} (h : GrT w lo hi A c gr T) (hl : lo' ≤ lo) : GrT w lo' hi A c gr T := by
  obtain ⟨V, ho, hA, hr⟩ := h
  exact ⟨V, ho.low hl, hA, fun x hx => (hr x hx).low hl⟩
theorem GrT.mk {base bs m : Nat} {V f : Nat → Value} (ho : Own w base 33 2 A m c (ndV f V m)) (hm : gr.length = m) (hb : lo ≤ base) (hf : ∀ x, x < m → f x = .int .i64 (T x)) (hA : ∀ g ∈ aL A, g < hi) (hbs : bs ≤ hi) (hr : ∀ x, x < m → RowO w lo bs (V x) (nd gr x).ln) : GrT w lo hi A c gr T := by
  subst hm
  refine ⟨V, ?_, hA, fun x hx => (hr x hx).up hbs⟩
  rw [ndV_congr (f' := f) (h' := V) (fun x hx => (hf x hx).symm) (fun _ _ => rfl)]
  exact ho.low hb
theorem own_of {e : TypeId} {base sz k cap g : Nat} {cur : Array Value} {xs : List Value} (hb : Blk w g e cur) (hbase : base ≤ g) (hk : k ≤ cap) (hm : cap ≤ 9223372036854775807) (hs : cur.size = cap * sz) (hx : cur.toList.take (k * sz) = xs) : Own w base e sz (some ⟨g, 0, none⟩) k cap xs := by
  have hle : k * sz ≤ cap * sz := Nat.mul_le_mul_right sz hk
  subst hx
  exact ⟨by rw [List.length_take, Array.length_toList]; omega, .inr ⟨g, cap, cur, rfl, hbase, hb, hk, by simpa [maxLen] using hm, hs, rfl⟩⟩
theorem own_row2 {b m : Nat} {f h : Nat → Value} (hb : Blk w b 33 (row2 m f h)) (hl : lo ≤ b) (hm : m ≤ 1000000) : Own w lo 33 2 (some ⟨b, 0, none⟩) m m (ndV f h m) := by
  refine own_of hb hl (Nat.le_refl _) om (row2_size m f h) ?_
  refine List.ext_getElem? (fun j => ?_)
  by_cases hj : j < m * 2
  · have h2 : j / 2 < m := by omega
    rw [List.getElem?_take_of_lt hj, Array.getElem?_toList]
    rcases Nat.mod_two_eq_zero_or_one j with e | e
    · have e2 : j = j / 2 * 2 := by omega
      have h3 := row2_get0 (f := f) (h := h) h2
      rw [show 0 + j / 2 * 2 + 0 = j by omega] at h3
      have h4 := (ndV_get f h h2).1
      rw [← e2] at h4
      rw [h3, h4]
    · have e2 : j = j / 2 * 2 + 1 := by omega
      have h3 := row2_get1 (f := f) (h := h) h2
      rw [show 0 + j / 2 * 2 + 1 = j by omega] at h3
      have h4 := (ndV_get f h h2).2
      rw [← e2] at h4
      rw [h3, h4]
  · rw [List.getElem?_eq_none (by rw [List.length_take]; omega), List.getElem?_eq_none (by rw [ndV_len]; omega)]
theorem RowO.lk {bs : Nat} {v : Value} {xs : List (Int × Int)} (h : RowO w lo bs v xs) : ∃ A c, v = .slice A xs.length c ∧ LinksIn w A xs := by
  obtain ⟨A, c, e, h1, _⟩ := h
  exact ⟨A, c, e, own_links h1⟩
end
end Go.Proofs.YtegngekpmpdngaaDoor
