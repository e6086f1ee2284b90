/- What these functions of the program compute, at every world: (*glosswright/unify.pool).join. -/
import Derived.Test.YtegngekpmpdngaaDoorU
import Derived.Test.YtegngekpmpdngaaDoorPAdd
namespace Go.Proofs.YtegngekpmpdngaaDoor
open Go.RowKit
theorem snocP {W : List (Int × Int)} (h : 0 < W.length) : ∃ W1 z, W = W1 ++ [z] :=
  ⟨W.dropLast, W.getLast (fun e => by rw [e] at h; exact absurd h (Nat.lt_irrefl _)), (List.dropLast_concat_getLast _).symm⟩
theorem range_two {w : World} {b t : Nat} {cs : Array Value} {c0 c1 : Value} (h : Blk w b t cs) (h0 : cs[0]? = some c0) (h1 : cs[1]? = some c1) : w.rangeAt b 0 [c0, c1] := fun j v hj => by
  match j, hj with
  | 0, hj => cases hj; exact h.cell h0
  | 1, hj => cases hj; exact h.cell h1
  | _ + 2, hj => cases hj
theorem consP {W : List (Int × Int)} (h : 0 < W.length) : ∃ z W1, W = z :: W1 := by
  cases W with
  | nil => exact absurd h (Nat.lt_irrefl _)
  | cons z W1 => exact ⟨z, W1, rfl⟩
theorem srt_len {nf : Nat} : ∀ {xs : List (Int × Int)} {lo : Int}, Srt xs → (∀ x ∈ xs, lo ≤ x.1 ∧ x.1 < nf) → 0 ≤ lo → lo ≤ nf → (xs.length : Int) ≤ nf - lo
  | [], lo, _, _, _, h => by simp; omega
  | x :: xs, lo, hs, hx, h0, hl => by
    obtain ⟨h1, h2⟩ := List.pairwise_cons.1 hs
    have h3 := hx x (List.mem_cons_self ..)
    have := srt_len (nf := nf) (lo := x.1 + 1) h2 (fun y hy => by
      have := h1 y hy
      have := hx y (List.mem_cons_of_mem _ hy)
      omega) om om
    rw [List.length_cons]; omega
theorem meet_true {l : List Ty} {a b : Nat} (h : (meet l a b).2.1 = true) : meet l a b = ((meet l a b).1, true, false) := by
  unfold meet at h ⊢
  split
  · rename_i h0; rw [if_pos h0] at h; cases h
  · rename_i h0
    rw [if_neg h0] at h
    split
    · rename_i h1; rw [if_pos h1] at h; cases h
    · rfl
theorem merge_lt {x y : Int × Int} {xs ys : List (Int × Int)} (h : x.1 < y.1) : mergeL (x :: xs) (y :: ys) = x :: mergeL xs (y :: ys) ∧ newW (x :: xs) (y :: ys) = newW xs (y :: ys) := by
  constructor
  · rw [mergeL, if_pos h]
  · rw [newW, if_pos h]
theorem merge_gt {x y : Int × Int} {xs ys : List (Int × Int)} (h : y.1 < x.1) : mergeL (x :: xs) (y :: ys) = y :: mergeL (x :: xs) ys ∧ newW (x :: xs) (y :: ys) = newW (x :: xs) ys := by
  constructor
  · rw [mergeL, if_neg om, if_pos h]
  · rw [newW, if_neg om, if_pos h]
theorem merge_eq {x y : Int × Int} {xs ys : List (Int × Int)} (h : x.1 = y.1) : mergeL (x :: xs) (y :: ys) = x :: mergeL xs ys ∧ newW (x :: xs) (y :: ys) = (x.2, y.2) :: newW xs ys := by
  constructor
  · rw [mergeL, if_neg om, if_neg om]
  · rw [newW, if_neg om, if_neg om]
structure MG (X Y acc xs ys W1 W2 : List (Int × Int)) : Prop where
  m : mergeL X Y = acc ++ mergeL xs ys
  w : W1 ++ newW X Y = W2 ++ newW xs ys
  l : acc.length + xs.length + ys.length ≤ X.length + Y.length
  l2 : W2.length + xs.length ≤ W1.length + X.length
theorem MG.start (X Y W1 : List (Int × Int)) : MG X Y [] X Y W1 W1 := ⟨rfl, rfl, by simp, Nat.le_refl _⟩
theorem MG.left {X Y acc xs ys W1 W2 : List (Int × Int)} {x y : Int × Int} (h : MG X Y acc (x :: xs) (y :: ys) W1 W2) (hc : x.1 < y.1) : MG X Y (acc ++ [x]) xs (y :: ys) W1 W2 :=
  ⟨by rw [h.m, (merge_lt hc).1]; simp, by rw [h.w, (merge_lt hc).2], by have := h.l; simp only [List.length_append, List.length_cons, List.length_nil] at this ⊢; omega, by have := h.l2; simp only [List.length_cons] at this ⊢; omega⟩
theorem MG.right {X Y acc xs ys W1 W2 : List (Int × Int)} {x y : Int × Int} (h : MG X Y acc (x :: xs) (y :: ys) W1 W2) (hc : y.1 < x.1) : MG X Y (acc ++ [y]) (x :: xs) ys W1 W2 :=
  ⟨by rw [h.m, (merge_gt hc).1]; simp, by rw [h.w, (merge_gt hc).2], by have := h.l; simp only [List.length_append, List.length_cons, List.length_nil] at this ⊢; omega, h.l2⟩
theorem MG.both {X Y acc xs ys W1 W2 : List (Int × Int)} {x y : Int × Int} (h : MG X Y acc (x :: xs) (y :: ys) W1 W2) (hc : x.1 = y.1) : MG X Y (acc ++ [x]) xs ys W1 (W2 ++ [(x.2, y.2)]) :=
  ⟨by rw [h.m, (merge_eq hc).1]; simp, by rw [h.w, (merge_eq hc).2]; simp, by have := h.l; simp only [List.length_append, List.length_cons, List.length_nil] at this ⊢; omega, by have := h.l2; simp only [List.length_append, List.length_cons, List.length_nil] at this ⊢; omega⟩
theorem MG.end_ {X Y acc xs ys W1 W2 : List (Int × Int)} (h : MG X Y acc xs ys W1 W2) (he : ¬ (0 < xs.length ∧ 0 < ys.length)) : mergeL X Y = [acc, xs, ys].flatten ∧ W1 ++ newW X Y = W2 := by
  have e : mergeL xs ys = xs ++ ys ∧ newW xs ys = [] := by
    cases xs with
    | nil => simp [mergeL, newW]
    | cons x xs =>
      cases ys with
      | nil => simp [mergeL, newW]
      | cons y ys => simp at he
  exact ⟨by rw [h.m, e.1]; simp, by rw [h.w, e.2]; simp⟩
theorem cellW {w : World} {ob cap q : Nat} {W1 : List (Int × Int)} {z : Int × Int} (h : Own w ob 151 2 (some ⟨q, 0, none⟩) (W1 ++ [z]).length cap (lnV (W1 ++ [z]))) : w.cell? ⟨q, 0 + W1.length * 2 + 0 * 1, none⟩ = some (.int .i64 z.1) ∧ w.cell? ⟨q, 0 + W1.length * 2 + 1 * 1, none⟩ = some (.int .i64 z.2) := by
  obtain ⟨q', e, _, _, hc⟩ := h.cell (fun e => by have := congrArg List.length e; rw [lnV_len] at this; simp at this)
  cases e
  have h2 := lnV_get (W1 ++ [z]) W1.length (by simp)
  simp only [List.getElem_append_right (Nat.le_refl W1.length), Nat.sub_self, List.getElem_cons_zero] at h2
  have e0 : 0 + W1.length * 2 + 0 * 1 = W1.length * 2 := by omega
  have e1 : 0 + W1.length * 2 + 1 * 1 = W1.length * 2 + 1 := by omega
  rw [e0, e1]
  exact ⟨hc _ _ h2.1, hc _ _ h2.2⟩
theorem Suf.rng {w : World} {lo bs g o n c : Nat} {x : Int × Int} {xs : List (Int × Int)} (h : Suf w lo bs (.slice (some ⟨g, o, none⟩) n c) (x :: xs)) : w.rangeAt g o [.int .i64 x.1, .int .i64 x.2] := by
  obtain ⟨g', o', e, _, h2⟩ := h.cons.at_
  cases e; exact h2
theorem cmpI_gt {a b : Int} : 0 < cmpI a b ↔ b < a := by unfold cmpI; split <;> (try split) <;> omega
theorem conc3_any {ob bs b t n1 n2 n3 c1 c2 c3 zl : Nat} {A1 A2 A3 : Option Addr} {p q r m : List (Int × Int)} (w : World) (hb : Blk w b t #[.slice A1 n1 c1, .slice A2 n2 c2, .slice A3 n3 c3]) (h1 : Own w zl 30 2 A1 n1 c1 (lnV p)) (hn1 : n1 = p.length) (h2 : Suf w ob bs (.slice A2 n2 c2) q) (h3 : Suf w ob bs (.slice A3 n3 c3) r) (hm : m = [p, q, r].flatten) (hl : m.length ≤ 1000000) : Calls Tryd.prog 109 #[.slice (some ⟨b, 0, none⟩) 3 3] w fun e w' => (∃ A' cap', e = .returned (.slice A' m.length cap') ∧ Own w' w.heap.size 30 2 A' m.length cap' (lnV m)) ∧ Bel w w' := by
  obtain ⟨e2, l2⟩ := h2.links
  obtain ⟨e3, l3⟩ := h3.links
  subst e2 e3 hn1 hm
  exact concl_any (some ⟨b, 0, none⟩) 3 [p, q, r] w (lmat_three hb (own_links h1) l2 l3) (by simp) om
theorem own_lnV_snoc {w : World} {ob cap k : Nat} {e : TypeId} {A : Option Addr} {xs : List (Int × Int)} {a b : Int} (h : Own w ob e 2 A (xs.length + k) cap (lnV xs ++ [Value.int .i64 a, Value.int .i64 b])) (hk : k = 1) : Own w ob e 2 A (xs ++ [(a, b)]).length cap (lnV (xs ++ [(a, b)])) := by
  subst hk
  rw [List.length_append]
  have : lnV (xs ++ [(a, b)]) = lnV xs ++ [Value.int .i64 a, Value.int .i64 b] := by rw [lnV_app]; rfl
  rw [this]; exact h
theorem sl_snocP (A : Option Addr) (cap : Nat) (xs : List (Int × Int)) (z : Int × Int) : Value.slice A (xs.length + 1) cap = Value.slice A (xs ++ [z]).length cap := by rw [List.length_append]; rfl
theorem fn108 : callable Tryd.prog 108 = true := by kernel_rfl
theorem fn109 : callable Tryd.prog 109 = true := by kernel_rfl
theorem fn80_PJoin : callable Tryd.prog 80 = true := by kernel_rfl
theorem in151 : (Tryd.prog.info? 151).map (fun i => (i.zero, i.size, i.bytes)) = some (some (.agg #[.int .i64 0, .int .i64 0]), 2, 16) := by kernel_rfl
theorem sz151 : (Tryd.prog.info? 151).map (·.size) = some 2 := by kernel_rfl
theorem ze151 : (Tryd.prog.info? 151).map (·.zero) = some (some (.agg #[.int .i64 0, .int .i64 0])) := by kernel_rfl
set_option maxRecDepth 100000 in
set_option maxHeartbeats 4000000 in
theorem pjoin_any {ob bp bu bd nf x y : Nat} {PA TA LA : Option Addr} {cp ct cl : Nat} {P rep ρ : Nat → Nat} {T : Nat → Int} {V : Nat → Value} {L : Nat → List (Int × Int)} {l : List Ty} {U : List Nd} {J : List (Nat × Nat)} (w0 w : World) (hTab : TabIn w0) (hTI : TableIn w0 l bu bd) (hs : Sound l) (hB : Bel w0 w) (hw0 : w0.heap.size ≤ ob) (hp : PoolAt w ob bp (.slice (some ⟨bu, 0, none⟩) l.length l.length) (.slice (some ⟨bd, 0, none⟩) l.length l.length) U.length PA TA LA cp ct cl P T V L) (hbo : bp < ob) (hob : ob ≤ w.heap.size) (hn : U.length ≤ 1000000) (hnf : nf ≤ 1000) (hUf : ∀ i, i < U.length → ∀ z ∈ (nd U i).ln, 0 ≤ z.1 ∧ z.1 < nf) (hx : x < U.length) (hus : US l U J P rep ρ T L [((x : Int), (y : Int))]) : Calls Tryd.prog 95 #[.pointer (some ⟨bp, 0, none⟩), .int .i64 (x : Nat), .int .i64 (y : Nat)] w fun e w' => (∃ b, e = .returned (.bool b) ∧ (b = true → ∃ P' rep' ρ' T' V' L', PoolAt w' ob bp (.slice (some ⟨bu, 0, none⟩) l.length l.length) (.slice (some ⟨bd, 0, none⟩) l.length l.length) U.length PA TA LA cp ct cl P' T' V' L' ∧ US l U J P' rep' ρ' T' L' []) ∧ (b = false → ¬ Bound l U J)) ∧ Chg ob [bp] w w' ∧ ob ≤ w'.heap.size := by
 have hlob := hw0
 have hl60 := hs.le
 have hSnd := hs
 clear hs
 obtain ⟨hbp, hpa, hta, hla, hrw, hdis⟩ := hp
 obtain ⟨qp, rfl, hqp, hqpl, _⟩ := hpa.rowc hx
 obtain ⟨qt, rfl, hqt, hqtl, _⟩ := hta.rowc hx
 obtain ⟨ql, rfl, hql, hqll, _⟩ := hla.rowc hx
 have npt : qp ≠ qt := fun e => hdis qp (by simp [aL]) (by simp [aL, e])
 have npl : qp ≠ ql := fun e => own_ne hpa hla dE qp (by simp [aL]) (by simp [aL, e])
 have ntl : qt ≠ ql := fun e => own_ne hta hla dE qt (by simp [aL]) (by simp [aL, e])
 have or_hta_qp : ∀ g ∈ aL (some (⟨qt, 0, none⟩ : Addr)), g ≠ qp := fun g hg e => by simp [aL] at hg; omega
 have or_hla_qp : ∀ g ∈ aL (some (⟨ql, 0, none⟩ : Addr)), g ≠ qp := fun g hg e => by simp [aL] at hg; omega
 have or_hpa_qt : ∀ g ∈ aL (some (⟨qp, 0, none⟩ : Addr)), g ≠ qt := fun g hg e => by simp [aL] at hg; omega
 have or_hla_qt : ∀ g ∈ aL (some (⟨ql, 0, none⟩ : Addr)), g ≠ qt := fun g hg e => by simp [aL] at hg; omega
 have or_hpa_ql : ∀ g ∈ aL (some (⟨qp, 0, none⟩ : Addr)), g ≠ ql := fun g hg e => by simp [aL] at hg; omega
 have or_hta_ql : ∀ g ∈ aL (some (⟨qt, 0, none⟩ : Addr)), g ≠ ql := fun g hg e => by simp [aL] at hg; omega
 obtain ⟨bs, hbse⟩ : ∃ b, b = w.heap.size := ⟨_, rfl⟩
 rw [← hbse] at hrw
 have hbz : bs ≤ w.heap.size := Nat.le_of_eq hbse
 have hCS : Chg ob [bp] w w ∧ ob ≤ w.heap.size := ⟨Chg.refl _ _ _, hob⟩
 obtain ⟨M0, hM0, hM0b⟩ : ∃ M0, roots U.length rep * (nf + 1) + 1 ≤ M0 ∧ M0 ≤ 1001000001 := ⟨_, Nat.le_refl _, by
   have h1 := roots_le U.length rep
   have h2 := Nat.mul_le_mul (nLT h1 hn) (show nf + 1 ≤ 1001 by omega)
   omega⟩
 refine enter Tryd.func95 Tryd.ntmps95 rfl (Nat.le_of_ble_eq_true rfl) (c_seq (c_region (waB rfl (x_nil (e_S ?_)))))
 refine c_seq (c_seq (c_region (wmI rfl (wmI rfl (wl (r_bd2 (v0 := .int _ _) (v1 := .int _ _) (fun v0 v1 => #[v0, v1]) rfl rfl kR) ?_)))))
 refine wl_bs (cs := #[_, _]) [(0, .agg _)] rfl U152 sz151 ze151 dE dE kR rfl (fun b20 w1 hb20 hs hr => ?_)
 have or_bp_b20 : bp < b20 := nLL hbp.lt hr
 have or_hpa_b20 := (fun (g : Nat) hg => nLL (hpa.lt g hg).2 hr)
 have or_hta_b20 := (fun (g : Nat) hg => nLL (hta.lt g hg).2 hr)
 have or_hla_b20 := (fun (g : Nat) hg => nLL (hla.lt g hg).2 hr)
 have or_hCS_b20 := (nLT hCS.2 hr)
 have or_hbz_b20 := (nLT hbz hr)
 have lo20 := nLT (Bel.size hB) hr
 replace hB := hB.tr0 hs
 replace hbp := hbp.tr0 hs
 replace hpa := hpa.tr0 hs
 replace hta := hta.tr0 hs
 replace hla := hla.tr0 hs
 replace hrw := fun x hx => (hrw x hx).tr hs (by simp)
 replace hCS := And.intro (hCS.1.st hs hCS.2 (by simp)) (nLT hCS.2 (Same.size hs))
 replace hbz := nLT hbz (Same.size hs)
 clear hs
 clear hr
 refine waS rfl (x_nil (e_S (c_block ?_)))
 refine c_loopS [6, 7, 8, 9, 10, 11, 12, 13, 14, 15, 16, 21, 22, 23, 24, 25, 26, 27, 28, 29, 30, 31, 32, 33, 34, 35, 36, 37, 38, 39, 40, 41, 42, 43, 44, 45, 46, 47, 48, 49, 50, 51, 52, 53, 54, 55, 56, 57, 58, 59, 60, 61, 62, 63, 64, 65, 66, 67, 68, 69, 70, 71, 72, 73, 74, 75, 76, 77, 78, 79, 80, 81, 82, 83, 84, 85, 86, 87, 88, 89, 90, 91, 92, 93, 94, 95, 96, 97, 98, 99, 100, 101, 102, 103, 104, 105, 106, 107, 108, 109, 110, 111, 112, 113, 114, 115, 116, 117, 118, 119, 120, 121, 122, 123, 124, 125, 126, 127, 128, 129, 130, 131, 132, 133, 134, 135, 136, 137, 138, 139, 140, 141, 142, 143, 144, 145, 146, 147, 148, 149, 150, 151, 152, 153, 154, 155, 156, 157, 158, 159, 160, 161, 162, 163, 164, 165, 166, 167, 168, 169, 170, 171, 172, 173, 174] (fun m g w' => ∃ (W : List (Int × Int)) (WA : Option Addr) (capW : Nat) (P rep ρ : Nat → Nat) (T : Nat → Int) (V : Nat → Value) (L : Nat → List (Int × Int)), m = roots U.length rep * (nf + 1) + W.length ∧ m ≤ M0 ∧ g 7 = .slice WA W.length capW ∧ Bel w0 w' ∧ Blk w' bp 143 #[.slice (some ⟨bu, 0, none⟩) l.length l.length, .slice (some ⟨bd, 0, none⟩) l.length l.length, .slice (some ⟨qp, 0, none⟩) U.length cp, .slice (some ⟨qt, 0, none⟩) U.length ct, .slice (some ⟨ql, 0, none⟩) U.length cl] ∧ Own w' ob 3 1 (some ⟨qp, 0, none⟩) U.length cp (rowL U.length (vN P)) ∧ Own w' ob 3 1 (some ⟨qt, 0, none⟩) U.length ct (rowL U.length (vI T)) ∧ Own w' ob 31 1 (some ⟨ql, 0, none⟩) U.length cl (rowL U.length V) ∧ (∀ x, x < U.length → RowO w' ob w'.heap.size (V x) (L x)) ∧ Own w' ob 151 2 WA (W).length capW (lnV (W)) ∧ (Chg ob [bp] w w' ∧ ob ≤ w'.heap.size) ∧ US l U J P rep ρ T L W) (roots U.length rep * (nf + 1) + 1) ?_ (fun m g2 w2 hI => ?_)
 ·
  exact ⟨[((x : Int), (y : Int))], _, _, P, rep, ρ, T, V, L, rfl, hM0, rfl, hB, hbp, hpa, hta, hla, fun x hx => (hrw x hx).up hbz, own_blk hb20 om rfl (by show (1 : Nat) ≤ 9223372036854775807; decide), hCS, hus⟩
 obtain ⟨W, WA, capW, P, rep, ρ, T, V, L, hm, hmM, h7, hB, hbp, hpa, hta, hla, hrw, hW, hCS, hus⟩ := hI
 obtain ⟨bs, hbse⟩ : ∃ b, b = w2.heap.size := ⟨_, rfl⟩
 rw [← hbse] at hrw
 have hbz : bs ≤ w2.heap.size := Nat.le_of_eq hbse
 have hqpl := (hpa.lt qp (by simp [aL])).2
 have hqtl := (hta.lt qt (by simp [aL])).2
 have hqll := (hla.lt ql (by simp [aL])).2
 have hbpl := hbp.lt
 rw [← hbse] at hqpl hqtl hqll hbpl
 refine c_know 7 (.slice WA W.length capW) h7 nu (c_seq (c_seq (c_region (wmS rfl (wl (r_len U152 rfl) ?_)))))
 refine wl (r_gtr rfl rfl) (x_nil (e_S ?_))
 refine c_ifd rfl (fun c23 => ?_) (fun c23 => ?_)
 ·
  obtain ⟨W1, z, rfl⟩ := snocP (show 0 < W.length by omega)
  have hwz := hus.wr z (by simp)
  obtain ⟨xn, hxn⟩ : ∃ xn : Nat, z.1 = (xn : Int) := ⟨z.1.toNat, by omega⟩
  obtain ⟨yn, hyn⟩ : ∃ yn : Nat, z.2 = (yn : Int) := ⟨z.2.toNat, by omega⟩
  have hxl : xn < U.length := by omega
  have hyl : yn < U.length := by omega
  have ex : z.1.toNat = xn := by omega
  have ey : z.2.toNat = yn := by omega
  have hlen : (W1 ++ [z]).length = W1.length + 1 := by simp
  obtain ⟨q, rfl, hqb, hqw, _⟩ := hW.cell (fun e => by have := congrArg List.length e; rw [lnV_len] at this; simp at this)
  have hqcap := hW.cap_le
  have hqm := hW.max
  refine c_skip (e_S (c_block (c_seq ?_)))
  refine c_monoSO 17 [24, 25, 26, 27, 28, 29, 30, 31, 32, 33, 34, 35, 36, 37, 38, 39, 40] (aL (some (⟨qp, 0, none⟩ : Addr))) 8 (fun ix v wv => match ix with | 0 => v = .pointer (some ⟨bp, 0, none⟩) | 1 => v = .slice (some ⟨q, 0, none⟩) (W1 ++ [z]).length capW | 2 => v = .slice (some ⟨q, 0, none⟩) (W1 ++ [z]).length capW | 3 => v = .int .i64 ((W1 ++ [z]).length : Nat) | 4 => v = .int .i64 (W1.length : Nat) | 5 => v = .pointer (some ⟨q, 0 + W1.length * 2, none⟩) | 6 => v = .pointer (some ⟨q, 0 + W1.length * 2 + 0 * 1, none⟩) | 7 => v = .int .i64 (xn : Nat) | 8 => ∃ Q : Nat → Nat, v = .int .i64 ((rep xn : Nat) : Int) ∧ Own wv ob 3 1 (some ⟨qp, 0, none⟩) U.length cp (rowL U.length (vN Q)) ∧ UF U.length Q rep ρ | 9 => v = .pointer (some ⟨bp, 0, none⟩) | 10 => v = .slice (some ⟨q, 0, none⟩) (W1 ++ [z]).length capW | 11 => v = .slice (some ⟨q, 0, none⟩) (W1 ++ [z]).length capW | 12 => v = .int .i64 ((W1 ++ [z]).length : Nat) | 13 => v = .int .i64 (W1.length : Nat) | 14 => v = .pointer (some ⟨q, 0 + W1.length * 2, none⟩) | 15 => v = .pointer (some ⟨q, 0 + W1.length * 2 + 1 * 1, none⟩) | 16 => v = .int .i64 (yn : Nat) | _ => True) (fun _ => True) kR kR ?_ (fun _ _ _ _ => trivial) ?_ ?_ dE ?_
  ·
   intro ix v wv wv2 h hs
   match ix, h with
   | 0, h => exact h
   | 1, h => exact h
   | 2, h => exact h
   | 3, h => exact h
   | 4, h => exact h
   | 5, h => exact h
   | 6, h => exact h
   | 7, h => exact h
   | 8, h =>
    obtain ⟨Q, e32, hpaQ, huQ⟩ := (show ∃ Q : Nat → Nat, v = .int .i64 ((rep xn : Nat) : Int) ∧ Own wv ob 3 1 (some ⟨qp, 0, none⟩) U.length cp (rowL U.length (vN Q)) ∧ UF U.length Q rep ρ from h)
    exact ⟨Q, e32, hpaQ.tr0 hs, huQ⟩
   | 9, h => exact h
   | 10, h => exact h
   | 11, h => exact h
   | 12, h => exact h
   | 13, h => exact h
   | 14, h => exact h
   | 15, h => exact h
   | 16, h => exact h
   | _ + 17, h => exact trivial
  ·
   intro ix o hix hne hoq gg wx hs hd
   match ix, hix, hne, hoq with
   | 0, _, _, hoq =>
    obtain rfl := sI hoq
    have hs0 := hs
    replace hbp := hbp.tr hs (fun hx => by have := (hpa.lt _ hx).1; (try have := or_hpa_bp _ hx); omega)
    refine os_rv (r_mv (v := .pointer (some _)) rfl) ⟨Same.refl _ _, ?_⟩
    exact rfl
   | 1, _, _, hoq =>
    obtain rfl := sI hoq
    have hs0 := hs
    refine os_rv (r_mv (v := .slice _ _ _) rfl) ⟨Same.refl _ _, ?_⟩
    exact rfl
   | 2, _, _, hoq =>
    obtain rfl := sI hoq
    have hs0 := hs
    refine os_rv (r_mv (v := .slice _ _ _) rfl) ⟨Same.refl _ _, ?_⟩
    exact rfl
   | 3, _, _, hoq =>
    obtain rfl := sI hoq
    have hs0 := hs
    have d2 : gg 26 = .slice (some ⟨q, 0, none⟩) (W1 ++ [z]).length capW := hd 2 (dep_of kR)
    have e26 := d2
    refine os_know 26 (.slice (some ⟨q, 0, none⟩) (W1 ++ [z]).length capW) e26 nu ?_
    refine os_rv (r_len U152 rfl) ⟨Same.refl _ _, ?_⟩
    exact rfl
   | 4, _, _, hoq =>
    obtain rfl := sI hoq
    have hs0 := hs
    have d3 : gg 27 = .int .i64 ((W1 ++ [z]).length : Nat) := hd 3 (dep_of kR)
    have e27 := d3
    refine os_know 27 (.int .i64 ((W1 ++ [z]).length : Nat)) e27 nu ?_
    refine os_rv (r_sub (c := (W1.length : Int)) rfl rfl (by rw [hlen]; omega) om) ⟨Same.refl _ _, ?_⟩
    exact rfl
   | 5, _, _, hoq =>
    obtain rfl := sI hoq
    have hs0 := hs
    have d1 : gg 25 = .slice (some ⟨q, 0, none⟩) (W1 ++ [z]).length capW := hd 1 (dep_of kR)
    have e25 := d1
    have d4 : gg 28 = .int .i64 (W1.length : Nat) := hd 4 (dep_of kR)
    have e28 := d4
    refine os_know 25 (.slice (some ⟨q, 0, none⟩) (W1 ++ [z]).length capW) e25 nu (os_know 28 (.int .i64 (W1.length : Nat)) e28 nu ?_)
    refine os_rv (r_ia (i := W1.length) U152 sz151 rfl rfl (by rw [hlen]; omega) rfl) ⟨Same.refl _ _, ?_⟩
    exact rfl
   | 6, _, _, hoq =>
    obtain rfl := sI hoq
    have hs0 := hs
    have d5 : gg 29 = .pointer (some ⟨q, 0 + W1.length * 2, none⟩) := hd 5 (dep_of kR)
    have e29 := d5
    refine os_know 29 (.pointer (some ⟨q, 0 + W1.length * 2, none⟩)) e29 nu ?_
    refine os_rv (r_iaA (i := 0) Tryd.underlying151 sz3_GSearch rfl rfl om rfl) ⟨Same.refl _ _, ?_⟩
    exact rfl
   | 7, _, _, hoq =>
    obtain rfl := sI hoq
    have hs0 := hs
    replace hW := hW.tr hs (fun g hg hx => own_ne hW hpa dE g hg hx)
    have d6 : gg 30 = .pointer (some ⟨q, 0 + W1.length * 2 + 0 * 1, none⟩) := hd 6 (dep_of kR)
    have e30 := d6
    refine os_know 30 (.pointer (some ⟨q, 0 + W1.length * 2 + 0 * 1, none⟩)) e30 nu ?_
    refine os_rv (r_ld1 (v := .int _ _) U3 rfl rfl (by have h := (cellW hW).1; rw [hxn] at h; exact h)) ⟨Same.refl _ _, ?_⟩
    exact rfl
   | 8, _, hne, _ => exact absurd rfl hne
   | 9, _, _, hoq =>
    obtain rfl := sI hoq
    have hs0 := hs
    replace hbp := hbp.tr hs (fun hx => by have := (hpa.lt _ hx).1; (try have := or_hpa_bp _ hx); omega)
    refine os_rv (r_mv (v := .pointer (some _)) rfl) ⟨Same.refl _ _, ?_⟩
    exact rfl
   | 10, _, _, hoq =>
    obtain rfl := sI hoq
    have hs0 := hs
    refine os_rv (r_mv (v := .slice _ _ _) rfl) ⟨Same.refl _ _, ?_⟩
    exact rfl
   | 11, _, _, hoq =>
    obtain rfl := sI hoq
    have hs0 := hs
    refine os_rv (r_mv (v := .slice _ _ _) rfl) ⟨Same.refl _ _, ?_⟩
    exact rfl
   | 12, _, _, hoq =>
    obtain rfl := sI hoq
    have hs0 := hs
    have d11 : gg 35 = .slice (some ⟨q, 0, none⟩) (W1 ++ [z]).length capW := hd 11 (dep_of kR)
    have e35 := d11
    refine os_know 35 (.slice (some ⟨q, 0, none⟩) (W1 ++ [z]).length capW) e35 nu ?_
    refine os_rv (r_len U152 rfl) ⟨Same.refl _ _, ?_⟩
    exact rfl
   | 13, _, _, hoq =>
    obtain rfl := sI hoq
    have hs0 := hs
    have d12 : gg 36 = .int .i64 ((W1 ++ [z]).length : Nat) := hd 12 (dep_of kR)
    have e36 := d12
    refine os_know 36 (.int .i64 ((W1 ++ [z]).length : Nat)) e36 nu ?_
    refine os_rv (r_sub (c := (W1.length : Int)) rfl rfl (by rw [hlen]; omega) om) ⟨Same.refl _ _, ?_⟩
    exact rfl
   | 14, _, _, hoq =>
    obtain rfl := sI hoq
    have hs0 := hs
    have d10 : gg 34 = .slice (some ⟨q, 0, none⟩) (W1 ++ [z]).length capW := hd 10 (dep_of kR)
    have e34 := d10
    have d13 : gg 37 = .int .i64 (W1.length : Nat) := hd 13 (dep_of kR)
    have e37 := d13
    refine os_know 34 (.slice (some ⟨q, 0, none⟩) (W1 ++ [z]).length capW) e34 nu (os_know 37 (.int .i64 (W1.length : Nat)) e37 nu ?_)
    refine os_rv (r_ia (i := W1.length) U152 sz151 rfl rfl (by rw [hlen]; omega) rfl) ⟨Same.refl _ _, ?_⟩
    exact rfl
   | 15, _, _, hoq =>
    obtain rfl := sI hoq
    have hs0 := hs
    have d14 : gg 38 = .pointer (some ⟨q, 0 + W1.length * 2, none⟩) := hd 14 (dep_of kR)
    have e38 := d14
    refine os_know 38 (.pointer (some ⟨q, 0 + W1.length * 2, none⟩)) e38 nu ?_
    refine os_rv (r_iaA (i := 1) Tryd.underlying151 sz3_GSearch rfl rfl om rfl) ⟨Same.refl _ _, ?_⟩
    exact rfl
   | 16, _, _, hoq =>
    obtain rfl := sI hoq
    have hs0 := hs
    replace hW := hW.tr hs (fun g hg hx => own_ne hW hpa dE g hg hx)
    have d15 : gg 39 = .pointer (some ⟨q, 0 + W1.length * 2 + 1 * 1, none⟩) := hd 15 (dep_of kR)
    have e39 := d15
    refine os_know 39 (.pointer (some ⟨q, 0 + W1.length * 2 + 1 * 1, none⟩)) e39 nu ?_
    refine os_rv (r_ld1 (v := .int _ _) U3 rfl rfl (by have h := (cellW hW).2; rw [hyn] at h; exact h)) ⟨Same.refl _ _, ?_⟩
    exact rfl
   | _ + 17, hix, _, _ => exact absurd hix om
  ·
   intro o hoq gg wx hs hd
   obtain rfl := sI hoq
   have hs0 := hs
   replace hB := hB.tr0 hs
   replace hbp := hbp.tr0 hs
   replace hpa := hpa.tr0 hs
   replace hta := hta.tr0 hs
   replace hla := hla.tr0 hs
   replace hrw := fun x hx => (hrw x hx).tr hs (by simp)
   replace hCS := And.intro (hCS.1.st hs hCS.2 (by simp)) (nLT hCS.2 (Same.size hs))
   replace hW := hW.tr0 hs
   replace hbz := nLT hbz (Same.size hs)
   clear hs
   have d0 : gg 24 = .pointer (some ⟨bp, 0, none⟩) := hd 0 (dep_of kR)
   have e24 := d0
   have d7 : gg 31 = .int .i64 (xn : Nat) := hd 7 (dep_of kR)
   have e31 := d7
   refine os_know 24 (.pointer (some ⟨bp, 0, none⟩)) e24 nu (os_know 31 (.int .i64 (xn : Nat)) e31 nu ?_)
   refine os_cl fn108 (pfind_any wx hbp hpa hbo hus.uf hxl) rfl (fun e' w2 hr => ?_)
   obtain ⟨Q, rfl, hpaQ, huQ, hs2⟩ := hr
   refine ⟨_, rfl, hs2, ⟨_, rfl, hpaQ, huQ⟩, trivial, fun kx v hne h => ?_⟩
   match kx, hne, h with
   | 0, _, h => exact h
   | 1, _, h => exact h
   | 2, _, h => exact h
   | 3, _, h => exact h
   | 4, _, h => exact h
   | 5, _, h => exact h
   | 6, _, h => exact h
   | 7, _, h => exact h
   | 8, hne, _ => exact absurd rfl hne
   | 9, _, h => exact h
   | 10, _, h => exact h
   | 11, _, h => exact h
   | 12, _, h => exact h
   | 13, _, h => exact h
   | 14, _, h => exact h
   | 15, _, h => exact h
   | 16, _, h => exact h
   | _ + 17, _, _ => exact trivial
  intro gg w3 hs _ hR
  have hs0 := hs
  replace hB := hB.tr hs (fun g hg => nLT hlob (hpa.lt g hg).1)
  replace hbp := hbp.tr hs (fun hx => by have := (hpa.lt _ hx).1; (try have := or_hpa_bp _ hx); omega)
  replace hta := hta.tr hs (fun g hg hx => by first | exact own_ne hta hpa dE g hg hx | exact hdis g hg hx | exact hdis g hx hg | (have h1 := (hpa.lt g hx).1; (try have := hzz g hg); omega))
  replace hla := hla.tr hs (fun g hg hx => by first | exact own_ne hla hpa dE g hg hx | exact hdis g hg hx | exact hdis g hx hg | (have h1 := (hpa.lt g hx).1; (try have := hzz g hg); omega))
  replace hrw := fun x hx => (hrw x hx).tr hs (fun g hg => by first | exact .inl (by have := ((hpa).lt g hg).1; omega) | (obtain ⟨cs, h⟩ := (hpa).typ g hg; exact .inr ⟨_, _, h, by decide⟩))
  replace hCS := And.intro (hCS.1.st hs hCS.2 (fun g hg => .inr (by have := ((hpa).lt g hg).1; omega))) (nLT hCS.2 (Same.size hs))
  replace hW := hW.tr hs (fun g hg hx => own_ne hW hpa dE g hg hx)
  replace hbz := nLT hbz (Same.size hs)
  have d0 : gg 24 = .pointer (some ⟨bp, 0, none⟩) := hR 0 dE
  have e24 := d0
  have d8 : ∃ Q : Nat → Nat, gg 32 = .int .i64 ((rep xn : Nat) : Int) ∧ Own w3 ob 3 1 (some ⟨qp, 0, none⟩) U.length cp (rowL U.length (vN Q)) ∧ UF U.length Q rep ρ := hR 8 dE
  obtain ⟨Q, e32, hpaQ, huQ⟩ := d8
  have d9 : gg 33 = .pointer (some ⟨bp, 0, none⟩) := hR 9 dE
  have e33 := d9
  have d16 : gg 40 = .int .i64 (yn : Nat) := hR 16 dE
  have e40 := d16
  have hpa := hpaQ
  refine wl_know 24 (.pointer (some ⟨bp, 0, none⟩)) e24 nu (wl_know 32 (.int .i64 ((rep xn : Nat) : Int)) e32 nu (wl_know 33 (.pointer (some ⟨bp, 0, none⟩)) e33 nu (wl_know 40 (.int .i64 (yn : Nat)) e40 nu ?_)))
  refine wl_cl fn108 (pfind_any _ hbp hpa hbo huQ hyl) rfl (fun e' w4 hr => ?_)
  obtain ⟨Q2, rfl, hpa2, huQ2, hs⟩ := hr
  replace hB := hB.tr hs (fun g hg => nLT hlob (hpa.lt g hg).1)
  replace hbp := hbp.tr hs (fun hx => by have := (hpa.lt _ hx).1; (try have := or_hpa_bp _ hx); omega)
  replace hta := hta.tr hs (fun g hg hx => by first | exact own_ne hta hpa dE g hg hx | exact hdis g hg hx | exact hdis g hx hg | (have h1 := (hpa.lt g hx).1; (try have := hzz g hg); omega))
  replace hla := hla.tr hs (fun g hg hx => by first | exact own_ne hla hpa dE g hg hx | exact hdis g hg hx | exact hdis g hx hg | (have h1 := (hpa.lt g hx).1; (try have := hzz g hg); omega))
  replace hrw := fun x hx => (hrw x hx).tr hs (fun g hg => by first | exact .inl (by have := ((hpa).lt g hg).1; omega) | (obtain ⟨cs, h⟩ := (hpa).typ g hg; exact .inr ⟨_, _, h, by decide⟩))
  replace hCS := And.intro (hCS.1.st hs hCS.2 (fun g hg => .inr (by have := ((hpa).lt g hg).1; omega))) (nLT hCS.2 (Same.size hs))
  replace hW := hW.tr hs (fun g hg hx => own_ne hW hpa dE g hg hx)
  replace hbz := nLT hbz (Same.size hs)
  have hpa := hpa2
  refine ⟨_, rfl, ?_⟩
  refine waI rfl (waI rfl (x_nil (e_S (c_seq (c_region ?_)))))
  refine wmS rfl (wmS rfl (wl (r_len U152 rfl) (wl (r_sub (c := (W1.length : Int)) rfl rfl (by rw [hlen]; omega) om) (wl (r_slH (h := W1.length) U152 sz151 rfl rfl om) (waS rfl ?_)))))
  refine x_nil (e_S (c_seq (c_seq ?_)))
  replace hW : Own w4 ob 151 2 (some ⟨q, 0, none⟩) (W1).length capW (lnV (W1)) := by
    have h := hW.take (k' := W1.length) om om
    rw [lnV_take] at h
    simpa using h
  refine c_region (wmI rfl (wmI rfl (wl (r_eql rfl rfl) (x_nil (e_S ?_)))))
  refine c_ifd rfl (fun c49 => ?_) (fun c49 => ?_)
  ·
   have hus1 : US l U J Q2 rep ρ T L (W1 ++ [z]) := ⟨huQ2, hus.ty, hus.srt, hus.wr, hus.only, hus.tcov, hus.lcov, hus.jcov, hus.val, hus.ur⟩
   obtain ⟨W2, hW2⟩ : ∃ W2, W2 = W1 := ⟨_, rfl⟩
   subst hW2
   obtain ⟨rep2, hrep2⟩ : ∃ r, r = rep := ⟨_, rfl⟩
   subst hrep2
   have hus2 := hus1.skip (by rw [ex, ey]; omega)
   refine c_exit (e_Sx (e_Bx (e_LS (roots U.length rep2 * (nf + 1) + W2.length) om agA ?_)))
   first
     | exact ⟨W2, _, _, setN Q2 b a, rep2, UF.rk rep ρ a b, (fun x => if x = a then (mm : Int) else T x), _, (fun x => if x = a then mergeL (L a) (L b) else L x), rfl, by omega, rfl, hB, hbp, hpa, hta, hla, hrw, hW, hCS, hus2⟩
     | exact ⟨W2, _, _, Q2, rep2, ρ, T, V, L, rfl, by omega, rfl, hB, hbp, hpa, hta, hla, fun x hx => (hrw x hx).up hbz, hW, hCS, hus2⟩
  obtain ⟨a, ha⟩ : ∃ a, rep xn = a := ⟨_, rfl⟩
  obtain ⟨b, hb⟩ : ∃ b, rep yn = b := ⟨_, rfl⟩
  have hab : a ≠ b := fun e => c49 (by rw [ha, hb, e])
  have hal : a < U.length := by rw [← ha]; exact hus.uf.rl _ hxl
  have hbl : b < U.length := by rw [← hb]; exact hus.uf.rl _ hyl
  have hra : rep a = a := by rw [← ha]; exact hus.uf.two hxl
  have hrb : rep b = b := by rw [← hb]; exact hus.uf.two hyl
  have hta1 := hus.ty a hal
  have htb1 := hus.ty b hbl
  obtain ⟨ta, hta_⟩ : ∃ t : Nat, T a = (t : Int) := ⟨(T a).toNat, by omega⟩
  obtain ⟨tb, htb_⟩ : ∃ t : Nat, T b = (t : Int) := ⟨(T b).toNat, by omega⟩
  have hLa : (L a).length ≤ nf := by
    have := srt_len (nf := nf) (lo := 0) (hus.srt a hal) (fun z hz => by
      obtain ⟨u, hu, _, hm⟩ := hus.val a hal hra z hz
      exact hUf u hu z hm) (Int.le_refl _) om
    omega
  have hLb : (L b).length ≤ nf := by
    have := srt_len (nf := nf) (lo := 0) (hus.srt b hbl) (fun z hz => by
      obtain ⟨u, hu, _, hm⟩ := hus.val b hbl hrb z hz
      exact hUf u hu z hm) (Int.le_refl _) om
    omega
  have hus1 : US l U J Q2 rep ρ T L (W1 ++ [z]) := ⟨huQ2, hus.ty, hus.srt, hus.wr, hus.only, hus.tcov, hus.lcov, hus.jcov, hus.val, hus.ur⟩
  refine c_know 8 (.int .i64 (a : Nat)) (congrArg (fun (z : Nat) => Value.int .i64 (z : Int)) ha) nu (c_know 9 (.int .i64 (b : Nat)) (congrArg (fun (z : Nat) => Value.int .i64 (z : Int)) hb) nu (c_skip (e_S (c_seq ?_))))
  refine c_monoTO 26 [51, 52, 53, 54, 55, 56, 57, 58, 59, 60, 61, 62, 63, 64, 65, 66, 67, 68, 69, 50, 70, 71, 72, 10, 11, 12] (fun _ => false) (fun ix v wv => match ix with | 0 => v = .pointer (some ⟨bp, 0, none⟩) | 1 => v = .pointer (some ⟨bp, 0, none⟩) | 2 => v = .pointer (some ⟨bp, 0, none⟩) | 3 => v = .agg #[.slice (some ⟨bu, 0, none⟩) l.length l.length, .slice (some ⟨bd, 0, none⟩) l.length l.length] | 4 => v = .pointer (some ⟨bp, 0, none⟩) | 5 => v = .pointer (some ⟨bp, 0, none⟩) | 6 => v = .pointer (some ⟨bp, 3, none⟩) | 7 => v = .slice (some ⟨qt, 0, none⟩) U.length ct | 8 => v = .int .i64 (a : Nat) | 9 => v = .pointer (some ⟨qt, 0 + a * 1, none⟩) | 10 => v = .int .i64 (ta : Nat) | 11 => v = .pointer (some ⟨bp, 0, none⟩) | 12 => v = .pointer (some ⟨bp, 0, none⟩) | 13 => v = .pointer (some ⟨bp, 3, none⟩) | 14 => v = .slice (some ⟨qt, 0, none⟩) U.length ct | 15 => v = .int .i64 (b : Nat) | 16 => v = .pointer (some ⟨qt, 0 + b * 1, none⟩) | 17 => v = .int .i64 (tb : Nat) | 18 => v = .tuple #[.int .i64 ((meet l ta tb).1 : Nat), .bool (meet l ta tb).2.1, .bool (meet l ta tb).2.2] | 19 => v = .tuple #[.int .i64 ((meet l ta tb).1 : Nat), .bool (meet l ta tb).2.1, .bool (meet l ta tb).2.2] | 20 => v = .int .i64 ((meet l ta tb).1 : Nat) | 21 => v = .bool (meet l ta tb).2.1 | 22 => v = .bool (meet l ta tb).2.2 | 23 => v = .int .i64 ((meet l ta tb).1 : Nat) | 24 => v = .bool (meet l ta tb).2.1 | 25 => v = .bool (meet l ta tb).2.2 | _ => True) kR kR ?_ ?_ ?_
  ·
   intro ix v wv wv2 h hs
   match ix, h with
   | 0, h => exact h
   | 1, h => exact h
   | 2, h => exact h
   | 3, h => exact h
   | 4, h => exact h
   | 5, h => exact h
   | 6, h => exact h
   | 7, h => exact h
   | 8, h => exact h
   | 9, h => exact h
   | 10, h => exact h
   | 11, h => exact h
   | 12, h => exact h
   | 13, h => exact h
   | 14, h => exact h
   | 15, h => exact h
   | 16, h => exact h
   | 17, h => exact h
   | 18, h => exact h
   | 19, h => exact h
   | 20, h => exact h
   | 21, h => exact h
   | 22, h => exact h
   | 23, h => exact h
   | 24, h => exact h
   | 25, h => exact h
   | _ + 26, h => exact trivial
  ·
   intro ix o hix hoq gg wx hs hd hdis
   match ix, hix, hoq with
   | 0, _, hoq =>
    obtain rfl := sI hoq
    have hs0 := hs
    replace hbp := hbp.tr0 hs
    clear hs
    refine os_rv (r_mv (v := .pointer (some _)) rfl) ⟨Same.refl _ _, ?_, frsh_no⟩
    exact rfl
   | 1, _, hoq =>
    obtain rfl := sI hoq
    have hs0 := hs
    replace hbp := hbp.tr0 hs
    clear hs
    have d0 : gg 51 = .pointer (some ⟨bp, 0, none⟩) := hd 0 (dep_of kR)
    have e51 := d0
    refine os_know 51 (.pointer (some ⟨bp, 0, none⟩)) e51 nu ?_
    refine os_rv (r_nc rfl) ⟨Same.refl _ _, ?_, frsh_no⟩
    exact rfl
   | 2, _, hoq =>
    obtain rfl := sI hoq
    have hs0 := hs
    replace hbp := hbp.tr0 hs
    clear hs
    have d1 : gg 52 = .pointer (some ⟨bp, 0, none⟩) := hd 1 (dep_of kR)
    have e52 := d1
    refine os_know 52 (.pointer (some ⟨bp, 0, none⟩)) e52 nu ?_
    refine os_rv (r_fa U143 sz92_SFind dE rfl rfl rfl) ⟨Same.refl _ _, ?_, frsh_no⟩
    exact rfl
   | 3, _, hoq =>
    obtain rfl := sI hoq
    have hs0 := hs
    replace hbp := hbp.tr0 hs
    clear hs
    have d2 : gg 53 = .pointer (some ⟨bp, 0, none⟩) := hd 2 (dep_of kR)
    have e53 := d2
    refine os_know 53 (.pointer (some ⟨bp, 0, none⟩)) e53 nu ?_
    refine os_rv (r_ldS U92 rfl rfl (range_two hbp rfl rfl) sz92_SFind) ⟨Same.refl _ _, ?_, frsh_no⟩
    exact rfl
   | 4, _, hoq =>
    obtain rfl := sI hoq
    have hs0 := hs
    replace hbp := hbp.tr0 hs
    clear hs
    refine os_rv (r_mv (v := .pointer (some _)) rfl) ⟨Same.refl _ _, ?_, frsh_no⟩
    exact rfl
   | 5, _, hoq =>
    obtain rfl := sI hoq
    have hs0 := hs
    replace hbp := hbp.tr0 hs
    clear hs
    have d4 : gg 55 = .pointer (some ⟨bp, 0, none⟩) := hd 4 (dep_of kR)
    have e55 := d4
    refine os_know 55 (.pointer (some ⟨bp, 0, none⟩)) e55 nu ?_
    refine os_rv (r_nc rfl) ⟨Same.refl _ _, ?_, frsh_no⟩
    exact rfl
   | 6, _, hoq =>
    obtain rfl := sI hoq
    have hs0 := hs
    replace hbp := hbp.tr0 hs
    clear hs
    have d5 : gg 56 = .pointer (some ⟨bp, 0, none⟩) := hd 5 (dep_of kR)
    have e56 := d5
    refine os_know 56 (.pointer (some ⟨bp, 0, none⟩)) e56 nu ?_
    refine os_rv (r_fa U143 sz43_PFind dE rfl rfl rfl) ⟨Same.refl _ _, ?_, frsh_no⟩
    exact rfl
   | 7, _, hoq =>
    obtain rfl := sI hoq
    have hs0 := hs
    replace hbp := hbp.tr0 hs
    clear hs
    have d6 : gg 57 = .pointer (some ⟨bp, 3, none⟩) := hd 6 (dep_of kR)
    have e57 := d6
    refine os_know 57 (.pointer (some ⟨bp, 3, none⟩)) e57 nu ?_
    refine os_rv (r_ld1 (v := .slice _ _ _) U43 rfl rfl (hbp.cell rfl)) ⟨Same.refl _ _, ?_, frsh_no⟩
    exact rfl
   | 8, _, hoq =>
    obtain rfl := sI hoq
    have hs0 := hs
    clear hs
    refine os_rv (r_mv (v := .int _ _) rfl) ⟨Same.refl _ _, ?_, frsh_no⟩
    exact rfl
   | 9, _, hoq =>
    obtain rfl := sI hoq
    have hs0 := hs
    clear hs
    have d7 : gg 58 = .slice (some ⟨qt, 0, none⟩) U.length ct := hd 7 (dep_of kR)
    have e58 := d7
    have d8 : gg 59 = .int .i64 (a : Nat) := hd 8 (dep_of kR)
    have e59 := d8
    refine os_know 58 (.slice (some ⟨qt, 0, none⟩) U.length ct) e58 nu (os_know 59 (.int .i64 (a : Nat)) e59 nu ?_)
    refine os_rv (r_ia (i := a) U43 sz3_GSearch rfl rfl hal rfl) ⟨Same.refl _ _, ?_, frsh_no⟩
    exact rfl
   | 10, _, hoq =>
    obtain rfl := sI hoq
    have hs0 := hs
    replace hta := hta.tr0 hs
    clear hs
    have d9 : gg 60 = .pointer (some ⟨qt, 0 + a * 1, none⟩) := hd 9 (dep_of kR)
    have e60 := d9
    refine os_know 60 (.pointer (some ⟨qt, 0 + a * 1, none⟩)) e60 nu ?_
    refine os_rv (r_ld1 (v := .int _ _) U3 rfl rfl (by have h := hta.rowq hal; unfold vI at h; rw [hta_] at h; exact h)) ⟨Same.refl _ _, ?_, frsh_no⟩
    exact rfl
   | 11, _, hoq =>
    obtain rfl := sI hoq
    have hs0 := hs
    replace hbp := hbp.tr0 hs
    clear hs
    refine os_rv (r_mv (v := .pointer (some _)) rfl) ⟨Same.refl _ _, ?_, frsh_no⟩
    exact rfl
   | 12, _, hoq =>
    obtain rfl := sI hoq
    have hs0 := hs
    replace hbp := hbp.tr0 hs
    clear hs
    have d11 : gg 62 = .pointer (some ⟨bp, 0, none⟩) := hd 11 (dep_of kR)
    have e62 := d11
    refine os_know 62 (.pointer (some ⟨bp, 0, none⟩)) e62 nu ?_
    refine os_rv (r_nc rfl) ⟨Same.refl _ _, ?_, frsh_no⟩
    exact rfl
   | 13, _, hoq =>
    obtain rfl := sI hoq
    have hs0 := hs
    replace hbp := hbp.tr0 hs
    clear hs
    have d12 : gg 63 = .pointer (some ⟨bp, 0, none⟩) := hd 12 (dep_of kR)
    have e63 := d12
    refine os_know 63 (.pointer (some ⟨bp, 0, none⟩)) e63 nu ?_
    refine os_rv (r_fa U143 sz43_PFind dE rfl rfl rfl) ⟨Same.refl _ _, ?_, frsh_no⟩
    exact rfl
   | 14, _, hoq =>
    obtain rfl := sI hoq
    have hs0 := hs
    replace hbp := hbp.tr0 hs
    clear hs
    have d13 : gg 64 = .pointer (some ⟨bp, 3, none⟩) := hd 13 (dep_of kR)
    have e64 := d13
    refine os_know 64 (.pointer (some ⟨bp, 3, none⟩)) e64 nu ?_
    refine os_rv (r_ld1 (v := .slice _ _ _) U43 rfl rfl (hbp.cell rfl)) ⟨Same.refl _ _, ?_, frsh_no⟩
    exact rfl
   | 15, _, hoq =>
    obtain rfl := sI hoq
    have hs0 := hs
    clear hs
    refine os_rv (r_mv (v := .int _ _) rfl) ⟨Same.refl _ _, ?_, frsh_no⟩
    exact rfl
   | 16, _, hoq =>
    obtain rfl := sI hoq
    have hs0 := hs
    clear hs
    have d14 : gg 65 = .slice (some ⟨qt, 0, none⟩) U.length ct := hd 14 (dep_of kR)
    have e65 := d14
    have d15 : gg 66 = .int .i64 (b : Nat) := hd 15 (dep_of kR)
    have e66 := d15
    refine os_know 65 (.slice (some ⟨qt, 0, none⟩) U.length ct) e65 nu (os_know 66 (.int .i64 (b : Nat)) e66 nu ?_)
    refine os_rv (r_ia (i := b) U43 sz3_GSearch rfl rfl hbl rfl) ⟨Same.refl _ _, ?_, frsh_no⟩
    exact rfl
   | 17, _, hoq =>
    obtain rfl := sI hoq
    have hs0 := hs
    replace hta := hta.tr0 hs
    clear hs
    have d16 : gg 67 = .pointer (some ⟨qt, 0 + b * 1, none⟩) := hd 16 (dep_of kR)
    have e67 := d16
    refine os_know 67 (.pointer (some ⟨qt, 0 + b * 1, none⟩)) e67 nu ?_
    refine os_rv (r_ld1 (v := .int _ _) U3 rfl rfl (by have h := hta.rowq hbl; unfold vI at h; rw [htb_] at h; exact h)) ⟨Same.refl _ _, ?_, frsh_no⟩
    exact rfl
   | 18, _, hoq =>
    obtain rfl := sI hoq
    have hs0 := hs
    replace hB := hB.tr0 hs
    clear hs
    have d3 : gg 54 = .agg #[.slice (some ⟨bu, 0, none⟩) l.length l.length, .slice (some ⟨bd, 0, none⟩) l.length l.length] := hd 3 (dep_of kR)
    have e54 := d3
    have d10 : gg 61 = .int .i64 (ta : Nat) := hd 10 (dep_of kR)
    have e61 := d10
    have d17 : gg 68 = .int .i64 (tb : Nat) := hd 17 (dep_of kR)
    have e68 := d17
    refine os_know 54 (.agg #[.slice (some ⟨bu, 0, none⟩) l.length l.length, .slice (some ⟨bd, 0, none⟩) l.length l.length]) e54 nu (os_know 61 (.int .i64 (ta : Nat)) e61 nu (os_know 68 (.int .i64 (tb : Nat)) e68 nu ?_))
    refine os_cl fn80_PJoin (meet_any l bu bd ta tb wx (hTab.mono hB) (hTI.mono hB) hSnd.vt hl60 om om) rfl (fun e' w2 hr => ?_)
    obtain ⟨rfl, hs⟩ := hr
    exact ⟨_, rfl, Same.of_bel hs, rfl, frsh_no⟩
   | 19, _, hoq =>
    obtain rfl := sI hoq
    have hs0 := hs
    clear hs
    have d18 : gg 69 = .tuple #[.int .i64 ((meet l ta tb).1 : Nat), .bool (meet l ta tb).2.1, .bool (meet l ta tb).2.2] := hd 18 (dep_of kR)
    have e69 := d18
    refine os_know 69 (.tuple #[.int .i64 ((meet l ta tb).1 : Nat), .bool (meet l ta tb).2.1, .bool (meet l ta tb).2.2]) e69 nu ?_
    refine os_rv (r_mv (v := .tuple _) rfl) ⟨Same.refl _ _, ?_, frsh_no⟩
    exact rfl
   | 20, _, hoq =>
    obtain rfl := sI hoq
    have hs0 := hs
    clear hs
    have d19 : gg 50 = .tuple #[.int .i64 ((meet l ta tb).1 : Nat), .bool (meet l ta tb).2.1, .bool (meet l ta tb).2.2] := hd 19 (dep_of kR)
    have e50 := d19
    refine os_know 50 (.tuple #[.int .i64 ((meet l ta tb).1 : Nat), .bool (meet l ta tb).2.1, .bool (meet l ta tb).2.2]) e50 nu ?_
    refine os_rv (r_ex (v := _) rfl rfl) ⟨Same.refl _ _, ?_, frsh_no⟩
    exact rfl
   | 21, _, hoq =>
    obtain rfl := sI hoq
    have hs0 := hs
    clear hs
    have d19 : gg 50 = .tuple #[.int .i64 ((meet l ta tb).1 : Nat), .bool (meet l ta tb).2.1, .bool (meet l ta tb).2.2] := hd 19 (dep_of kR)
    have e50 := d19
    refine os_know 50 (.tuple #[.int .i64 ((meet l ta tb).1 : Nat), .bool (meet l ta tb).2.1, .bool (meet l ta tb).2.2]) e50 nu ?_
    refine os_rv (r_ex (v := _) rfl rfl) ⟨Same.refl _ _, ?_, frsh_no⟩
    exact rfl
   | 22, _, hoq =>
    obtain rfl := sI hoq
    have hs0 := hs
    clear hs
    have d19 : gg 50 = .tuple #[.int .i64 ((meet l ta tb).1 : Nat), .bool (meet l ta tb).2.1, .bool (meet l ta tb).2.2] := hd 19 (dep_of kR)
    have e50 := d19
    refine os_know 50 (.tuple #[.int .i64 ((meet l ta tb).1 : Nat), .bool (meet l ta tb).2.1, .bool (meet l ta tb).2.2]) e50 nu ?_
    refine os_rv (r_ex (v := _) rfl rfl) ⟨Same.refl _ _, ?_, frsh_no⟩
    exact rfl
   | 23, _, hoq =>
    obtain rfl := sI hoq
    have hs0 := hs
    clear hs
    have d20 : gg 70 = .int .i64 ((meet l ta tb).1 : Nat) := hd 20 (dep_of kR)
    have e70 := d20
    refine os_know 70 (.int .i64 ((meet l ta tb).1 : Nat)) e70 nu ?_
    refine os_rv (r_as (v := .int _ _) rfl) ⟨Same.refl _ _, ?_, frsh_no⟩
    exact rfl
   | 24, _, hoq =>
    obtain rfl := sI hoq
    have hs0 := hs
    clear hs
    have d21 : gg 71 = .bool (meet l ta tb).2.1 := hd 21 (dep_of kR)
    have e71 := d21
    refine os_know 71 (.bool (meet l ta tb).2.1) e71 nu ?_
    refine os_rv (r_as (v := .bool _) rfl) ⟨Same.refl _ _, ?_, frsh_no⟩
    exact rfl
   | 25, _, hoq =>
    obtain rfl := sI hoq
    have hs0 := hs
    clear hs
    have d22 : gg 72 = .bool (meet l ta tb).2.2 := hd 22 (dep_of kR)
    have e72 := d22
    refine os_know 72 (.bool (meet l ta tb).2.2) e72 nu ?_
    refine os_rv (r_as (v := .bool _) rfl) ⟨Same.refl _ _, ?_, frsh_no⟩
    exact rfl
   | _ + 26, hix, _ => exact absurd hix om
  intro gg w5 hs hR hdis
  have hs0 := hs
  replace hB := hB.tr0 hs
  replace hbp := hbp.tr0 hs
  replace hta := hta.tr0 hs
  replace hla := hla.tr0 hs
  replace hrw := fun x hx => (hrw x hx).tr hs (by simp)
  replace hCS := And.intro (hCS.1.st hs hCS.2 (by simp)) (nLT hCS.2 (Same.size hs))
  replace hW := hW.tr0 hs
  replace hbz := nLT hbz (Same.size hs)
  replace hpa := hpa.tr0 hs
  clear hs
  have d23 : gg 10 = .int .i64 ((meet l ta tb).1 : Nat) := hR 23 dE
  have e10 := d23
  have d24 : gg 11 = .bool (meet l ta tb).2.1 := hR 24 dE
  have e11 := d24
  have d25 : gg 12 = .bool (meet l ta tb).2.2 := hR 25 dE
  have e12 := d25
  refine wl_know 10 (.int .i64 ((meet l ta tb).1 : Nat)) e10 nu (wl_know 11 (.bool (meet l ta tb).2.1) e11 nu (wl_know 12 (.bool (meet l ta tb).2.2) e12 nu (x_nil (e_S (c_seq ?_)))))
  refine c_seq (c_region (wmB rfl (wl (r_not rfl) (x_nil (e_S ?_)))))
  refine c_if rfl (fun c74 => ?_) (fun c74 => ?_)
  ·
   have hmf : (meet l ta tb).2.1 = false := by simpa using c74
   have hno := hus1.fail hSnd (by rw [ex, ey, ha, hb, hta_, htb_, Int.toNat_natCast, Int.toNat_natCast]; exact hmf)
   refine c_seq (c_region (waB rfl (x_nil (e_S (c_ret ?_)))))
   refine e_Sr (e_Br (e_LSr (e_Br (e_Sr (fin1 (.inl rfl) rfl rfl ?_)))))
   exact ⟨⟨false, rfl, fun h => (by cases h), fun _ => hno⟩, hCS.1, hCS.2⟩
  have hmt : (meet l ta tb).2.1 = true := by simpa using c74
  have hme := meet_true hmt
  obtain ⟨mm, hmm⟩ : ∃ mm, (meet l ta tb).1 = mm := ⟨_, rfl⟩
  rw [hmm] at hme
  refine c_know 10 (.int .i64 (mm : Nat)) (congrArg (fun (z : Nat) => Value.int .i64 (z : Int)) hmm) nu ?_
  have hus2 := hus1.join hSnd (a := a) (b := b) (m := mm) (by rw [ex]; exact ha) (by rw [ey]; exact hb) hab (by rw [hta_, htb_, Int.toNat_natCast, Int.toNat_natCast]; exact hme)
  refine c_skip (e_S (c_seq ?_))
  obtain ⟨g0, cur, hA0, _, hbA, hszA, hrdA, hclA⟩ := hpa.open_ (show 0 < U.length by omega)
  cases hA0
  have or_hW_qp := own_blk_ne hW hbA dE
  refine c_region (wl (r_mv (v := .pointer (some _)) rfl) (wl (r_nc rfl) (wl (r_fa U143 sz43_PFind dE rfl rfl rfl) (wl (r_ld1 (v := .slice _ _ _) U43 rfl rfl (hbp.cell rfl)) (wmI rfl ?_)))))
  refine wmI rfl (wl (r_ia (i := b) U43 sz3_GSearch rfl rfl hbl rfl) ?_)
  refine wl_st1 (v := .int _ _) hbA rfl rfl sz3_GSearch om rfl rfl (fun w6 hq hs => ?_)
  replace hB := hB.tr1 hs (nLT hw0 (by assumption))
  replace hbp := hbp.tr1 hs om
  replace hta := hta.tr1 hs (fun g hg => by have := (hta.lt g hg).1; (try have := or_hta_qp g hg); omega)
  replace hla := hla.tr1 hs (fun g hg => by have := (hla.lt g hg).1; (try have := or_hla_qp g hg); omega)
  replace hrw := fun x hx => (hrw x hx).tr hs (fun g hg => by rw [List.mem_singleton.1 hg]; first | exact .inr ⟨_, _, hbA, by decide⟩ | exact .inl om)
  replace hCS := And.intro (hCS.1.st hs hCS.2 (fun g hg => by have h1 := List.mem_singleton.1 hg; first | (left; rw [h1]; simp; done) | (right; omega))) (nLT hCS.2 (Same.size hs))
  replace hW := hW.tr1 hs (fun g hg => by have := (hW.lt g hg).1; (try have := or_hW_qp g hg); omega)
  replace hbz := nLT hbz (Same.size hs)
  clear hs
  replace hbA := hq
  have hpa : Own w6 ob 3 1 (some ⟨qp, 0, none⟩) U.length cp (rowL U.length (vN (setN Q2 b a))) := by
    have h := hclA _ _ _ hbA
    rw [show 0 + b * 1 = b by omega, rowL_set, rowL_congr (g' := vN (setN Q2 b a)) (fun x _ => by by_cases e : x = b <;> simp [vN, setN, e])] at h
    exact h
  refine x_nil (e_S (c_seq ?_))
  clear hbA hclA hrdA hszA
  obtain ⟨g0, cur, hA0, _, hbA, hszA, hrdA, hclA⟩ := hta.open_ (show 0 < U.length by omega)
  cases hA0
  have or_hW_qt := own_blk_ne hW hbA dE
  refine c_region (wl (r_mv (v := .pointer (some _)) rfl) (wl (r_nc rfl) (wl (r_fa U143 sz43_PFind dE rfl rfl rfl) (wl (r_ld1 (v := .slice _ _ _) U43 rfl rfl (hbp.cell rfl)) (wmI rfl ?_)))))
  refine wmI rfl (wl (r_ia (i := a) U43 sz3_GSearch rfl rfl hal rfl) ?_)
  refine wl_st1 (v := .int _ _) hbA rfl rfl sz3_GSearch om rfl rfl (fun w7 hq hs => ?_)
  replace hB := hB.tr1 hs (nLT hw0 (by assumption))
  replace hbp := hbp.tr1 hs om
  replace hla := hla.tr1 hs (fun g hg => by have := (hla.lt g hg).1; (try have := or_hla_qt g hg); omega)
  replace hrw := fun x hx => (hrw x hx).tr hs (fun g hg => by rw [List.mem_singleton.1 hg]; first | exact .inr ⟨_, _, hbA, by decide⟩ | exact .inl om)
  replace hCS := And.intro (hCS.1.st hs hCS.2 (fun g hg => by have h1 := List.mem_singleton.1 hg; first | (left; rw [h1]; simp; done) | (right; omega))) (nLT hCS.2 (Same.size hs))
  replace hW := hW.tr1 hs (fun g hg => by have := (hW.lt g hg).1; (try have := or_hW_qt g hg); omega)
  replace hbz := nLT hbz (Same.size hs)
  replace hpa := hpa.tr1 hs (fun g hg => by have := (hpa.lt g hg).1; (try have := or_hpa_qt g hg); omega)
  clear hs
  replace hbA := hq
  have hta : Own w7 ob 3 1 (some ⟨qt, 0, none⟩) U.length ct (rowL U.length (vI (fun x => if x = a then (mm : Int) else T x))) := by
    have h := hclA _ _ _ hbA
    rw [show 0 + a * 1 = a by omega, rowL_set, rowL_congr (g' := vI (fun x => if x = a then (mm : Int) else T x)) (fun x _ => by by_cases e : x = a <;> simp [vI, e])] at h
    exact h
  refine x_nil (e_S (c_seq (c_region (waS rfl (x_nil ?_)))))
  refine e_S (c_seq ?_)
  clear hbA hclA hrdA hszA
  obtain ⟨Ax, cx, hVa, _⟩ := hrw a hal
  obtain ⟨Ay, cy, hVb, _⟩ := hrw b hbl
  obtain ⟨zl, hzle⟩ : ∃ z, z = w7.heap.size := ⟨_, rfl⟩
  have hzl : zl ≤ w7.heap.size := Nat.le_of_eq hzle
  have hlz : w0.heap.size ≤ zl := by rw [hzle]; exact Bel.size hB
  have hbl1 : bs ≤ zl := by rw [hzle]; exact hbz
  have hol : ob ≤ zl := by rw [hzle]; exact hCS.2
  refine c_still kR kR (fun w8 hs => ?_)
  replace hB := hB.tr0 hs
  replace hbp := hbp.tr0 hs
  replace hla := hla.tr0 hs
  replace hrw := fun x hx => (hrw x hx).tr hs (by simp)
  replace hCS := And.intro (hCS.1.st hs hCS.2 (by simp)) (nLT hCS.2 (Same.size hs))
  replace hW := hW.tr0 hs
  replace hbz := nLT hbz (Same.size hs)
  replace hpa := hpa.tr0 hs
  replace hta := hta.tr0 hs
  replace hzl := nLT hzl (Same.size hs)
  clear hs
  refine ws (r_mv (v := .pointer (some _)) rfl) (ws (r_nc rfl) (ws (r_fa U143 sz141 dE rfl rfl rfl) (ws (r_ld1 (v := .slice _ _ _) U141 rfl rfl (hbp.cell rfl)) (ws (r_mv (v := .int _ _) rfl) (ws (r_ia (i := a) U141 sz31_GTgt rfl rfl hal rfl) ?_)))))
  refine ws (r_ld1 (v := .slice Ax (L a).length cx) U31 rfl rfl (by have h := hla.rowq hal; rw [hVa] at h; exact h)) (ws (r_mv (v := .pointer (some _)) rfl) (ws (r_nc rfl) (ws (r_fa U143 sz141 dE rfl rfl rfl) (ws (r_ld1 (v := .slice _ _ _) U141 rfl rfl (hbp.cell rfl)) (ws (r_mv (v := .int _ _) rfl) ?_)))))
  refine ws (r_ia (i := b) U141 sz31_GTgt rfl rfl hbl rfl) (ws (r_ld1 (v := .slice Ay (L b).length cy) U31 rfl rfl (by have h := hla.rowq hbl; rw [hVb] at h; exact h)) (ws (r_as (v := .slice _ _ _) rfl) (ws (r_as (v := .slice _ _ _) rfl) (s_nil (e_S ?_)))))
  refine c_seq (c_block ?_)
  refine c_loopS [7, 13, 14, 15, 16, 103, 104, 105, 106, 107, 108, 109, 110, 111, 112, 113, 114, 115, 116, 117, 118, 119, 120, 121, 122, 123, 124, 125, 126, 127, 128, 129, 130, 131, 132, 133, 134, 135, 136, 137, 138, 139, 140, 141, 142, 143, 144, 145, 146, 147, 148, 149, 150, 151, 152, 153, 154, 155, 156, 157, 158, 159, 160, 161, 162, 163] (fun m g w' => ∃ (acc xs ys W2 : List (Int × Int)) (A13 A14 A15 WA : Option Addr) (c13 c14 c15 capW : Nat), m = xs.length + ys.length ∧ g 13 = .slice A13 acc.length c13 ∧ g 14 = .slice A14 xs.length c14 ∧ g 15 = .slice A15 ys.length c15 ∧ g 7 = .slice WA W2.length capW ∧ Bel w0 w' ∧ Blk w' bp 143 #[.slice (some ⟨bu, 0, none⟩) l.length l.length, .slice (some ⟨bd, 0, none⟩) l.length l.length, .slice (some ⟨qp, 0, none⟩) U.length cp, .slice (some ⟨qt, 0, none⟩) U.length ct, .slice (some ⟨ql, 0, none⟩) U.length cl] ∧ Own w' ob 3 1 (some ⟨qp, 0, none⟩) U.length cp (rowL U.length (vN (setN Q2 b a))) ∧ Own w' ob 3 1 (some ⟨qt, 0, none⟩) U.length ct (rowL U.length (vI (fun x => if x = a then (mm : Int) else T x))) ∧ Own w' ob 31 1 (some ⟨ql, 0, none⟩) U.length cl (rowL U.length V) ∧ (∀ x, x < U.length → RowO w' ob bs (V x) (L x)) ∧ Own w' ob 151 2 WA (W2).length capW (lnV (W2)) ∧ (Chg ob [bp] w w' ∧ ob ≤ w'.heap.size) ∧ bs ≤ w'.heap.size ∧ zl ≤ w'.heap.size ∧ Own w' zl 30 2 A13 acc.length c13 (lnV acc) ∧ Suf w' ob bs (.slice A14 xs.length c14) xs ∧ Suf w' ob bs (.slice A15 ys.length c15) ys ∧ MG (L a) (L b) acc xs ys W1 W2) ((L a).length + (L b).length) ?_ (fun m g13 w9 hI => ?_)
  ·
   exact ⟨[], L a, L b, W1, none, Ax, Ay, _, 0, cx, cy, capW, rfl, rfl, rfl, rfl, rfl, hB, hbp, hpa, hta, hla, hrw, hW, hCS, hbz, hzl, Own.nil _ _ _ _, by rw [← hVa]; exact Suf.of (hrw a hal), by rw [← hVb]; exact Suf.of (hrw b hbl), MG.start _ _ _⟩
  obtain ⟨acc, xs, ys, W2, A13, A14, A15, WA, c13, c14, c15, capW, hmm13, h13, h14, h15, h7, hB, hbp, hpa, hta, hla, hrw, hW, hCS, hbz, hzl, hacc, hsx, hsy, hmg⟩ := hI
  refine c_know 13 (.slice A13 acc.length c13) h13 nu (c_know 14 (.slice A14 xs.length c14) h14 nu (c_know 15 (.slice A15 ys.length c15) h15 nu (c_know 7 (.slice WA W2.length capW) h7 nu (c_seq (c_seq ?_)))))
  refine c_cut1 [103, 104, 105, 106, 107, 108, 109, 110] 110 (.bool (decide (0 < xs.length ∧ 0 < ys.length))) nu ?_ (fun gq => ?_)
  ·
   refine c_region (wmS rfl (wl (r_len U31 rfl) (wl (r_gtr rfl rfl) (wmB rfl ?_))))
   refine wl_casesd 106 rfl (fun g106 => ?_) (fun g106 => ?_)
   ·
    refine wl_gd 106 rfl rfl (wmS rfl (wl_gd 106 rfl rfl (wl (r_len U31 rfl) (wl_gd 106 rfl rfl (wl (r_gtr rfl rfl) ?_)))))
    refine wl (r_pt (v := .bool _) rfl rfl) ?_
    refine x_nil (e_R ⟨rfl, agA, ?_⟩)
    exact clA
   refine wlgn 106 rfl rfl rfl (wlgn 106 rfl rfl rfl (wlgn 106 rfl rfl rfl (wl (r_pf (v := .bool _) rfl rfl) ?_)))
   refine x_nil (e_R ⟨rfl, agA, ?_⟩)
   exact clA
  refine e_S ?_
  refine c_ifd rfl (fun c110 => ?_) (fun c110 => ?_)
  ·
   obtain ⟨zx, xr, rfl⟩ := consP c110.1
   obtain ⟨zy, yr, rfl⟩ := consP c110.2
   obtain ⟨gx, ox, rfl, _, _⟩ := hsx.cons.at_
   obtain ⟨gy, oy, rfl, _, _⟩ := hsy.cons.at_
   have hmgl := hmg.l
   have hmg2' := hmg.l2
   simp only [List.length_cons] at hmgl hmg2' hmm13
   refine c_skip (e_S (c_block (c_seq ?_)))
   refine c_monoTO 10 [111, 112, 113, 114, 115, 116, 117, 118, 119, 16] (fun _ => false) (fun ix v wv => match ix with | 0 => v = .slice (some ⟨gx, ox, none⟩) (zx :: xr).length c14 | 1 => v = .pointer (some ⟨gx, ox + 0 * 2, none⟩) | 2 => v = .pointer (some ⟨gx, ox + 0 * 2 + 0, none⟩) | 3 => v = .int .i64 zx.1 | 4 => v = .slice (some ⟨gy, oy, none⟩) (zy :: yr).length c15 | 5 => v = .pointer (some ⟨gy, oy + 0 * 2, none⟩) | 6 => v = .pointer (some ⟨gy, oy + 0 * 2 + 0, none⟩) | 7 => v = .int .i64 zy.1 | 8 => v = .int .i64 (cmpI zx.1 zy.1) | 9 => v = .int .i64 (cmpI zx.1 zy.1) | _ => True) kR kR ?_ ?_ ?_
   ·
    intro ix v wv wv2 h hs
    match ix, h with
    | 0, h => exact h
    | 1, h => exact h
    | 2, h => exact h
    | 3, h => exact h
    | 4, h => exact h
    | 5, h => exact h
    | 6, h => exact h
    | 7, h => exact h
    | 8, h => exact h
    | 9, h => exact h
    | _ + 10, h => exact trivial
   ·
    intro ix o hix hoq gg wx hs hd hdis
    match ix, hix, hoq with
    | 0, _, hoq =>
     obtain rfl := sI hoq
     have hs0 := hs
     clear hs
     refine os_rv (r_mv (v := .slice _ _ _) rfl) ⟨Same.refl _ _, ?_, frsh_no⟩
     exact rfl
    | 1, _, hoq =>
     obtain rfl := sI hoq
     have hs0 := hs
     clear hs
     have d0 : gg 111 = .slice (some ⟨gx, ox, none⟩) (zx :: xr).length c14 := hd 0 (dep_of kR)
     have e111 := d0
     refine os_know 111 (.slice (some ⟨gx, ox, none⟩) (zx :: xr).length c14) e111 nu ?_
     refine os_rv (r_ia (i := 0) U31 sz30_GSearch rfl rfl (by simp) rfl) ⟨Same.refl _ _, ?_, frsh_no⟩
     exact rfl
    | 2, _, hoq =>
     obtain rfl := sI hoq
     have hs0 := hs
     clear hs
     have d1 : gg 112 = .pointer (some ⟨gx, ox + 0 * 2, none⟩) := hd 1 (dep_of kR)
     have e112 := d1
     refine os_know 112 (.pointer (some ⟨gx, ox + 0 * 2, none⟩)) e112 nu ?_
     refine os_rv (r_fa U30 sz3_GSearch dE rfl rfl rfl) ⟨Same.refl _ _, ?_, frsh_no⟩
     exact rfl
    | 3, _, hoq =>
     obtain rfl := sI hoq
     have hs0 := hs
     replace hsx := hsx.tr hs (by simp)
     clear hs
     have d2 : gg 113 = .pointer (some ⟨gx, ox + 0 * 2 + 0, none⟩) := hd 2 (dep_of kR)
     have e113 := d2
     refine os_know 113 (.pointer (some ⟨gx, ox + 0 * 2 + 0, none⟩)) e113 nu ?_
     refine os_rv (r_ld1 (v := .int _ _) U3 rfl rfl (hsx.rng 0 _ rfl)) ⟨Same.refl _ _, ?_, frsh_no⟩
     exact rfl
    | 4, _, hoq =>
     obtain rfl := sI hoq
     have hs0 := hs
     clear hs
     refine os_rv (r_mv (v := .slice _ _ _) rfl) ⟨Same.refl _ _, ?_, frsh_no⟩
     exact rfl
    | 5, _, hoq =>
     obtain rfl := sI hoq
     have hs0 := hs
     clear hs
     have d4 : gg 115 = .slice (some ⟨gy, oy, none⟩) (zy :: yr).length c15 := hd 4 (dep_of kR)
     have e115 := d4
     refine os_know 115 (.slice (some ⟨gy, oy, none⟩) (zy :: yr).length c15) e115 nu ?_
     refine os_rv (r_ia (i := 0) U31 sz30_GSearch rfl rfl (by simp) rfl) ⟨Same.refl _ _, ?_, frsh_no⟩
     exact rfl
    | 6, _, hoq =>
     obtain rfl := sI hoq
     have hs0 := hs
     clear hs
     have d5 : gg 116 = .pointer (some ⟨gy, oy + 0 * 2, none⟩) := hd 5 (dep_of kR)
     have e116 := d5
     refine os_know 116 (.pointer (some ⟨gy, oy + 0 * 2, none⟩)) e116 nu ?_
     refine os_rv (r_fa U30 sz3_GSearch dE rfl rfl rfl) ⟨Same.refl _ _, ?_, frsh_no⟩
     exact rfl
    | 7, _, hoq =>
     obtain rfl := sI hoq
     have hs0 := hs
     replace hsy := hsy.tr hs (by simp)
     clear hs
     have d6 : gg 117 = .pointer (some ⟨gy, oy + 0 * 2 + 0, none⟩) := hd 6 (dep_of kR)
     have e117 := d6
     refine os_know 117 (.pointer (some ⟨gy, oy + 0 * 2 + 0, none⟩)) e117 nu ?_
     refine os_rv (r_ld1 (v := .int _ _) U3 rfl rfl (hsy.rng 0 _ rfl)) ⟨Same.refl _ _, ?_, frsh_no⟩
     exact rfl
    | 8, _, hoq =>
     obtain rfl := sI hoq
     have hs0 := hs
     clear hs
     have d3 : gg 114 = .int .i64 zx.1 := hd 3 (dep_of kR)
     have e114 := d3
     have d7 : gg 118 = .int .i64 zy.1 := hd 7 (dep_of kR)
     have e118 := d7
     refine os_know 114 (.int .i64 zx.1) e114 nu (os_know 118 (.int .i64 zy.1) e118 nu ?_)
     refine os_cl fn85 (compare_any zx.1 zy.1 wx) rfl (fun e' w2 hr => ?_)
     obtain ⟨rfl, hs⟩ := hr
     exact ⟨_, rfl, Same.of_bel hs, rfl, frsh_no⟩
    | 9, _, hoq =>
     obtain rfl := sI hoq
     have hs0 := hs
     clear hs
     have d8 : gg 119 = .int .i64 (cmpI zx.1 zy.1) := hd 8 (dep_of kR)
     have e119 := d8
     refine os_know 119 (.int .i64 (cmpI zx.1 zy.1)) e119 nu ?_
     refine os_rv (r_as (v := .int _ _) rfl) ⟨Same.refl _ _, ?_, frsh_no⟩
     exact rfl
    | _ + 10, hix, _ => exact absurd hix om
   intro gg w10 hs hR hdis
   have hs0 := hs
   replace hB := hB.tr0 hs
   replace hbp := hbp.tr0 hs
   replace hla := hla.tr0 hs
   replace hrw := fun x hx => (hrw x hx).tr hs (by simp)
   replace hCS := And.intro (hCS.1.st hs hCS.2 (by simp)) (nLT hCS.2 (Same.size hs))
   replace hbz := nLT hbz (Same.size hs)
   replace hpa := hpa.tr0 hs
   replace hta := hta.tr0 hs
   replace hW := hW.tr0 hs
   replace hacc := hacc.tr0 hs
   replace hsx := hsx.tr hs (by simp)
   replace hsy := hsy.tr hs (by simp)
   replace hzl := nLT hzl (Same.size hs)
   clear hs
   have d9 : gg 16 = .int .i64 (cmpI zx.1 zy.1) := hR 9 dE
   have e16 := d9
   refine wl_know 16 (.int .i64 (cmpI zx.1 zy.1)) e16 nu (x_nil (e_S (c_block (c_seq (c_region ?_)))))
   refine wmI rfl (wl (r_lss rfl rfl) (waB rfl (x_nil (e_S ?_))))
   refine c_ifd rfl (fun c142 => ?_) (fun c142 => ?_)
   ·
    have hmg2 := hmg.left (cmpI_lt.1 c142)
    obtain ⟨xs2, hxs2⟩ : ∃ s, s = xr := ⟨_, rfl⟩
    obtain ⟨ys2, hys2⟩ : ∃ s, s = zy :: yr := ⟨_, rfl⟩
    have hml : xs2.length + ys2.length + 1 = xr.length + 1 + (yr.length + 1) := by rw [hxs2, hys2, List.length_cons]; omega
    refine c_seq (c_region (wmS rfl (wmS rfl (wl (r_ia (i := 0) U31 sz30_GSearch rfl rfl (by simp) rfl) (wl (r_ldS U30 rfl rfl hsx.rng sz30_GSearch) ?_)))))
    refine wl_bs (cs := #[_, _]) [(0, .agg _)] rfl U31 sz30_GSearch ze30_GTgt dE dE kR rfl (fun b149 w11 hb149 hs hr => ?_)
    have or_bp_b149 : bp < b149 := nLL hbp.lt hr
    have or_hla_b149 := (fun (g : Nat) hg => nLL (hla.lt g hg).2 hr)
    have or_hCS_b149 := (nLT hCS.2 hr)
    have or_hbz_b149 := (nLT hbz hr)
    have or_hpa_b149 := (fun (g : Nat) hg => nLL (hpa.lt g hg).2 hr)
    have or_hta_b149 := (fun (g : Nat) hg => nLL (hta.lt g hg).2 hr)
    have or_hW_b149 := (fun (g : Nat) hg => nLL (hW.lt g hg).2 hr)
    have or_hacc_b149 := (fun (g : Nat) hg => nLL (hacc.lt g hg).2 hr)
    have or_hzl_b149 := (nLT hzl hr)
    have lo149 := nLT (Bel.size hB) hr
    replace hB := hB.tr0 hs
    replace hbp := hbp.tr0 hs
    replace hla := hla.tr0 hs
    replace hrw := fun x hx => (hrw x hx).tr hs (by simp)
    replace hCS := And.intro (hCS.1.st hs hCS.2 (by simp)) (nLT hCS.2 (Same.size hs))
    replace hbz := nLT hbz (Same.size hs)
    replace hpa := hpa.tr0 hs
    replace hta := hta.tr0 hs
    replace hW := hW.tr0 hs
    replace hacc := hacc.tr0 hs
    replace hsx := hsx.tr hs (by simp)
    replace hsy := hsy.tr hs (by simp)
    replace hzl := nLT hzl (Same.size hs)
    clear hs
    clear hr
    refine wl_app U31 in30_PAdd rfl dE hacc hb149 rfl rfl rfl oneA dE om om hzl (fun g150 cap150 w12 ho150 hs hg => ?_)
    have ne_ho150_bp : g150 ≠ bp := fun e => by
     have hl := hbp.lt
     rcases hg with hg | hg
     · have h1 := hacc.lt g150 (by rw [hg]; exact List.mem_singleton.2 rfl)
       (try have := or_hacc_bp g150 (by rw [hg]; exact List.mem_singleton.2 rfl)); omega
     · omega
    replace hB := hB.tr hs (fun g hg => nLT hlz (hacc.lt g hg).1)
    replace hbp := hbp.tr hs (fun hx => by have := (hacc.lt _ hx).1; (try have := or_hacc_bp _ hx); omega)
    replace hla := hla.tr hs (fun g hg hx => by first | exact own_ne hla hacc dE g hg hx | exact hdis g hg hx | exact hdis g hx hg | (have h1 := (hacc.lt g hx).1; (try have := hzz g hg); omega))
    replace hrw := fun x hx => (hrw x hx).tr hs (fun g hg => by first | exact .inl (by have := ((hacc).lt g hg).1; omega) | (obtain ⟨cs, h⟩ := (hacc).typ g hg; exact .inr ⟨_, _, h, by decide⟩))
    replace hCS := And.intro (hCS.1.st hs hCS.2 (fun g hg => .inr (by have := ((hacc).lt g hg).1; omega))) (nLT hCS.2 (Same.size hs))
    replace hbz := nLT hbz (Same.size hs)
    replace hpa := hpa.tr hs (fun g hg hx => by first | exact own_ne hpa hacc dE g hg hx | exact hdis g hg hx | exact hdis g hx hg | (have h1 := (hacc.lt g hx).1; (try have := hzz g hg); omega))
    replace hta := hta.tr hs (fun g hg hx => by first | exact own_ne hta hacc dE g hg hx | exact hdis g hg hx | exact hdis g hx hg | (have h1 := (hacc.lt g hx).1; (try have := hzz g hg); omega))
    replace hW := hW.tr hs (fun g hg hx => own_ne hW hacc dE g hg hx)
    replace hsx := hsx.tr hs (fun g hg => by first | exact .inl (by have := ((hacc).lt g hg).1; omega) | (obtain ⟨cs, h⟩ := (hacc).typ g hg; exact .inr ⟨_, _, h, by decide⟩))
    replace hsy := hsy.tr hs (fun g hg => by first | exact .inl (by have := ((hacc).lt g hg).1; omega) | (obtain ⟨cs, h⟩ := (hacc).typ g hg; exact .inr ⟨_, _, h, by decide⟩))
    replace hzl := nLT hzl (Same.size hs)
    have hac2 := own_lnV_snoc (k := 1) ho150 rfl
    refine waS rfl (x_nil (e_S ?_))
    replace hsx := hsx.cons.next
    rw [← hxs2] at hsx hmg2
    rw [← hys2] at hsy hmg2
    refine c_region (wmS rfl (wl (r_slL (l := 1) U31 sz30_GSearch rfl rfl (by simp)) (waS rfl (x_nil (e_B ?_)))))
    refine e_B (e_LS (xs2.length + ys2.length) om agA ?_)
    exact ⟨_, xs2, ys2, _, _, _, _, _, _, _, _, _, rfl, sl_snocP _ _ _ _, by first | rfl | (subst hxs2; rfl), by first | rfl | (subst hys2; rfl), by first | rfl | exact sl_snocP _ _ _ _, hB, hbp, hpa, hta, hla, hrw, hW, hCS, hbz, hzl, hac2, hsx, hsy, hmg2⟩
   refine c_seq (c_region (wmI rfl (wl (r_gtr rfl rfl) (waB rfl (x_nil ?_)))))
   refine e_S ?_
   refine c_ifd rfl (fun c153 => ?_) (fun c153 => ?_)
   ·
    have hmg2 := hmg.right (cmpI_gt.1 c153)
    obtain ⟨xs2, hxs2⟩ : ∃ s, s = zx :: xr := ⟨_, rfl⟩
    obtain ⟨ys2, hys2⟩ : ∃ s, s = yr := ⟨_, rfl⟩
    have hml : xs2.length + ys2.length + 1 = xr.length + 1 + (yr.length + 1) := by rw [hxs2, hys2, List.length_cons]; omega
    refine c_seq (c_region (wmS rfl (wmS rfl (wl (r_ia (i := 0) U31 sz30_GSearch rfl rfl (by simp) rfl) (wl (r_ldS U30 rfl rfl hsy.rng sz30_GSearch) ?_)))))
    refine wl_bs (cs := #[_, _]) [(0, .agg _)] rfl U31 sz30_GSearch ze30_GTgt dE dE kR rfl (fun b160 w13 hb160 hs hr => ?_)
    have or_bp_b160 : bp < b160 := nLL hbp.lt hr
    have or_hla_b160 := (fun (g : Nat) hg => nLL (hla.lt g hg).2 hr)
    have or_hCS_b160 := (nLT hCS.2 hr)
    have or_hbz_b160 := (nLT hbz hr)
    have or_hpa_b160 := (fun (g : Nat) hg => nLL (hpa.lt g hg).2 hr)
    have or_hta_b160 := (fun (g : Nat) hg => nLL (hta.lt g hg).2 hr)
    have or_hW_b160 := (fun (g : Nat) hg => nLL (hW.lt g hg).2 hr)
    have or_hacc_b160 := (fun (g : Nat) hg => nLL (hacc.lt g hg).2 hr)
    have or_hzl_b160 := (nLT hzl hr)
    have lo160 := nLT (Bel.size hB) hr
    replace hB := hB.tr0 hs
    replace hbp := hbp.tr0 hs
    replace hla := hla.tr0 hs
    replace hrw := fun x hx => (hrw x hx).tr hs (by simp)
    replace hCS := And.intro (hCS.1.st hs hCS.2 (by simp)) (nLT hCS.2 (Same.size hs))
    replace hbz := nLT hbz (Same.size hs)
    replace hpa := hpa.tr0 hs
    replace hta := hta.tr0 hs
    replace hW := hW.tr0 hs
    replace hacc := hacc.tr0 hs
    replace hsx := hsx.tr hs (by simp)
    replace hsy := hsy.tr hs (by simp)
    replace hzl := nLT hzl (Same.size hs)
    clear hs
    clear hr
    refine wl_app U31 in30_PAdd rfl dE hacc hb160 rfl rfl rfl oneA dE om om hzl (fun g161 cap161 w14 ho161 hs hg => ?_)
    have ne_ho161_bp : g161 ≠ bp := fun e => by
     have hl := hbp.lt
     rcases hg with hg | hg
     · have h1 := hacc.lt g161 (by rw [hg]; exact List.mem_singleton.2 rfl)
       (try have := or_hacc_bp g161 (by rw [hg]; exact List.mem_singleton.2 rfl)); omega
     · omega
    replace hB := hB.tr hs (fun g hg => nLT hlz (hacc.lt g hg).1)
    replace hbp := hbp.tr hs (fun hx => by have := (hacc.lt _ hx).1; (try have := or_hacc_bp _ hx); omega)
    replace hla := hla.tr hs (fun g hg hx => by first | exact own_ne hla hacc dE g hg hx | exact hdis g hg hx | exact hdis g hx hg | (have h1 := (hacc.lt g hx).1; (try have := hzz g hg); omega))
    replace hrw := fun x hx => (hrw x hx).tr hs (fun g hg => by first | exact .inl (by have := ((hacc).lt g hg).1; omega) | (obtain ⟨cs, h⟩ := (hacc).typ g hg; exact .inr ⟨_, _, h, by decide⟩))
    replace hCS := And.intro (hCS.1.st hs hCS.2 (fun g hg => .inr (by have := ((hacc).lt g hg).1; omega))) (nLT hCS.2 (Same.size hs))
    replace hbz := nLT hbz (Same.size hs)
    replace hpa := hpa.tr hs (fun g hg hx => by first | exact own_ne hpa hacc dE g hg hx | exact hdis g hg hx | exact hdis g hx hg | (have h1 := (hacc.lt g hx).1; (try have := hzz g hg); omega))
    replace hta := hta.tr hs (fun g hg hx => by first | exact own_ne hta hacc dE g hg hx | exact hdis g hg hx | exact hdis g hx hg | (have h1 := (hacc.lt g hx).1; (try have := hzz g hg); omega))
    replace hW := hW.tr hs (fun g hg hx => own_ne hW hacc dE g hg hx)
    replace hsx := hsx.tr hs (fun g hg => by first | exact .inl (by have := ((hacc).lt g hg).1; omega) | (obtain ⟨cs, h⟩ := (hacc).typ g hg; exact .inr ⟨_, _, h, by decide⟩))
    replace hsy := hsy.tr hs (fun g hg => by first | exact .inl (by have := ((hacc).lt g hg).1; omega) | (obtain ⟨cs, h⟩ := (hacc).typ g hg; exact .inr ⟨_, _, h, by decide⟩))
    replace hzl := nLT hzl (Same.size hs)
    have hac2 := own_lnV_snoc (k := 1) ho161 rfl
    refine waS rfl (x_nil (e_S ?_))
    replace hsy := hsy.cons.next
    rw [← hys2] at hsy hmg2
    rw [← hxs2] at hsx hmg2
    refine c_region (wmS rfl (wl (r_slL (l := 1) U31 sz30_GSearch rfl rfl (by simp)) (waS rfl (x_nil (e_B ?_)))))
    refine e_B (e_LS (xs2.length + ys2.length) om agA ?_)
    exact ⟨_, xs2, ys2, _, _, _, _, _, _, _, _, _, rfl, sl_snocP _ _ _ _, by first | rfl | (subst hxs2; rfl), by first | rfl | (subst hys2; rfl), by first | rfl | exact sl_snocP _ _ _ _, hB, hbp, hpa, hta, hla, hrw, hW, hCS, hbz, hzl, hac2, hsx, hsy, hmg2⟩
   have hmg2 := hmg.both (cmpI_eq.1 om)
   obtain ⟨xs2, hxs2⟩ : ∃ s, s = xr := ⟨_, rfl⟩
   obtain ⟨ys2, hys2⟩ : ∃ s, s = yr := ⟨_, rfl⟩
   have hml : xs2.length + ys2.length + 2 = xr.length + 1 + (yr.length + 1) := by rw [hxs2, hys2]; omega
   refine c_seq (c_region (wmS rfl (wmS rfl (wl (r_ia (i := 0) U31 sz30_GSearch rfl rfl (by simp) rfl) (wl (r_ldS U30 rfl rfl hsx.rng sz30_GSearch) ?_)))))
   refine wl_bs (cs := #[_, _]) [(0, .agg _)] rfl U31 sz30_GSearch ze30_GTgt dE dE kR rfl (fun b124 w15 hb124 hs hr => ?_)
   have or_bp_b124 : bp < b124 := nLL hbp.lt hr
   have or_hla_b124 := (fun (g : Nat) hg => nLL (hla.lt g hg).2 hr)
   have or_hCS_b124 := (nLT hCS.2 hr)
   have or_hbz_b124 := (nLT hbz hr)
   have or_hpa_b124 := (fun (g : Nat) hg => nLL (hpa.lt g hg).2 hr)
   have or_hta_b124 := (fun (g : Nat) hg => nLL (hta.lt g hg).2 hr)
   have or_hW_b124 := (fun (g : Nat) hg => nLL (hW.lt g hg).2 hr)
   have or_hacc_b124 := (fun (g : Nat) hg => nLL (hacc.lt g hg).2 hr)
   have or_hzl_b124 := (nLT hzl hr)
   have lo124 := nLT (Bel.size hB) hr
   replace hB := hB.tr0 hs
   replace hbp := hbp.tr0 hs
   replace hla := hla.tr0 hs
   replace hrw := fun x hx => (hrw x hx).tr hs (by simp)
   replace hCS := And.intro (hCS.1.st hs hCS.2 (by simp)) (nLT hCS.2 (Same.size hs))
   replace hbz := nLT hbz (Same.size hs)
   replace hpa := hpa.tr0 hs
   replace hta := hta.tr0 hs
   replace hW := hW.tr0 hs
   replace hacc := hacc.tr0 hs
   replace hsx := hsx.tr hs (by simp)
   replace hsy := hsy.tr hs (by simp)
   replace hzl := nLT hzl (Same.size hs)
   clear hs
   clear hr
   refine wl_app U31 in30_PAdd rfl dE hacc hb124 rfl rfl rfl oneA dE om om hzl (fun g125 cap125 w16 ho125 hs hg => ?_)
   have ne_ho125_bp : g125 ≠ bp := fun e => by
    have hl := hbp.lt
    rcases hg with hg | hg
    · have h1 := hacc.lt g125 (by rw [hg]; exact List.mem_singleton.2 rfl)
      (try have := or_hacc_bp g125 (by rw [hg]; exact List.mem_singleton.2 rfl)); omega
    · omega
   replace hB := hB.tr hs (fun g hg => nLT hlz (hacc.lt g hg).1)
   replace hbp := hbp.tr hs (fun hx => by have := (hacc.lt _ hx).1; (try have := or_hacc_bp _ hx); omega)
   replace hla := hla.tr hs (fun g hg hx => by first | exact own_ne hla hacc dE g hg hx | exact hdis g hg hx | exact hdis g hx hg | (have h1 := (hacc.lt g hx).1; (try have := hzz g hg); omega))
   replace hrw := fun x hx => (hrw x hx).tr hs (fun g hg => by first | exact .inl (by have := ((hacc).lt g hg).1; omega) | (obtain ⟨cs, h⟩ := (hacc).typ g hg; exact .inr ⟨_, _, h, by decide⟩))
   replace hCS := And.intro (hCS.1.st hs hCS.2 (fun g hg => .inr (by have := ((hacc).lt g hg).1; omega))) (nLT hCS.2 (Same.size hs))
   replace hbz := nLT hbz (Same.size hs)
   replace hpa := hpa.tr hs (fun g hg hx => by first | exact own_ne hpa hacc dE g hg hx | exact hdis g hg hx | exact hdis g hx hg | (have h1 := (hacc.lt g hx).1; (try have := hzz g hg); omega))
   replace hta := hta.tr hs (fun g hg hx => by first | exact own_ne hta hacc dE g hg hx | exact hdis g hg hx | exact hdis g hx hg | (have h1 := (hacc.lt g hx).1; (try have := hzz g hg); omega))
   replace hW := hW.tr hs (fun g hg hx => own_ne hW hacc dE g hg hx)
   replace hsx := hsx.tr hs (fun g hg => by first | exact .inl (by have := ((hacc).lt g hg).1; omega) | (obtain ⟨cs, h⟩ := (hacc).typ g hg; exact .inr ⟨_, _, h, by decide⟩))
   replace hsy := hsy.tr hs (fun g hg => by first | exact .inl (by have := ((hacc).lt g hg).1; omega) | (obtain ⟨cs, h⟩ := (hacc).typ g hg; exact .inr ⟨_, _, h, by decide⟩))
   replace hzl := nLT hzl (Same.size hs)
   have hac2 := own_lnV_snoc (k := 1) ho125 rfl
   refine waS rfl (x_nil (e_S (c_seq ?_)))
   have zo := fun g hg => (hW.lt g hg).2
   refine c_monoSO 12 [126, 127, 128, 129, 130, 131, 132, 133, 134, 135, 136, 137] (aL WA) 11 (fun ix v wv => match ix with | 0 => v = .slice WA W2.length capW | 1 => v = .slice (some ⟨gx, ox, none⟩) (zx :: xr).length c14 | 2 => v = .pointer (some ⟨gx, ox + 0 * 2, none⟩) | 3 => v = .pointer (some ⟨gx, ox + 0 * 2 + 1, none⟩) | 4 => v = .int .i64 zx.2 | 5 => v = .slice (some ⟨gy, oy, none⟩) (zy :: yr).length c15 | 6 => v = .pointer (some ⟨gy, oy + 0 * 2, none⟩) | 7 => v = .pointer (some ⟨gy, oy + 0 * 2 + 1, none⟩) | 8 => v = .int .i64 zy.2 | 9 => v = .agg #[.int .i64 zx.2, .int .i64 zy.2] | 10 => ∃ b, v = .slice (some ⟨b, 0, none⟩) 1 1 ∧ w16.heap.size ≤ b ∧ Blk wv b 151 #[.int .i64 zx.2, .int .i64 zy.2] | 11 => ∃ g cap, v = .slice (some ⟨g, 0, none⟩) (W2.length + 1) cap ∧ Own wv ob 151 2 (some ⟨g, 0, none⟩) (W2.length + 1) cap (lnV W2 ++ [.int .i64 zx.2, .int .i64 zy.2]) | _ => True) (fun _ => True) kR kR ?_ (fun _ _ _ _ => trivial) ?_ ?_ dE ?_
   ·
    intro ix v wv wv2 h hs
    match ix, h with
    | 0, h => exact h
    | 1, h => exact h
    | 2, h => exact h
    | 3, h => exact h
    | 4, h => exact h
    | 5, h => exact h
    | 6, h => exact h
    | 7, h => exact h
    | 8, h => exact h
    | 9, h => exact h
    | 10, h =>
     obtain ⟨b136, e136, lo136, hb136⟩ := (show ∃ b, v = .slice (some ⟨b, 0, none⟩) 1 1 ∧ w16.heap.size ≤ b ∧ Blk wv b 151 #[.int .i64 zx.2, .int .i64 zy.2] from h)
     exact ⟨b136, e136, lo136, hb136.tr0 hs⟩
    | 11, h =>
     obtain ⟨g137, cap137, e137, ho137⟩ := (show ∃ g cap, v = .slice (some ⟨g, 0, none⟩) (W2.length + 1) cap ∧ Own wv ob 151 2 (some ⟨g, 0, none⟩) (W2.length + 1) cap (lnV W2 ++ [.int .i64 zx.2, .int .i64 zy.2]) from h)
     exact ⟨g137, cap137, e137, ho137.tr0 hs⟩
    | _ + 12, h => exact trivial
   ·
    intro ix o hix hne hoq gg wx hs hd
    match ix, hix, hne, hoq with
    | 0, _, _, hoq =>
     obtain rfl := sI hoq
     have hs0 := hs
     refine os_rv (r_mv (v := .slice _ _ _) rfl) ⟨Same.refl _ _, ?_⟩
     exact rfl
    | 1, _, _, hoq =>
     obtain rfl := sI hoq
     have hs0 := hs
     refine os_rv (r_mv (v := .slice _ _ _) rfl) ⟨Same.refl _ _, ?_⟩
     exact rfl
    | 2, _, _, hoq =>
     obtain rfl := sI hoq
     have hs0 := hs
     have d1 : gg 127 = .slice (some ⟨gx, ox, none⟩) (zx :: xr).length c14 := hd 1 (dep_of kR)
     have e127 := d1
     refine os_know 127 (.slice (some ⟨gx, ox, none⟩) (zx :: xr).length c14) e127 nu ?_
     refine os_rv (r_ia (i := 0) U31 sz30_GSearch rfl rfl (by simp) rfl) ⟨Same.refl _ _, ?_⟩
     exact rfl
    | 3, _, _, hoq =>
     obtain rfl := sI hoq
     have hs0 := hs
     have d2 : gg 128 = .pointer (some ⟨gx, ox + 0 * 2, none⟩) := hd 2 (dep_of kR)
     have e128 := d2
     refine os_know 128 (.pointer (some ⟨gx, ox + 0 * 2, none⟩)) e128 nu ?_
     refine os_rv (r_fa U30 sz3_GSearch dE rfl rfl rfl) ⟨Same.refl _ _, ?_⟩
     exact rfl
    | 4, _, _, hoq =>
     obtain rfl := sI hoq
     have hs0 := hs
     replace hsx := hsx.tr hs (fun g hg => by first | exact .inl (by have := ((hW).lt g hg).1; omega) | (obtain ⟨cs, h⟩ := (hW).typ g hg; exact .inr ⟨_, _, h, by decide⟩))
     have d3 : gg 129 = .pointer (some ⟨gx, ox + 0 * 2 + 1, none⟩) := hd 3 (dep_of kR)
     have e129 := d3
     refine os_know 129 (.pointer (some ⟨gx, ox + 0 * 2 + 1, none⟩)) e129 nu ?_
     refine os_rv (r_ld1 (v := .int _ _) U3 rfl rfl (hsx.rng 1 _ rfl)) ⟨Same.refl _ _, ?_⟩
     exact rfl
    | 5, _, _, hoq =>
     obtain rfl := sI hoq
     have hs0 := hs
     refine os_rv (r_mv (v := .slice _ _ _) rfl) ⟨Same.refl _ _, ?_⟩
     exact rfl
    | 6, _, _, hoq =>
     obtain rfl := sI hoq
     have hs0 := hs
     have d5 : gg 131 = .slice (some ⟨gy, oy, none⟩) (zy :: yr).length c15 := hd 5 (dep_of kR)
     have e131 := d5
     refine os_know 131 (.slice (some ⟨gy, oy, none⟩) (zy :: yr).length c15) e131 nu ?_
     refine os_rv (r_ia (i := 0) U31 sz30_GSearch rfl rfl (by simp) rfl) ⟨Same.refl _ _, ?_⟩
     exact rfl
    | 7, _, _, hoq =>
     obtain rfl := sI hoq
     have hs0 := hs
     have d6 : gg 132 = .pointer (some ⟨gy, oy + 0 * 2, none⟩) := hd 6 (dep_of kR)
     have e132 := d6
     refine os_know 132 (.pointer (some ⟨gy, oy + 0 * 2, none⟩)) e132 nu ?_
     refine os_rv (r_fa U30 sz3_GSearch dE rfl rfl rfl) ⟨Same.refl _ _, ?_⟩
     exact rfl
    | 8, _, _, hoq =>
     obtain rfl := sI hoq
     have hs0 := hs
     replace hsy := hsy.tr hs (fun g hg => by first | exact .inl (by have := ((hW).lt g hg).1; omega) | (obtain ⟨cs, h⟩ := (hW).typ g hg; exact .inr ⟨_, _, h, by decide⟩))
     have d7 : gg 133 = .pointer (some ⟨gy, oy + 0 * 2 + 1, none⟩) := hd 7 (dep_of kR)
     have e133 := d7
     refine os_know 133 (.pointer (some ⟨gy, oy + 0 * 2 + 1, none⟩)) e133 nu ?_
     refine os_rv (r_ld1 (v := .int _ _) U3 rfl rfl (hsy.rng 1 _ rfl)) ⟨Same.refl _ _, ?_⟩
     exact rfl
    | 9, _, _, hoq =>
     obtain rfl := sI hoq
     have hs0 := hs
     have d4 : gg 130 = .int .i64 zx.2 := hd 4 (dep_of kR)
     have e130 := d4
     have d8 : gg 134 = .int .i64 zy.2 := hd 8 (dep_of kR)
     have e134 := d8
     refine os_know 130 (.int .i64 zx.2) e130 nu (os_know 134 (.int .i64 zy.2) e134 nu ?_)
     refine os_rv (r_bd2 (v0 := .int _ _) (v1 := .int _ _) (fun v0 v1 => #[v0, v1]) rfl rfl kR) ⟨Same.refl _ _, ?_⟩
     exact rfl
    | 10, _, _, hoq =>
     obtain rfl := sI hoq
     have hs0 := hs
     have d9 : gg 135 = .agg #[.int .i64 zx.2, .int .i64 zy.2] := hd 9 (dep_of kR)
     have e135 := d9
     refine os_know 135 (.agg #[.int .i64 zx.2, .int .i64 zy.2]) e135 nu ?_
     refine os_wl (fun ops Q K => ?_)
     refine wl_bs (cs := #[_, _]) [(0, .agg _)] rfl U152 sz151 ze151 dE dE kR rfl (fun b136 w17 hb136 hs hr => ?_)
     exact K _ _ ⟨hs, ⟨_, rfl, nLT hs0.size hr, hb136⟩⟩
    | 11, _, hne, _ => exact absurd rfl hne
    | _ + 12, hix, _, _ => exact absurd hix om
   ·
    intro o hoq gg wx hs hd
    obtain rfl := sI hoq
    have hs0 := hs
    replace hB := hB.tr0 hs
    replace hbp := hbp.tr0 hs
    replace hla := hla.tr0 hs
    replace hrw := fun x hx => (hrw x hx).tr hs (by simp)
    replace hCS := And.intro (hCS.1.st hs hCS.2 (by simp)) (nLT hCS.2 (Same.size hs))
    replace hbz := nLT hbz (Same.size hs)
    replace hpa := hpa.tr0 hs
    replace hta := hta.tr0 hs
    replace hW := hW.tr0 hs
    replace hsx := hsx.tr hs (by simp)
    replace hsy := hsy.tr hs (by simp)
    replace hzl := nLT hzl (Same.size hs)
    replace hac2 := hac2.tr0 hs
    clear hs
    have d0 : gg 126 = .slice WA W2.length capW := hd 0 (dep_of kR)
    have e126 := d0
    have d10 : ∃ b, gg 136 = .slice (some ⟨b, 0, none⟩) 1 1 ∧ w16.heap.size ≤ b ∧ Blk wx b 151 #[.int .i64 zx.2, .int .i64 zy.2] := hd 10 (dep_of kR)
    obtain ⟨b136, e136, lo136, hb136⟩ := d10
    refine os_know 126 (.slice WA W2.length capW) e126 nu (os_know 136 (.slice (some ⟨b136, 0, none⟩) 1 1) e136 nu ?_)
    refine os_wl (fun ops Q K => ?_)
    refine wl_app U152 in151 rfl dE hW hb136 rfl rfl rfl oneA dE om om hCS.2 (fun g137 cap137 w2 ho137 hs2 hg137 => ?_)
    refine K _ _ ⟨hs2, ⟨_, _, rfl, ho137⟩, trivial, fun kx v hne h => ?_⟩
    match kx, hne, h with
    | 0, _, h => exact h
    | 1, _, h => exact h
    | 2, _, h => exact h
    | 3, _, h => exact h
    | 4, _, h => exact h
    | 5, _, h => exact h
    | 6, _, h => exact h
    | 7, _, h => exact h
    | 8, _, h => exact h
    | 9, _, h => exact h
    | 10, _, h =>
     obtain ⟨b136, e136, lo136, hb136⟩ := (show ∃ b, v = .slice (some ⟨b, 0, none⟩) 1 1 ∧ w16.heap.size ≤ b ∧ Blk wx b 151 #[.int .i64 zx.2, .int .i64 zy.2] from h)
     exact ⟨b136, e136, lo136, hb136.tr hs2 (fun hx => by have := zo _ hx; omega)⟩
    | 11, hne, _ => exact absurd rfl hne
    | _ + 12, _, _ => exact trivial
   intro gg w18 hs _ hR
   have hs0 := hs
   replace hB := hB.tr hs (fun g hg => nLT hlob (hW.lt g hg).1)
   replace hbp := hbp.tr hs (fun hx => by have := (hW.lt _ hx).1; (try have := or_hW_bp _ hx); omega)
   replace hla := hla.tr hs (fun g hg hx => by first | exact own_ne hla hW dE g hg hx | exact hdis g hg hx | exact hdis g hx hg | (have h1 := (hW.lt g hx).1; (try have := hzz g hg); omega))
   replace hrw := fun x hx => (hrw x hx).tr hs (fun g hg => by first | exact .inl (by have := ((hW).lt g hg).1; omega) | (obtain ⟨cs, h⟩ := (hW).typ g hg; exact .inr ⟨_, _, h, by decide⟩))
   replace hCS := And.intro (hCS.1.st hs hCS.2 (fun g hg => .inr (by have := ((hW).lt g hg).1; omega))) (nLT hCS.2 (Same.size hs))
   replace hbz := nLT hbz (Same.size hs)
   replace hpa := hpa.tr hs (fun g hg hx => by first | exact own_ne hpa hW dE g hg hx | exact hdis g hg hx | exact hdis g hx hg | (have h1 := (hW.lt g hx).1; (try have := hzz g hg); omega))
   replace hta := hta.tr hs (fun g hg hx => by first | exact own_ne hta hW dE g hg hx | exact hdis g hg hx | exact hdis g hx hg | (have h1 := (hW.lt g hx).1; (try have := hzz g hg); omega))
   replace hsx := hsx.tr hs (fun g hg => by first | exact .inl (by have := ((hW).lt g hg).1; omega) | (obtain ⟨cs, h⟩ := (hW).typ g hg; exact .inr ⟨_, _, h, by decide⟩))
   replace hsy := hsy.tr hs (fun g hg => by first | exact .inl (by have := ((hW).lt g hg).1; omega) | (obtain ⟨cs, h⟩ := (hW).typ g hg; exact .inr ⟨_, _, h, by decide⟩))
   replace hzl := nLT hzl (Same.size hs)
   replace hac2 := hac2.tr hs (fun g hg hx => own_ne hac2 hW dE g hg hx)
   have d11 : ∃ g cap, gg 137 = .slice (some ⟨g, 0, none⟩) (W2.length + 1) cap ∧ Own w18 ob 151 2 (some ⟨g, 0, none⟩) (W2.length + 1) cap (lnV W2 ++ [.int .i64 zx.2, .int .i64 zy.2]) := hR 11 dE
   obtain ⟨g137, cap137, e137, ho137⟩ := d11
   have hW := own_lnV_snoc (k := 1) ho137 rfl
   refine wl_know 137 (.slice (some ⟨g137, 0, none⟩) (W2.length + 1) cap137) e137 nu (waS rfl (x_nil (e_S ?_)))
   replace hsx := hsx.cons.next
   replace hsy := hsy.cons.next
   rw [← hxs2] at hsx hmg2
   rw [← hys2] at hsy hmg2
   refine c_still kR kR (fun w19 hs => ?_)
   replace hB := hB.tr0 hs
   replace hbp := hbp.tr0 hs
   replace hla := hla.tr0 hs
   replace hrw := fun x hx => (hrw x hx).tr hs (by simp)
   replace hCS := And.intro (hCS.1.st hs hCS.2 (by simp)) (nLT hCS.2 (Same.size hs))
   replace hbz := nLT hbz (Same.size hs)
   replace hpa := hpa.tr0 hs
   replace hta := hta.tr0 hs
   replace hsx := hsx.tr hs (by simp)
   replace hsy := hsy.tr hs (by simp)
   replace hzl := nLT hzl (Same.size hs)
   replace hac2 := hac2.tr0 hs
   replace hW := hW.tr0 hs
   clear hs
   refine ws (r_mv (v := .slice _ _ _) rfl) (ws (r_slL (l := 1) U31 sz30_GSearch rfl rfl (by simp)) (ws (r_mv (v := .slice _ _ _) rfl) (ws (r_slL (l := 1) U31 sz30_GSearch rfl rfl (by simp)) (ws (r_as (v := .slice _ _ _) rfl) (ws (r_as (v := .slice _ _ _) rfl) ?_)))))
   refine s_nil (e_B (e_B (e_LS (xs2.length + ys2.length) om agA ?_)))
   exact ⟨_, xs2, ys2, _, _, _, _, _, _, _, _, _, rfl, sl_snocP _ _ _ _, by first | rfl | (subst hxs2; rfl), by first | rfl | (subst hys2; rfl), by first | rfl | exact sl_snocP _ _ _ _, hB, hbp, hpa, hta, hla, hrw, hW, hCS, hbz, hzl, hac2, hsx, hsy, hmg2⟩
  obtain ⟨hme1, hme2⟩ := hmg.end_ c110
  have hmgl := hmg.l
  have hmg2' := hmg.l2
  rw [hme2] at hus2
  obtain ⟨rep2, hrep2⟩ : ∃ r, r = UF.un rep a b := ⟨_, rfl⟩
  rw [← hrep2] at hus2
  have hrj := roots_join hbl hrb hra hab
  rw [← hrep2] at hrj
  have hmul := Nat.mul_le_mul_right (nf + 1) (show roots U.length rep2 + 1 ≤ roots U.length rep from hrj)
  rw [Nat.add_mul, Nat.one_mul] at hmul
  have hmlen : (mergeL (L a) (L b)).length ≤ 1000000 := by rw [hme1]; simp; omega
  refine c_exit (e_Sx (e_LSx (e_Bx (e_S ?_))))
  refine c_monoTO 11 [164, 165, 166, 167, 168, 169, 170, 171, 172, 173, 174] (fun _ => false) (fun ix v wv => match ix with | 0 => v = .pointer (some ⟨bp, 0, none⟩) | 1 => v = .pointer (some ⟨bp, 0, none⟩) | 2 => v = .pointer (some ⟨bp, 4, none⟩) | 3 => v = .slice (some ⟨ql, 0, none⟩) U.length cl | 4 => v = .int .i64 (a : Nat) | 5 => v = .slice A13 acc.length c13 | 6 => v = .slice A14 xs.length c14 | 7 => v = .slice A15 ys.length c15 | 8 => ∃ b, v = .slice (some ⟨b, 0, none⟩) 3 3 ∧ Blk wv b 31 #[.slice A13 acc.length c13, .slice A14 xs.length c14, .slice A15 ys.length c15] | 9 => ∃ AC cc, v = .slice AC (mergeL (L a) (L b)).length cc ∧ Own wv ob 30 2 AC (mergeL (L a) (L b)).length cc (lnV (mergeL (L a) (L b))) | 10 => v = .pointer (some ⟨ql, 0 + a * 1, none⟩) | _ => True) kR kR ?_ ?_ ?_
  ·
   intro ix v wv wv2 h hs
   match ix, h with
   | 0, h => exact h
   | 1, h => exact h
   | 2, h => exact h
   | 3, h => exact h
   | 4, h => exact h
   | 5, h => exact h
   | 6, h => exact h
   | 7, h => exact h
   | 8, h =>
    obtain ⟨b172, e172, hb172⟩ := (show ∃ b, v = .slice (some ⟨b, 0, none⟩) 3 3 ∧ Blk wv b 31 #[.slice A13 acc.length c13, .slice A14 xs.length c14, .slice A15 ys.length c15] from h)
    exact ⟨b172, e172, hb172.tr0 hs⟩
   | 9, h =>
    obtain ⟨AC, cc, e173, hoC⟩ := (show ∃ AC cc, v = .slice AC (mergeL (L a) (L b)).length cc ∧ Own wv ob 30 2 AC (mergeL (L a) (L b)).length cc (lnV (mergeL (L a) (L b))) from h)
    exact ⟨AC, cc, e173, hoC.tr0 hs⟩
   | 10, h => exact h
   | _ + 11, h => exact trivial
  ·
   intro ix o hix hoq gg wx hs hd hdis
   match ix, hix, hoq with
   | 0, _, hoq =>
    obtain rfl := sI hoq
    have hs0 := hs
    replace hbp := hbp.tr0 hs
    clear hs
    refine os_rv (r_mv (v := .pointer (some _)) rfl) ⟨Same.refl _ _, ?_, frsh_no⟩
    exact rfl
   | 1, _, hoq =>
    obtain rfl := sI hoq
    have hs0 := hs
    replace hbp := hbp.tr0 hs
    clear hs
    have d0 : gg 164 = .pointer (some ⟨bp, 0, none⟩) := hd 0 (dep_of kR)
    have e164 := d0
    refine os_know 164 (.pointer (some ⟨bp, 0, none⟩)) e164 nu ?_
    refine os_rv (r_nc rfl) ⟨Same.refl _ _, ?_, frsh_no⟩
    exact rfl
   | 2, _, hoq =>
    obtain rfl := sI hoq
    have hs0 := hs
    replace hbp := hbp.tr0 hs
    clear hs
    have d1 : gg 165 = .pointer (some ⟨bp, 0, none⟩) := hd 1 (dep_of kR)
    have e165 := d1
    refine os_know 165 (.pointer (some ⟨bp, 0, none⟩)) e165 nu ?_
    refine os_rv (r_fa U143 sz141 dE rfl rfl rfl) ⟨Same.refl _ _, ?_, frsh_no⟩
    exact rfl
   | 3, _, hoq =>
    obtain rfl := sI hoq
    have hs0 := hs
    replace hbp := hbp.tr0 hs
    clear hs
    have d2 : gg 166 = .pointer (some ⟨bp, 4, none⟩) := hd 2 (dep_of kR)
    have e166 := d2
    refine os_know 166 (.pointer (some ⟨bp, 4, none⟩)) e166 nu ?_
    refine os_rv (r_ld1 (v := .slice _ _ _) U141 rfl rfl (hbp.cell rfl)) ⟨Same.refl _ _, ?_, frsh_no⟩
    exact rfl
   | 4, _, hoq =>
    obtain rfl := sI hoq
    have hs0 := hs
    clear hs
    refine os_rv (r_mv (v := .int _ _) rfl) ⟨Same.refl _ _, ?_, frsh_no⟩
    exact rfl
   | 5, _, hoq =>
    obtain rfl := sI hoq
    have hs0 := hs
    clear hs
    refine os_rv (r_mv (v := .slice _ _ _) rfl) ⟨Same.refl _ _, ?_, frsh_no⟩
    exact rfl
   | 6, _, hoq =>
    obtain rfl := sI hoq
    have hs0 := hs
    clear hs
    refine os_rv (r_mv (v := .slice _ _ _) rfl) ⟨Same.refl _ _, ?_, frsh_no⟩
    exact rfl
   | 7, _, hoq =>
    obtain rfl := sI hoq
    have hs0 := hs
    clear hs
    refine os_rv (r_mv (v := .slice _ _ _) rfl) ⟨Same.refl _ _, ?_, frsh_no⟩
    exact rfl
   | 8, _, hoq =>
    obtain rfl := sI hoq
    have hs0 := hs
    clear hs
    have d5 : gg 169 = .slice A13 acc.length c13 := hd 5 (dep_of kR)
    have e169 := d5
    have d6 : gg 170 = .slice A14 xs.length c14 := hd 6 (dep_of kR)
    have e170 := d6
    have d7 : gg 171 = .slice A15 ys.length c15 := hd 7 (dep_of kR)
    have e171 := d7
    refine os_know 169 (.slice A13 acc.length c13) e169 nu (os_know 170 (.slice A14 xs.length c14) e170 nu (os_know 171 (.slice A15 ys.length c15) e171 nu ?_))
    refine os_wl (fun ops Q K => ?_)
    refine wl_bs (cs := #[_, _, _]) [(0, .slice _ _ _), (1, .slice _ _ _), (2, .slice _ _ _)] rfl U141 sz31_GTgt ze31 dE dE kR rfl (fun b172 w20 hb172 hs hr => ?_)
    exact K _ _ ⟨hs, ⟨_, rfl, hb172⟩, fun _ g hg => by cases hg; exact ⟨hr, hb172.lt⟩⟩
   | 9, _, hoq =>
    obtain rfl := sI hoq
    have hs0 := hs
    replace hCS := And.intro (hCS.1.st hs hCS.2 (by simp)) (nLT hCS.2 (Same.size hs))
    replace hacc := hacc.tr0 hs
    replace hsx := hsx.tr hs (by simp)
    replace hsy := hsy.tr hs (by simp)
    clear hs
    have d8 : ∃ b, gg 172 = .slice (some ⟨b, 0, none⟩) 3 3 ∧ Blk wx b 31 #[.slice A13 acc.length c13, .slice A14 xs.length c14, .slice A15 ys.length c15] := hd 8 (dep_of kR)
    obtain ⟨b172, e172, hb172⟩ := d8
    refine os_know 172 (.slice (some ⟨b172, 0, none⟩) 3 3) e172 nu ?_
    refine os_cl fn109 (conc3_any (m := (mergeL (L a) (L b))) wx hb172 hacc rfl hsx hsy hme1 hmlen) rfl (fun e' w2 hr => ?_)
    obtain ⟨⟨AC, cc, rfl, hoC⟩, hs⟩ := hr
    exact ⟨_, rfl, Same.of_bel hs, ⟨_, _, rfl, hoC.low hCS.2⟩, frsh_no⟩
   | 10, _, hoq =>
    obtain rfl := sI hoq
    have hs0 := hs
    clear hs
    have d3 : gg 167 = .slice (some ⟨ql, 0, none⟩) U.length cl := hd 3 (dep_of kR)
    have e167 := d3
    have d4 : gg 168 = .int .i64 (a : Nat) := hd 4 (dep_of kR)
    have e168 := d4
    refine os_know 167 (.slice (some ⟨ql, 0, none⟩) U.length cl) e167 nu (os_know 168 (.int .i64 (a : Nat)) e168 nu ?_)
    refine os_rv (r_ia (i := a) U141 sz31_GTgt rfl rfl hal rfl) ⟨Same.refl _ _, ?_, frsh_no⟩
    exact rfl
   | _ + 11, hix, _ => exact absurd hix om
  intro gg w21 hs hR hdis
  have hs0 := hs
  replace hB := hB.tr0 hs
  replace hbp := hbp.tr0 hs
  replace hla := hla.tr0 hs
  replace hrw := fun x hx => (hrw x hx).tr hs (by simp)
  replace hCS := And.intro (hCS.1.st hs hCS.2 (by simp)) (nLT hCS.2 (Same.size hs))
  replace hbz := nLT hbz (Same.size hs)
  replace hpa := hpa.tr0 hs
  replace hta := hta.tr0 hs
  replace hW := hW.tr0 hs
  replace hacc := hacc.tr0 hs
  replace hsx := hsx.tr hs (by simp)
  replace hsy := hsy.tr hs (by simp)
  replace hzl := nLT hzl (Same.size hs)
  clear hs
  have d9 : ∃ AC cc, gg 173 = .slice AC (mergeL (L a) (L b)).length cc ∧ Own w21 ob 30 2 AC (mergeL (L a) (L b)).length cc (lnV (mergeL (L a) (L b))) := hR 9 dE
  obtain ⟨AC, cc, e173, hoC⟩ := d9
  have d10 : gg 174 = .pointer (some ⟨ql, 0 + a * 1, none⟩) := hR 10 dE
  have e174 := d10
  have hrn := RowO.of (Nat.le_refl ob) hoC
  obtain ⟨s9, hs9⟩ : ∃ b, b = w21.heap.size := ⟨_, rfl⟩
  rw [← hs9] at hrn
  have hz9 : s9 ≤ w21.heap.size := Nat.le_of_eq hs9
  obtain ⟨g0, cur, hA0, _, hbA, hszA, hrdA, hclA⟩ := hla.open_ (show 0 < U.length by omega)
  cases hA0
  have or_hW_ql := own_blk_ne hW hbA dE
  have or_hacc_ql := own_blk_ne hacc hbA dE
  refine wl_know 173 (.slice AC (mergeL (L a) (L b)).length cc) e173 nu (wl_know 174 (.pointer (some ⟨ql, 0 + a * 1, none⟩)) e174 nu ?_)
  refine wl_st1 (v := .slice _ _ _) hbA rfl rfl sz31_GTgt om rfl rfl (fun w22 hq hs => ?_)
  replace hB := hB.tr1 hs (nLT hw0 (by assumption))
  replace hbp := hbp.tr1 hs om
  replace hrw := fun x hx => (hrw x hx).tr hs (fun g hg => by rw [List.mem_singleton.1 hg]; first | exact .inr ⟨_, _, hbA, by decide⟩ | exact .inl om)
  replace hCS := And.intro (hCS.1.st hs hCS.2 (fun g hg => by have h1 := List.mem_singleton.1 hg; first | (left; rw [h1]; simp; done) | (right; omega))) (nLT hCS.2 (Same.size hs))
  replace hbz := nLT hbz (Same.size hs)
  replace hpa := hpa.tr1 hs (fun g hg => by have := (hpa.lt g hg).1; (try have := or_hpa_ql g hg); omega)
  replace hta := hta.tr1 hs (fun g hg => by have := (hta.lt g hg).1; (try have := or_hta_ql g hg); omega)
  replace hW := hW.tr1 hs (fun g hg => by have := (hW.lt g hg).1; (try have := or_hW_ql g hg); omega)
  replace hacc := hacc.tr1 hs (fun g hg => by have := (hacc.lt g hg).1; (try have := or_hacc_ql g hg); omega)
  replace hsx := hsx.tr hs (fun g hg => by rw [List.mem_singleton.1 hg]; first | exact .inr ⟨_, _, hbA, by decide⟩ | exact .inl om)
  replace hsy := hsy.tr hs (fun g hg => by rw [List.mem_singleton.1 hg]; first | exact .inr ⟨_, _, hbA, by decide⟩ | exact .inl om)
  replace hzl := nLT hzl (Same.size hs)
  replace hrn := hrn.tr hs (fun g hg => by rw [List.mem_singleton.1 hg]; exact .inr ⟨_, _, hbA, by decide⟩)
  replace hz9 := nLT hz9 (Same.size hs)
  clear hs
  replace hbA := hq
  have hla : Own w22 ob 31 1 (some ⟨ql, 0, none⟩) U.length cl (rowL U.length (putV V a (.slice AC (mergeL (L a) (L b)).length cc))) := by
    have h := hclA _ _ _ hbA
    rw [show 0 + a * 1 = a by omega, rowL_set, rowL_congr (g' := putV V a (.slice AC (mergeL (L a) (L b)).length cc)) (fun x _ => by by_cases e : x = a <;> simp [putV, e])] at h
    exact h
  replace hrw : ∀ x, x < U.length → RowO w22 ob w22.heap.size (putV V a (.slice AC (mergeL (L a) (L b)).length cc) x) (if x = a then (mergeL (L a) (L b)) else L x) := fun x hx => by
    by_cases e : x = a
    · simp only [putV, if_pos e]; exact hrn.up hz9
    · simp only [putV, if_neg e]; exact (hrw x hx).up hbz
  refine x_nil (e_B (e_LS (roots U.length rep2 * (nf + 1) + W2.length) om agA ?_))
  first
    | exact ⟨W2, _, _, setN Q2 b a, rep2, UF.rk rep ρ a b, (fun x => if x = a then (mm : Int) else T x), _, (fun x => if x = a then mergeL (L a) (L b) else L x), rfl, by omega, rfl, hB, hbp, hpa, hta, hla, hrw, hW, hCS, hus2⟩
    | exact ⟨W2, _, _, Q2, rep2, ρ, T, V, L, rfl, by omega, rfl, hB, hbp, hpa, hta, hla, fun x hx => (hrw x hx).up hbz, hW, hCS, hus2⟩
 have hW0 : W = [] := List.length_eq_zero_iff.1 om
 subst hW0
 refine c_exit (e_Sx (e_LSx (e_Bx (e_S (c_seq ?_)))))
 refine c_region (waB rfl (x_nil (e_S (c_ret (fin1 (.inl rfl) rfl rfl ?_)))))
 exact ⟨⟨true, rfl, fun _ => ⟨P, rep, ρ, T, V, L, ⟨hbp, hpa, hta, hla, fun x hx => (hrw x hx).up hbz, hdis⟩, hus⟩, fun h => (by cases h)⟩, hCS.1, hCS.2⟩
end Go.Proofs.YtegngekpmpdngaaDoor
