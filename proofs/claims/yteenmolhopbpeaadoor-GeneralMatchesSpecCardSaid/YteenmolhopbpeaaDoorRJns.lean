/- The reference's Generalized, in memory: the list of pairs, the rows of links by numbers, the types at the end. No program in sight. What these functions of the program compute, at every world: glosswright/glosswrightref4.Joins. -/
import Derived.Test.YteenmolhopbpeaaDoorGenD
import Derived.Test.YteenmolhopbpeaaDoorCanon
import Derived.Test.YteenmolhopbpeaaDoorU
import Derived.Test.YteenmolhopbpeaaDoorGraph
import Derived.Test.YteenmolhopbpeaaDoorEng5
import Derived.Test.YteenmolhopbpeaaDoorMask
namespace Go.Proofs.YteenmolhopbpeaaDoor
open Go.RowKit
theorem sl_lenW {A : Option Addr} {m n cap : Nat} (h : n = m) : Value.slice A m cap = Value.slice A n cap := by rw [h]
theorem bel_trans {a b c : World} (h : Bel a b) (k : Bel b c) : Bel a c := h.tr (Same.of_bel k) (by simp)
theorem nds_at {w : World} {A : Option Addr} {gr : List Nd} (h : NodesIn w A gr) (hp : 0 < gr.length) : ∃ b o, A = some ⟨b, o, none⟩ ∧ b < w.heap.size ∧ ∀ i, i < gr.length → ∃ LA lc, w.rangeAt b (o + i * 2) [.int .i64 (nd gr i).ty, .slice LA (nd gr i).ln.length lc] ∧ LinksIn w LA (nd gr i).ln := by
  obtain ⟨b, o, e, hl, hn⟩ := h.2 (fun e => by rw [e] at hp; simp at hp)
  refine ⟨b, o, e, hl, fun i hi => ?_⟩
  rw [nd_eq hi]
  exact hn i hi
theorem pr_cell0 {w : World} {base q cap nb k i sz : Nat} {e : TypeId} {ps : List Nat} (h : Own w base e sz (some ⟨q, 0, none⟩) ps.length cap (lnV (prL nb ps))) (hk : k < ps.length) (hi : ps.getD k 0 / nb = i) : w.cell? ⟨q, 0 + k * 2 + 0 * 1, none⟩ = some (.int .i64 (i : Int)) := by
  obtain ⟨h1, _⟩ := prL_get (m := nb) hk
  obtain ⟨g, e1, _, _, hc⟩ := h.cell (fun e => by rw [e] at h1; cases h1)
  cases e1
  rw [show 0 + k * 2 + 0 * 1 = k * 2 by omega, ← hi]
  exact hc _ _ h1
theorem pr_cell1 {w : World} {base q cap nb k i sz : Nat} {e : TypeId} {ps : List Nat} (h : Own w base e sz (some ⟨q, 0, none⟩) ps.length cap (lnV (prL nb ps))) (hk : k < ps.length) (hi : ps.getD k 0 % nb = i) : w.cell? ⟨q, 0 + k * 2 + 1 * 1, none⟩ = some (.int .i64 (i : Int)) := by
  obtain ⟨_, h1⟩ := prL_get (m := nb) hk
  obtain ⟨g, e1, _, _, hc⟩ := h.cell (fun e => by rw [e] at h1; cases h1)
  cases e1
  rw [show 0 + k * 2 + 1 * 1 = k * 2 + 1 by omega, ← hi]
  exact hc _ _ h1
theorem pr_range {w : World} {base q cap nb k sz : Nat} {e : TypeId} {ps : List Nat} (h : Own w base e sz (some ⟨q, 0, none⟩) ps.length cap (lnV (prL nb ps))) (hk : k < ps.length) : w.rangeAt q (0 + k * 2) [.int .i64 ((ps.getD k 0 / nb : Nat) : Int), .int .i64 ((ps.getD k 0 % nb : Nat) : Int)] := fun j v hj => by
  match j, hj with
  | 0, hj => cases hj; have := pr_cell0 h hk rfl; simpa using this
  | 1, hj => cases hj; have := pr_cell1 h hk rfl; simpa using this
theorem pr_addr {w : World} {base cap nb sz : Nat} {e : TypeId} {A : Option Addr} {ps : List Nat} (h : Own w base e sz A ps.length cap (lnV (prL nb ps))) (hk : 0 < ps.length) : ∃ q, A = some ⟨q, 0, none⟩ := by
  obtain ⟨h1, _⟩ := prL_get (m := nb) hk
  obtain ⟨g, e1, _⟩ := h.cell (fun e => by rw [e] at h1; cases h1)
  exact ⟨g, e1⟩
theorem pr_iff {x u t nb : Nat} (ht : t < nb) : (((x / nb : Nat) : Int) = (u : Int) ∧ ((x % nb : Nat) : Int) = (t : Int)) ↔ x = u * nb + t := by
  have h := enc_div (i := u) ht
  constructor
  · rintro ⟨h1, h2⟩
    have h1 : x / nb = u := by omega
    have h2 : x % nb = t := by omega
    have := Nat.div_add_mod x nb
    rw [h1, h2, Nat.mul_comm] at this
    exact this.symm
  · rintro rfl
    rw [h.1, h.2]; exact ⟨rfl, rfl⟩
def WGr (G : List Nd) (ps : List Nat) : List Nd := (List.range ps.length).map (fun (k : Nat) => ⟨(k : Int), lnW ps (nd G (ps.getD k 0)).ln⟩)
theorem WGr_len (G : List Nd) (ps : List Nat) : (WGr G ps).length = ps.length := by simp [WGr]
theorem WGr_nd {G : List Nd} {ps : List Nat} {k : Nat} (hk : k < ps.length) : nd (WGr G ps) k = ⟨(k : Int), lnW ps (nd G (ps.getD k 0)).ln⟩ := by
  rw [nd_eq (by rw [WGr_len]; exact hk)]
  simp [WGr]
theorem WGr_num {G : List Nd} {ps : List Nat} (h : PsOk G ps ps.length) : NumG G (WGr G ps) ps := h.num (WGr_len G ps) (fun _ hk => WGr_nd hk)
def RWR (w : World) (lo bs k : Nat) (G : List Nd) (ps : List Nat) (V : Nat → Value) : Prop := ∀ x, x < k → RowO w lo bs (V x) (lnW ps (nd G (ps.getD x 0)).ln)
section
variable {w w' : World} {lo bs k c : Nat} {G : List Nd} {ps : List Nat} {V : Nat → Value}
theorem RWR.tr {X : List Nat} (h : RWR w lo bs k G ps V) (hs : Same X w w') (hx : ∀ g ∈ X, bs ≤ g ∨ ∃ cs t, Blk w g t cs ∧ t ≠ 36) : RWR w' lo bs k G ps V := fun x hxk => (h x hxk).tr hs hx
theorem RWR.up {bs' : Nat} (h : RWR w lo bs k G ps V) (hb : bs ≤ bs') : RWR w lo bs' k G ps V := fun x hxk => (h x hxk).up hb
theorem addC_getD {j : Nat} (hj : j < ps.length) : (addC ps c).getD j 0 = ps.getD j 0 := by
  obtain ⟨s, hs⟩ := addC_pre ps c
  rw [hs, getD_pre hj]
theorem addC_sub {x : Nat} (h : x ∈ ps) : x ∈ addC ps c := by
  obtain ⟨s, hs⟩ := addC_pre ps c
  rw [hs]; exact List.mem_append_left _ h
theorem lnW_add {xs : List (Int × Int)} (h : ∀ y ∈ xs, y.2.toNat ∈ ps) : lnW (addC ps c) xs = lnW ps xs := by
  obtain ⟨s, hs⟩ := addC_pre ps c
  rw [hs]; exact lnW_pre h
theorem succ_in {x : Nat} (h : ∀ t ∈ succN G x, t ∈ ps) : ∀ y ∈ (nd G x).ln, y.2.toNat ∈ ps := fun y hy => h _ (List.mem_map.2 ⟨y, hy, rfl⟩)
theorem RWR.add (h : RWR w lo bs k G ps V) (hp : PsOk G ps k) : RWR w lo bs k G (addC ps c) V := fun x hx => by
  have h1 := hp.le
  rw [addC_getD om, lnW_add (succ_in (hp.clo x hx))]
  exact h x hx
theorem RWR.snoc {bs' : Nat} {v : Value} (h : RWR w lo bs k G ps V) (hb : bs ≤ bs') (hr : RowO w lo bs' v (lnW ps (nd G (ps.getD k 0)).ln)) : RWR w lo bs' (k + 1) G ps (fun x => if x = k then v else V x) := fun x hx => by
  by_cases e : x = k
  · subst e; simp only [if_true]; exact hr
  · simp only [if_neg e]; exact (h x om).up hb
theorem mem_snoc {xs : List (Int × Int)} {f : Int} (h : ∀ y ∈ xs, y.2.toNat ∈ ps) : ∀ y ∈ xs ++ [(f, (c : Int))], y.2.toNat ∈ addC ps c := fun y hy => by
  rcases List.mem_append.1 hy with hy | hy
  · exact addC_sub (h y hy)
  · rw [List.mem_singleton.1 hy]; exact addC_mem ps c
theorem RWR.nodes {base n cap : Nat} {A : Option Addr} (h : RWR w lo bs ps.length G ps V) (ho : Own w base 39 2 A n cap (ndV (fun x => .int .i64 ((x : Nat) : Int)) V n)) (hn : n = (WGr G ps).length) : NodesIn w A (WGr G ps) := by
  refine nodes_own (lo := lo) (bs := bs) ho hn.symm (fun k hk => ?_) (fun k hk => ?_)
  · simp [WGr]
  · have hk2 : k < ps.length := by rw [WGr_len] at hk; exact hk
    have e : ((WGr G ps)[k]).ln = lnW ps (nd G (ps.getD k 0)).ln := by simp [WGr]
    rw [e]; exact h k hk2
end
theorem lnW_len (ps : List Nat) (xs : List (Int × Int)) : (lnW ps xs).length = xs.length := by simp [lnW]
theorem InL.len {a b : List Nd} {i j q p : Nat} {xs : List (Int × Int)} (h : InL a b i j q p xs) : xs.length ≤ q + 1 := by
  rcases h with ⟨e, _⟩ | ⟨e, _⟩
  · rw [e]; have := pLq_len a b i j q; omega
  · rw [e]; exact pLq_len a b i j (q + 1)
def tyW (G C : List Nd) (ps o : List Nat) (x y : Nat) : Int := if y < x then (nd G (ps.getD (o.getD y 0) 0)).ty else (nd C y).ty
theorem tyW_zero (G C : List Nd) (ps o : List Nat) : tyW G C ps o 0 = fun y => (nd C y).ty := by funext y; simp [tyW]
theorem tyW_succ {G C : List Nd} {ps o : List Nat} {x : Nat} {v : Int} (h : v = (nd G (ps.getD (o.getD x 0) 0)).ty) (y : Nat) : (if y = x then v else tyW G C ps o x y) = tyW G C ps o (x + 1) y := by
  unfold tyW
  by_cases e : y = x
  · subst e; simp [h]
  · have e1 : (y < x + 1) ↔ (y < x) := by omega
    simp [e, e1]
theorem WGr_fin {G : List Nd} {ps o : List Nat} (h : PsOk G ps ps.length) (hl : ∀ k ∈ o, k < ps.length) (hm : ∀ k ∈ o, ∀ t ∈ succN (WGr G ps) k, t ∈ o) : rtG (canG (WGr G ps) o) (tyW G (canG (WGr G ps) o) ps o o.length) = canG G (o.map (fun k => ps.getD k 0)) := by
  have hcl : (canG (WGr G ps) o).length = o.length := by simp [canG]
  refine List.ext_getElem (by rw [rtG_len, hcl]; simp [canG]) (fun x h1 h2 => ?_)
  have hx : x < o.length := by rw [rtG_len, hcl] at h1; exact h1
  have h3 := (WGr_num h).can hl hm hx
  have e1 := rtG_nd (gr := canG (WGr G ps) o) (T := tyW G (canG (WGr G ps) o) ps o o.length) (i := x) (by rw [hcl]; exact hx)
  have e2 := nd_canG (gr := G) (o := o.map (fun k => ps.getD k 0)) (x := x) (by simpa using hx)
  rw [nd_eq h1] at e1
  rw [nd_eq h2] at e2
  have e3 : (nd (canG G (o.map (fun k => ps.getD k 0))) x).ln = (nd G ((o.map (fun k => ps.getD k 0)).getD x 0)).ln.map (canL (o.map (fun k => ps.getD k 0))) := by rw [nd_eq h2, e2]
  rw [e1, e2, h3.2, e3]
  unfold tyW
  have e4 : (o.map (fun k => ps.getD k 0)).getD x 0 = ps.getD (o.getD x 0) 0 := by simp [List.getD, hx]
  rw [if_pos hx, e4]
theorem WGr_ok {G : List Nd} {ps : List Nat} {nf : Nat} (h : PsOk G ps ps.length) (hg : G.length ≤ 1000000) (hf : ∀ z, z < G.length → ∀ x ∈ (nd G z).ln, 0 ≤ x.1 ∧ x.1 < nf) (hw : ∀ z, z < G.length → (nd G z).ln.length ≤ nf) : GOk2 nf (WGr G ps) := by
  have hlen := h.len
  have hz : ∀ k, k < ps.length → ps.getD k 0 < G.length := fun k hk => h.lt _ (by simp [List.getD, hk])
  refine ⟨by rw [WGr_len]; exact h.pos, by rw [WGr_len]; omega, fun i hi x hx => ?_, fun i hi => ?_⟩
  · rw [WGr_len] at hi
    have e := WGr_nd (G := G) hi
    rw [nd_eq (by rw [WGr_len]; exact hi)] at e
    rw [e] at hx
    obtain ⟨y, hy, rfl⟩ := List.mem_map.1 hx
    have h1 := hf _ (hz i hi) y hy
    have h2 := List.idxOf_lt_length_of_mem (succ_in (h.clo i hi) y hy)
    rw [WGr_len]
    exact ⟨h1.1, h1.2, by show (0 : Int) ≤ ((ps.idxOf y.2.toNat : Nat) : Int); omega, by show ((ps.idxOf y.2.toNat : Nat) : Int) < _; omega⟩
  · rw [WGr_len] at hi
    have e := WGr_nd (G := G) hi
    rw [nd_eq (by rw [WGr_len]; exact hi)] at e
    rw [e, lnW_len]; exact hw _ (hz i hi)
theorem pG_few {l : List Ty} {a b : List Nd} {nf : Nat} (hw : ∀ i, i < a.length → (nd a i).ln.length ≤ nf) (hf : ∀ i, i < a.length → ∀ x ∈ (nd a i).ln, 0 ≤ x.1 ∧ x.1 < nf) : (∀ z, z < (pG l a b).length → ∀ x ∈ (nd (pG l a b) z).ln, 0 ≤ x.1 ∧ x.1 < nf) ∧ ∀ z, z < (pG l a b).length → (nd (pG l a b) z).ln.length ≤ nf := by
  refine ⟨fun z hz x hx => ?_, fun z hz => ?_⟩ <;> rw [pG_len] at hz <;> have hd := dec_lt hz
  · rw [pG_nd hz] at hx
    obtain ⟨y, hy, _, rfl⟩ := pLn_mem.1 hx
    exact hf _ hd.1 y hy
  · rw [pG_nd hz]
    exact nLT (List.length_filterMap_le _ _) (hw _ hd.1)
theorem GrT.rg {w : World} {lo hi c k g : Nat} {gr : List Nd} {T : Nat → Int} (h : GrT w lo hi (some ⟨g, 0, none⟩) c gr T) (hk : k < gr.length) : ∃ A2 m2 c2, w.rangeAt g (0 + k * 2) [.int .i64 (T k), .slice A2 m2 c2] := by
  obtain ⟨V, g2, cur, e, _, _, hb, _, h0, h1, hr, _⟩ := h.open_ hk
  cases e
  obtain ⟨A2, c2, e2, _⟩ := hr k hk
  have h2 := h1 k hk
  rw [e2] at h2
  refine ⟨A2, (nd gr k).ln.length, c2, hb.range (fun j v hj => ?_)⟩
  match j, hj with
  | 0, hj => cases hj; exact h0 k hk
  | 1, hj => cases hj; exact h2
theorem GrT.addr {w : World} {lo hi c k : Nat} {A : Option Addr} {gr : List Nd} {T : Nat → Int} (h : GrT w lo hi A c gr T) (hk : k < gr.length) : ∃ g, A = some ⟨g, 0, none⟩ ∧ lo ≤ g ∧ g < hi := by
  obtain ⟨V, g2, cur, e, h1, h2, _⟩ := h.open_ hk
  exact ⟨g2, e, h1, h2⟩
end Go.Proofs.YteenmolhopbpeaaDoor
namespace Go.Proofs.YteenmolhopbpeaaDoor
open Go.RowKit
def leastB (l : List Ty) (a b k j : Nat) : Bool := (List.range j).all (fun x => !(!(decide (x = k)) && sub l x k && capB l a b x))
theorem leastB_no {l : List Ty} {a b k j : Nat} (h : j ≠ k ∧ sub l j k = true ∧ capB l a b j = true) : false = leastB l a b k (j + 1) := by
  unfold leastB
  rw [List.range_succ, List.all_append]
  simp [h.1, h.2.1, h.2.2]
theorem leastB_yes {l : List Ty} {a b k j : Nat} (h : ¬ (j ≠ k ∧ sub l j k = true ∧ capB l a b j = true)) : leastB l a b k j = leastB l a b k (j + 1) := by
  unfold leastB
  rw [List.range_succ, List.all_append]
  have : (!(!(decide (j = k)) && sub l j k && capB l a b j)) = true := by
    by_cases e : j = k
    · simp [e]
    · cases h1 : sub l j k
      · simp
      · cases h2 : capB l a b j
        · simp
        · exact absurd ⟨e, h1, h2⟩ h
  simp only [List.all_cons, List.all_nil, this, Bool.and_true]
theorem joinB_least {l : List Ty} {a b k : Nat} (hc : capB l a b k = true) : joinB l a b k = leastB l a b k l.length := by simp [joinB, leastB, hc]
theorem fn23_RJns : callable Tryd.prog 23 = true := by kernel_rfl
set_option maxHeartbeats 1000000 in
theorem sjoins_any (A : Option Addr) (c : Nat) (l : List Ty) (a b : Nat) (w : World) (hT : TypesIn w A l) (hv : VT l) (h60 : l.length ≤ 60) (ha : a < l.length) (hb : b < l.length) : Calls Tryd.prog 20 #[.slice A l.length c, .int .i64 a, .int .i64 b] w fun e w' => (∃ A' cap, e = .returned (.slice A' (joinsK l a b l.length).length cap) ∧ Own w' w.heap.size 3 1 A' (joinsK l a b l.length).length cap ((joinsK l a b l.length).map (Value.int .i64))) ∧ Bel w w' := by
 refine enter Tryd.func20 Tryd.ntmps20 rfl (Nat.le_of_ble_eq_true rfl) ?_
 have hB : Bel w w := Below.refl _ _
 refine c_seq (c_region (waS rfl (x_nil (e_S (c_seq ?_)))))
 refine c_region (waS rfl (x_nil (e_S (c_seq (c_seq ?_)))))
 refine c_region (wmS rfl (wl (r_len U22 rfl) (wmI rfl (x_nil (e_S ?_)))))
 refine c_block ?_
 refine c_loopS [7, 8, 9, 10, 13, 14, 15, 16, 17, 18, 19, 20, 21, 22, 23, 24, 25, 26, 27, 28, 29, 30, 31, 32, 33, 34, 35, 36, 37, 38, 39, 40, 41, 42, 43, 44, 45, 46, 47, 48, 49, 50, 51, 52, 53, 54, 55, 56, 57, 58, 59, 60] (fun m g w' => ∃ (k : Nat) (A7 : Option Addr) (cap7 : Nat) (xs : List Int), k ≤ l.length ∧ m = l.length - k ∧ g 13 = .int .i64 k ∧ g 7 = .slice A7 xs.length cap7 ∧ xs = joinsK l a b k ∧ Bel w w' ∧ Own w' w.heap.size 3 1 A7 (xs).length cap7 ((xs).map (Value.int .i64))) (l.length) ?_ (fun m g3 w1 hI => ?_)
 ·
  exact ⟨0, none, 0, [], Nat.zero_le _, rfl, rfl, rfl, rfl, hB, Own.nil _ _ _ _⟩
 obtain ⟨k, A7, cap7, xs, hk, hm, h13, h7, hxs, hB, ho⟩ := hI
 refine c_know 13 (.int .i64 k) h13 nu (c_know 7 (.slice A7 xs.length cap7) h7 nu (c_seq (c_region (wl (r_lss rfl rfl) (x_nil ?_)))))
 refine e_S (c_seq ?_)
 refine c_ifd rfl (fun c14 => ?_) (fun c14 => ?_)
 ·
  have hlt : k < l.length := by omega
  have hxl := joinsK_le l a b k
  rw [← hxs] at hxl
  refine c_skip (e_S (c_seq (c_block (c_seq (c_region ?_)))))
  refine wmI rfl (waI rfl (x_nil (e_S (c_seq (c_seq ?_)))))
  refine c_cutS [16, 17, 18, 19, 20, 21, 22, 23, 24, 25, 26, 27] (fun g w' => g 27 = .bool (decide (capB l a b k = false)) ∧ Bel w w' ∧ Own w' w.heap.size 3 1 A7 (xs).length cap7 ((xs).map (Value.int .i64))) ?_ (fun g5 w2 hI => ?_)
  ·
   refine c_region (wmS rfl (wmI rfl (wmI rfl ?_)))
   refine wl_cl fn23_RJns (sub_any _ _ _ _ _ _ (hT.mono hB) hv h60 ha hlt) rfl (fun e' w3 hr => ?_)
   obtain ⟨rfl, hs⟩ := hr
   replace hs := Same.of_bel hs
   replace hB := hB.tr0 hs
   replace ho := ho.tr0 hs
   clear hs
   refine ⟨_, rfl, ?_⟩
   refine wl (r_not rfl) (wmB rfl ?_)
   refine wl_cases 21 rfl (fun g21 => ?_) (fun g21 => ?_)
   ·
    refine wlgn 21 rfl rfl rfl (wlgn 21 rfl rfl rfl (wlgn 21 rfl rfl rfl (wlgn 21 rfl rfl rfl (wlgn 21 rfl rfl rfl (wl (r_pt (v := .bool _) rfl rfl) ?_)))))
    refine x_nil ?_
    refine e_R ⟨agA, ?_⟩
    exact ⟨congrArg Value.bool (by first | (simp [capB, g21]; done) | (simp [capB, show sub l a k = true by simpa using g21]; done)), hB, ho⟩
   refine wl_gd 21 rfl rfl (wmS rfl (wl_gd 21 rfl rfl (wmI rfl (wl_gd 21 rfl rfl (wmI rfl ?_)))))
   refine wl_gd 21 rfl rfl ?_
   refine wl_cl fn23_RJns (sub_any _ _ _ _ _ _ (hT.mono hB) hv h60 hb hlt) rfl (fun e' w4 hr => ?_)
   obtain ⟨rfl, hs⟩ := hr
   replace hs := Same.of_bel hs
   replace hB := hB.tr0 hs
   replace ho := ho.tr0 hs
   clear hs
   refine ⟨_, rfl, ?_⟩
   refine wl_gd 21 rfl rfl (wl (r_not rfl) (wl (r_pf (v := .bool _) rfl rfl) (x_nil ?_)))
   refine e_R ⟨agA, ?_⟩
   exact ⟨congrArg Value.bool (by first | (simp [capB, g21]; done) | (simp [capB, show sub l a k = true by simpa using g21]; done)), hB, ho⟩
  obtain ⟨h27, hB, ho⟩ := hI
  refine e_know 27 (.bool (decide (capB l a b k = false))) h27 nu (e_S ?_)
  refine c_ifd rfl (fun c27 => ?_) (fun c27 => ?_)
  ·
   refine c_exit (e_Sx (e_Bx (e_S (c_region (wl (r_add rfl rfl rfl om) ?_)))))
   refine wmI rfl (x_nil (e_LS (l.length - (k + 1)) om agA ?_))
   first
     | exact ⟨k + 1, _, _, xs ++ [(k : Int)], by omega, rfl, rfl, sl_snoc _ _ _ _, by rw [hxs, joinsK_yes ((joinB_least c27).trans c55)], hB, own_snoc ho59⟩
     | exact ⟨k + 1, _, _, xs, by omega, rfl, rfl, rfl, by rw [hxs, joinsK_no ((joinB_least c27).trans c55)], hB, ho⟩
     | exact ⟨k + 1, _, _, xs, by omega, rfl, rfl, rfl, by rw [hxs, joinsK_no (joinB_cap c27)], hB, ho⟩
  replace c27 : capB l a b k = true := by simpa using c27
  refine c_skip (e_S (c_seq (c_region (waB rfl (x_nil ?_)))))
  refine e_S (c_seq (c_seq (c_region (wmS rfl (wl (r_len U22 rfl) ?_)))))
  refine wmI rfl (x_nil (e_S (c_block ?_)))
  refine c_loopS [9, 10, 30, 31, 32, 33, 34, 35, 36, 37, 38, 39, 40, 41, 42, 43, 44, 45, 46, 47, 48, 49, 50, 51, 52, 53, 54] (fun m g w' => ∃ j : Nat, j ≤ l.length ∧ m = l.length - j ∧ g 30 = .int .i64 j ∧ g 9 = .bool (leastB l a b k j) ∧ Bel w w' ∧ Own w' w.heap.size 3 1 A7 (xs).length cap7 ((xs).map (Value.int .i64))) (l.length) ?_ (fun m g8 w5 hI => ?_)
  ·
   exact ⟨0, Nat.zero_le _, rfl, rfl, rfl, hB, ho⟩
  obtain ⟨j, hj, hm2, h30, h9, hB, ho⟩ := hI
  refine c_know 30 (.int .i64 j) h30 nu (c_know 9 (.bool (leastB l a b k j)) h9 nu (c_seq (c_region (wl (r_lss rfl rfl) (x_nil ?_)))))
  refine e_S (c_seq ?_)
  refine c_ifd rfl (fun c31 => ?_) (fun c31 => ?_)
  ·
   have hjl : j < l.length := by omega
   refine c_skip (e_S (c_seq (c_block (c_seq (c_region ?_)))))
   refine wmI rfl (waI rfl (x_nil (e_S (c_seq ?_))))
   refine c_cutS [33, 34, 35, 36, 37, 38, 39, 40, 41, 42, 43, 44, 45, 46, 47, 48, 49, 50, 51, 52, 53] (fun g w' => g 53 = .bool (decide (j ≠ k ∧ sub l j k = true ∧ capB l a b j = true)) ∧ Bel w w' ∧ Own w' w.heap.size 3 1 A7 (xs).length cap7 ((xs).map (Value.int .i64))) ?_ (fun g10 w6 hI => ?_)
   ·
    refine c_region (wmI rfl (wmI rfl (wl (r_neq rfl rfl) (wmB rfl ?_))))
    refine wl_casesd 36 rfl (fun g36 => ?_) (fun g36 => ?_)
    ·
     refine wl_gd 36 rfl rfl (wmS rfl (wl_gd 36 rfl rfl (wmI rfl (wl_gd 36 rfl rfl (wmI rfl ?_)))))
     refine wl_gd 36 rfl rfl ?_
     refine wl_cl fn23_RJns (sub_any _ _ _ _ _ _ (hT.mono hB) hv h60 hjl hlt) rfl (fun e' w7 hr => ?_)
     obtain ⟨rfl, hs⟩ := hr
     replace hs := Same.of_bel hs
     replace hB := hB.tr0 hs
     replace ho := ho.tr0 hs
     clear hs
     refine ⟨_, rfl, ?_⟩
     refine wl (r_pt (v := .bool _) rfl rfl) (wmB rfl ?_)
     refine wl_cases 42 rfl (fun g42 => ?_) (fun g42 => ?_)
     ·
      refine wl_gd 42 rfl rfl (wmS rfl (wl_gd 42 rfl rfl (wmI rfl (wl_gd 42 rfl rfl (wmI rfl ?_)))))
      refine wl_gd 42 rfl rfl ?_
      refine wl_cl fn23_RJns (sub_any _ _ _ _ _ _ (hT.mono hB) hv h60 ha hjl) rfl (fun e' w8 hr => ?_)
      obtain ⟨rfl, hs⟩ := hr
      replace hs := Same.of_bel hs
      replace hB := hB.tr0 hs
      replace ho := ho.tr0 hs
      clear hs
      refine ⟨_, rfl, ?_⟩
      refine wl (r_pt (v := .bool _) rfl rfl) (wmB rfl ?_)
      refine wl_cases 48 rfl (fun g48 => ?_) (fun g48 => ?_)
      ·
       refine wl_gd 48 rfl rfl (wmS rfl (wl_gd 48 rfl rfl (wmI rfl (wl_gd 48 rfl rfl (wmI rfl ?_)))))
       refine wl_gd 48 rfl rfl ?_
       refine wl_cl fn23_RJns (sub_any _ _ _ _ _ _ (hT.mono hB) hv h60 hb hjl) rfl (fun e' w9 hr => ?_)
       obtain ⟨rfl, hs⟩ := hr
       replace hs := Same.of_bel hs
       replace hB := hB.tr0 hs
       replace ho := ho.tr0 hs
       clear hs
       refine ⟨_, rfl, ?_⟩
       refine wl (r_pt (v := .bool _) rfl rfl) (x_nil ?_)
       refine e_R ⟨agA, ?_⟩
       refine ⟨congrArg Value.bool ?_, hB, ho⟩
       first
         | (have h1 : j = k := by omega
            simp [h1]; done)
         | (have h1 : j ≠ k := by omega
            first
              | (simp [capB, h1, g42, g48]; done)
              | (simp [capB, h1, g42]; done)
              | (simp [capB, h1]; done))
      refine wlgn 48 rfl rfl rfl (wlgn 48 rfl rfl rfl (wlgn 48 rfl rfl rfl (wlgn 48 rfl rfl rfl (wl (r_pf (v := .bool _) rfl rfl) (x_nil ?_)))))
      refine e_R ⟨agA, ?_⟩
      refine ⟨congrArg Value.bool ?_, hB, ho⟩
      first
        | (have h1 : j = k := by omega
           simp [h1]; done)
        | (have h1 : j ≠ k := by omega
           first
             | (simp [capB, h1, g42, g48]; done)
             | (simp [capB, h1, g42]; done)
             | (simp [capB, h1]; done))
     refine wlgn 42 rfl rfl rfl (wlgn 42 rfl rfl rfl (wlgn 42 rfl rfl rfl (wlgn 42 rfl rfl rfl (wl (r_pf (v := .bool _) rfl rfl) (wmB rfl ?_)))))
     refine wlgn 48 rfl rfl rfl (wlgn 48 rfl rfl rfl (wlgn 48 rfl rfl rfl (wlgn 48 rfl rfl rfl (wl (r_pf (v := .bool _) rfl rfl) (x_nil ?_)))))
     refine e_R ⟨agA, ?_⟩
     refine ⟨congrArg Value.bool ?_, hB, ho⟩
     first
       | (have h1 : j = k := by omega
          simp [h1]; done)
       | (have h1 : j ≠ k := by omega
          first
            | (simp [capB, h1, g42, g48]; done)
            | (simp [capB, h1, g42]; done)
            | (simp [capB, h1]; done))
    refine wlgn 36 rfl rfl rfl (wlgn 36 rfl rfl rfl (wlgn 36 rfl rfl rfl (wlgn 36 rfl rfl rfl (wl (r_pf (v := .bool _) rfl rfl) (wmB rfl ?_)))))
    refine wlgn 42 rfl rfl rfl (wlgn 42 rfl rfl rfl (wlgn 42 rfl rfl rfl (wlgn 42 rfl rfl rfl (wl (r_pf (v := .bool _) rfl rfl) (wmB rfl ?_)))))
    refine wlgn 48 rfl rfl rfl (wlgn 48 rfl rfl rfl (wlgn 48 rfl rfl rfl (wlgn 48 rfl rfl rfl (wl (r_pf (v := .bool _) rfl rfl) (x_nil ?_)))))
    refine e_R ⟨agA, ?_⟩
    refine ⟨congrArg Value.bool ?_, hB, ho⟩
    first
      | (have h1 : j = k := by omega
         simp [h1]; done)
      | (have h1 : j ≠ k := by omega
         first
           | (simp [capB, h1, g42, g48]; done)
           | (simp [capB, h1, g42]; done)
           | (simp [capB, h1]; done))
   obtain ⟨h53, hB, ho⟩ := hI
   refine e_know 53 (.bool (decide (j ≠ k ∧ sub l j k = true ∧ capB l a b j = true))) h53 nu (e_S ?_)
   refine c_ifd rfl (fun c53 => ?_) (fun c53 => ?_)
   ·
    refine c_region (waB rfl (x_nil (e_B (e_S (c_region ?_)))))
    refine wl (r_add rfl rfl rfl om) (wmI rfl (x_nil (e_LS (l.length - (j + 1)) om agA ?_)))
    first
      | exact ⟨j + 1, by omega, rfl, rfl, congrArg Value.bool (leastB_no c53), hB, ho⟩
      | exact ⟨j + 1, by omega, rfl, rfl, congrArg Value.bool (leastB_yes c53), hB, ho⟩
   refine c_skip (e_B (e_S (c_region (wl (r_add rfl rfl rfl om) (wmI rfl ?_)))))
   refine x_nil (e_LS (l.length - (j + 1)) om agA ?_)
   first
     | exact ⟨j + 1, by omega, rfl, rfl, congrArg Value.bool (leastB_no c53), hB, ho⟩
     | exact ⟨j + 1, by omega, rfl, rfl, congrArg Value.bool (leastB_yes c53), hB, ho⟩
  have hjx : j = l.length := by omega
  subst hjx
  refine c_exit (e_Sx (e_LSx (e_Bx (e_S (c_seq ?_)))))
  refine c_region (wmB rfl (x_nil (e_S ?_)))
  refine c_if rfl (fun c55 => ?_) (fun c55 => ?_)
  ·
   refine c_region (wmS rfl (wmI rfl ?_))
   refine wl_bs (cs := #[_]) [(0, .int _ _)] rfl U56 sz3_Least ze3_Least dE dE kR rfl (fun b58 w10 hb58 hs hr => ?_)
   have or_ho_b58 := fun g hg => nLL (ho.lt g hg).2 hr
   have lo58 := nLT (Bel.size hB) hr
   replace hB := hB.tr0 hs
   replace ho := ho.tr0 hs
   clear hs
   clear hr
   refine wl_app U56 in3_Least rfl dE ho hb58 rfl rfl rfl oneA dE om om (Bel.size hB) (fun g59 cap59 w11 ho59 hs hg => ?_)
   replace hB := hB.tr hs (fun g hg => nLT (Nat.le_refl _) (ho.lt g hg).1)
   refine waS rfl (x_nil (e_B (e_S (c_region (wl (r_add rfl rfl rfl om) ?_)))))
   refine wmI rfl (x_nil (e_LS (l.length - (k + 1)) om agA ?_))
   first
     | exact ⟨k + 1, _, _, xs ++ [(k : Int)], by omega, rfl, rfl, sl_snoc _ _ _ _, by rw [hxs, joinsK_yes ((joinB_least c27).trans c55)], hB, own_snoc ho59⟩
     | exact ⟨k + 1, _, _, xs, by omega, rfl, rfl, rfl, by rw [hxs, joinsK_no ((joinB_least c27).trans c55)], hB, ho⟩
     | exact ⟨k + 1, _, _, xs, by omega, rfl, rfl, rfl, by rw [hxs, joinsK_no (joinB_cap c27)], hB, ho⟩
  refine c_skip (e_B (e_S (c_region (wl (r_add rfl rfl rfl om) (wmI rfl ?_)))))
  refine x_nil (e_LS (l.length - (k + 1)) om agA ?_)
  first
    | exact ⟨k + 1, _, _, xs ++ [(k : Int)], by omega, rfl, rfl, sl_snoc _ _ _ _, by rw [hxs, joinsK_yes ((joinB_least c27).trans c55)], hB, own_snoc ho59⟩
    | exact ⟨k + 1, _, _, xs, by omega, rfl, rfl, rfl, by rw [hxs, joinsK_no ((joinB_least c27).trans c55)], hB, ho⟩
    | exact ⟨k + 1, _, _, xs, by omega, rfl, rfl, rfl, by rw [hxs, joinsK_no (joinB_cap c27)], hB, ho⟩
 have hkl : k = l.length := by omega
 rw [hkl] at hxs
 refine c_exit (e_Sx (e_LSx (e_Bx (e_S (c_seq ?_)))))
 refine c_region (wmS rfl (waS rfl (x_nil (e_S (c_ret ?_)))))
 refine fin1 (.inl rfl) rfl rfl ?_
 rw [← hxs]
 exact ⟨⟨_, _, rfl, ho⟩, hB⟩
end Go.Proofs.YteenmolhopbpeaaDoor
