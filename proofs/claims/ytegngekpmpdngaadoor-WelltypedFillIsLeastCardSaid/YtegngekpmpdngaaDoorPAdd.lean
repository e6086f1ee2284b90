/- What these functions of the program compute, at every world: (*glosswright/unify.pool).add. -/
import Derived.Test.YtegngekpmpdngaaDoorU
import Derived.Test.YtegngekpmpdngaaDoorPFind
namespace Go.Proofs.YtegngekpmpdngaaDoor
open Go.RowKit
structure PoolAt (w : World) (ob bp : Nat) (c0 c1 : Value) (n : Nat) (PA TA LA : Option Addr) (cp ct cl : Nat) (P : Nat → Nat) (T : Nat → Int) (V : Nat → Value) (L : Nat → List (Int × Int)) : Prop where
  bp : Blk w bp 143 #[c0, c1, .slice PA n cp, .slice TA n ct, .slice LA n cl]
  pa : Own w ob 3 1 PA n cp (rowL n (vN P))
  ta : Own w ob 3 1 TA n ct (rowL n (vI T))
  la : Own w ob 31 1 LA n cl (rowL n V)
  rows : ∀ x, x < n → RowO w ob w.heap.size (V x) (L x)
  dis : ∀ g ∈ aL PA, ¬ g ∈ aL TA
theorem row2_lnV {m : Nat} {f h : Nat → Value} {xs : List (Int × Int)} (hl : xs.length = m) (hf : ∀ k (hk : k < xs.length), f k = .int .i64 (xs[k]).1) (hh : ∀ k (hk : k < xs.length), h k = .int .i64 (xs[k]).2) : (row2 m f h).toList = lnV xs := by
  refine List.ext_getElem? (fun j => ?_)
  by_cases hj : j < m * 2
  · have hk : j / 2 < xs.length := by omega
    have h1 := lnV_get xs (j / 2) hk
    rcases Nat.mod_two_eq_zero_or_one j with e | e
    · have e2 : j = 0 + j / 2 * 2 + 0 := by omega
      rw [Array.getElem?_toList]
      rw [show (row2 m f h)[j]? = (row2 m f h)[0 + j / 2 * 2 + 0]? from congrArg (fun z => (row2 m f h)[z]?) e2, row2_get0 om, hf _ hk]
      rw [show (lnV xs)[j]? = (lnV xs)[j / 2 * 2]? from congrArg (fun z => (lnV xs)[z]?) om, h1.1]
    · have e2 : j = 0 + j / 2 * 2 + 1 := by omega
      rw [Array.getElem?_toList]
      rw [show (row2 m f h)[j]? = (row2 m f h)[0 + j / 2 * 2 + 1]? from congrArg (fun z => (row2 m f h)[z]?) e2, row2_get1 om, hh _ hk]
      rw [show (lnV xs)[j]? = (lnV xs)[j / 2 * 2 + 1]? from congrArg (fun z => (lnV xs)[z]?) om, h1.2]
  · rw [List.getElem?_eq_none (by simp [row2]; omega), List.getElem?_eq_none (by rw [lnV_len]; omega)]
def addP (n : Nat) (P : Nat → Nat) (x : Nat) : Nat := if x < n then P x else x
def addT (n : Nat) (T : Nat → Int) (g : List Nd) (x : Nat) : Int := if x < n then T x else (nd g (x - n)).ty
def shL (n : Nat) (xs : List (Int × Int)) : List (Int × Int) := xs.map (fun y => (y.1, y.2 + (n : Int)))
def addL (n : Nat) (L : Nat → List (Int × Int)) (g : List Nd) (x : Nat) : List (Int × Int) := if x < n then L x else shL n (nd g (x - n)).ln
def putV (V : Nat → Value) (m : Nat) (v : Value) (x : Nat) : Value := if x = m then v else V x
theorem rowL_put {V : Nat → Value} {m : Nat} {v : Value} : rowL m V ++ [v] = rowL (m + 1) (putV V m v) := by
  rw [rowL_snoc]
  exact rowL_congr (fun x hx => by
    by_cases e : x = m
    · subst e; simp [putV]
    · have : x < m := by omega
      simp [putV, e, this])
theorem addP_new {n k : Nat} {P : Nat → Nat} : Value.int .i64 ((n + k : Nat) : Int) = vN (addP n P) (n + k) := by
  unfold vN addP; rw [if_neg om]
theorem addT_new {n k : Nat} {T : Nat → Int} {g : List Nd} (hk : k < g.length) : Value.int .i64 (g[k]).ty = vI (addT n T g) (n + k) := by
  unfold vI addT; rw [if_neg om, show n + k - n = k by omega, nd_eq hk]
theorem own_blk_ne {w : World} {base b sz k c : Nat} {e t : TypeId} {A : Option Addr} {xs : List Value} {cs : Array Value} (h : Own w base e sz A k c xs) (hb : Blk w b t cs) (hne : e ≠ t) : ∀ g ∈ aL A, g ≠ b := fun g hg e1 => by
  obtain ⟨c2, h2⟩ := h.typ g hg
  subst e1
  exact hne (blk_type h2 hb)
theorem rowL_ext {n : Nat} {g : Nat → Value} {v : Value} (h : v = g n) : rowL n g ++ [v] = rowL (n + 1) g := by
  rw [rowL_snoc]
  exact rowL_congr (fun x hx => by
    by_cases e : x < n
    · rw [if_pos e]
    · rw [if_neg e, h, show x = n by omega])
theorem in30_PAdd : (Tryd.prog.info? 30).map (fun i => (i.zero, i.size, i.bytes)) = some (some (.agg #[.int .i64 0, .int .i64 0]), 2, 16) := by kernel_rfl
theorem in31 : (Tryd.prog.info? 31).map (fun i => (i.zero, i.size, i.bytes)) = some (some (.slice none 0 0), 1, 24) := by kernel_rfl
theorem sz141 : (Tryd.prog.info? 141).map (·.size) = some 1 := by kernel_rfl
theorem ze31 : (Tryd.prog.info? 31).map (·.zero) = some (some (.slice none 0 0)) := by kernel_rfl
set_option maxHeartbeats 4000000 in
theorem padd_any {ob bp n cg nf : Nat} {c0 c1 : Value} {PA TA LA G : Option Addr} {cp ct cl : Nat} {P : Nat → Nat} {T : Nat → Int} {V : Nat → Value} {L : Nat → List (Int × Int)} {gr : List Nd} (nt : Nat) (w : World) (hp : PoolAt w ob bp c0 c1 n PA TA LA cp ct cl P T V L) (hbo : bp < ob) (hob : ob ≤ w.heap.size) (hn : n ≤ 1000000) (hG : ∀ w2, Chg ob [bp] w w2 → NodesIn w2 G gr) (hk : GOk nt nf gr) (hnf : nf ≤ 1000) : Calls Tryd.prog 94 #[.pointer (some ⟨bp, 0, none⟩), .agg #[.slice G gr.length cg]] w fun e w' => (∃ PA' TA' LA' cp' ct' cl' V', e = .returned (.int .i64 (n : Nat)) ∧ PoolAt w' ob bp c0 c1 (n + gr.length) PA' TA' LA' cp' ct' cl' (addP n P) (addT n T gr) V' (addL n L gr)) ∧ Chg ob [bp] w w' ∧ ob ≤ w'.heap.size := by
 have hn6 := hk.le
 have hlob : w.heap.size ≤ w.heap.size := Nat.le_refl _
 obtain ⟨hbp, hpa, hta, hla, hrw, hdis⟩ := hp
 obtain ⟨bs, hbse⟩ : ∃ b, b = w.heap.size := ⟨_, rfl⟩
 rw [← hbse] at hrw
 have hbz : bs ≤ w.heap.size := Nat.le_of_eq hbse
 have hCS : Chg ob [bp] w w ∧ ob ≤ w.heap.size := ⟨Chg.refl _ _ _, hob⟩
 replace hpa : Own w ob 3 1 PA n cp (rowL n (vN (addP n P))) := by rw [rowL_congr (g' := vN P) (fun x hx => by simp [vN, addP, hx])]; exact hpa
 replace hta : Own w ob 3 1 TA n ct (rowL n (vI (addT n T gr))) := by rw [rowL_congr (g' := vI T) (fun x hx => by simp [vI, addT, hx])]; exact hta
 replace hrw : ∀ x, x < n → RowO w ob bs (V x) (addL n L gr x) := fun x hx => by have h := hrw x hx; simp only [addL, if_pos hx]; exact h
 refine enter Tryd.func94 Tryd.ntmps94 rfl (Nat.le_of_ble_eq_true rfl) (c_seq (c_region ?_))
 refine wl_bx (v := .agg #[_]) (cs := #[_]) rfl rfl (fun b3 w1 hb3 hs hr => ?_)
 have or_bp_b3 : bp < b3 := nLL hbp.lt hr
 have or_hpa_b3 := (fun (g : Nat) hg => nLL (hpa.lt g hg).2 hr)
 have or_hta_b3 := (fun (g : Nat) hg => nLL (hta.lt g hg).2 hr)
 have or_hla_b3 := (fun (g : Nat) hg => nLL (hla.lt g hg).2 hr)
 have or_hCS_b3 := (nLT hCS.2 hr)
 have or_hbz_b3 := (nLT hbz hr)
 replace hbp := hbp.tr0 hs
 replace hpa := hpa.tr0 hs
 replace hta := hta.tr0 hs
 replace hla := hla.tr0 hs
 replace hrw := fun x hx => (hrw x hx).tr hs (by simp)
 replace hCS := And.intro (hCS.1.st hs hCS.2 (by simp)) (nLT hCS.2 (Same.size hs))
 replace hbz := nLT hbz (Same.size hs)
 clear hs
 refine waI rfl (x_nil (e_S (c_seq (c_region (wl (r_mv (v := .pointer (some _)) rfl) ?_)))))
 refine wl (r_nc rfl) (wl (r_fa U143 sz43_PFind dE rfl rfl rfl) (wl (r_ld1 (v := .slice _ _ _) U43 rfl rfl (hbp.cell rfl)) (wl (r_len U43 rfl) (waI rfl (x_nil ?_)))))
 refine e_S (c_seq (c_seq (c_region (wl (r_fa U28 sz26_GTgt dE rfl rfl rfl) (wl (r_ld1 (v := .slice _ _ _) U26 rfl rfl (hb3.cell rfl)) ?_)))))
 refine wl (r_len U26 rfl) (wmI rfl (x_nil (e_S (c_block ?_))))
 refine c_loopS [6, 7, 8, 9, 10, 19, 20, 21, 22, 23, 24, 25, 26, 27, 28, 29, 30, 31, 32, 33, 34, 35, 36, 37, 38, 39, 40, 41, 42, 43, 44, 45, 46, 47, 48, 49, 50, 51, 52, 53, 54, 55, 56, 57, 58, 59, 60, 61, 62, 63, 64, 65, 66, 67, 68, 69, 70, 71, 72, 73, 74, 75, 76, 77, 78, 79, 80] (fun m g w' => ∃ (k : Nat) (PA TA LA : Option Addr) (cp ct cl : Nat) (V : Nat → Value), k ≤ gr.length ∧ m = gr.length - k ∧ g 19 = .int .i64 k ∧ Blk w' b3 28 #[.slice G gr.length cg] ∧ Blk w' bp 143 #[c0, c1, .slice PA (n + k) cp, .slice TA (n + k) ct, .slice LA (n + k) cl] ∧ Own w' ob 3 1 PA (n + k) cp (rowL (n + k) (vN (addP n P))) ∧ Own w' ob 3 1 TA (n + k) ct (rowL (n + k) (vI (addT n T gr))) ∧ Own w' ob 31 1 LA (n + k) cl (rowL (n + k) V) ∧ (∀ x, x < (n + k) → RowO w' ob w'.heap.size (V x) (addL n L gr x)) ∧ (∀ g ∈ aL PA, ¬ g ∈ aL TA) ∧ (Chg ob [bp] w w' ∧ ob ≤ w'.heap.size)) (gr.length) ?_ (fun m g3 w2 hI => ?_)
 ·
  exact ⟨0, PA, TA, LA, cp, ct, cl, V, Nat.zero_le _, rfl, rfl, hb3, hbp, hpa, hta, hla, fun x hx => (hrw x hx).up hbz, hdis, hCS⟩
 obtain ⟨k, PA, TA, LA, cp, ct, cl, V, hkk, hm, h19, hb3, hbp, hpa, hta, hla, hrw, hdis, hCS⟩ := hI
 obtain ⟨bs, hbse⟩ : ∃ b, b = w2.heap.size := ⟨_, rfl⟩
 rw [← hbse] at hrw
 have hbz : bs ≤ w2.heap.size := Nat.le_of_eq hbse
 have hup := fun g hg => (hpa.lt g hg).2
 have hut := fun g hg => (hta.lt g hg).2
 have hul := fun g hg => (hla.lt g hg).2
 have hu3 := hb3.lt
 have hubp := hbp.lt
 rw [← hbse] at hup hut hul hu3 hubp
 have or_hpa_b3 := own_blk_ne hpa hb3 dE
 have or_hta_b3 := own_blk_ne hta hb3 dE
 have or_hla_b3 := own_blk_ne hla hb3 dE
 refine c_know 19 (.int .i64 k) h19 nu (c_seq (c_region (wl (r_lss rfl rfl) (x_nil (e_S ?_)))))
 refine c_seq ?_
 refine c_ifd rfl (fun c20 => ?_) (fun c20 => ?_)
 ·
  have hlt : k < gr.length := by omega
  obtain ⟨nb, no, LA0, lc, rfl, hnb, hnr, hln⟩ := (hG _ hCS.1).at_ (Below.refl _ _ : Bel w2 w2) hlt
  have hmx := hln.1
  unfold maxI at hmx
  have hfw := hk.few k hlt
  obtain ⟨wN, hwN⟩ : ∃ x, x = w2 := ⟨_, rfl⟩
  have hBn : Bel wN w2 := by rw [hwN]; exact Below.refl _ _
  rw [← hwN] at hnb hnr hln
  refine c_skip (e_S (c_seq (c_block (c_seq (c_region ?_)))))
  refine wmI rfl (wl (r_ia (i := k) U26 sz33_GTgt rfl rfl hlt rfl) (wl (r_ldS U33 rfl rfl (hBn.range hnb hnr) sz33_GTgt) ?_))
  refine wl_al (cs := #[.int .i64 0, .slice none 0 0]) ze33_GTgt rfl (fun b7 w3 hb7 hs hr => ?_)
  have or_bp_b7 : bp < b7 := nLL hbp.lt hr
  have or_hpa_b7 := (fun (g : Nat) hg => nLL (hpa.lt g hg).2 hr)
  have or_hta_b7 := (fun (g : Nat) hg => nLL (hta.lt g hg).2 hr)
  have or_hla_b7 := (fun (g : Nat) hg => nLL (hla.lt g hg).2 hr)
  have or_hCS_b7 := (nLT hCS.2 hr)
  have or_b3_b7 : b3 < b7 := nLL hb3.lt hr
  have or_hbz_b7 := (nLT hbz hr)
  have lo7 := nLT (Bel.size hBn) hr
  have lo_hBn_b7 := nLT (Bel.size hBn) hr
  replace hbp := hbp.tr0 hs
  replace hpa := hpa.tr0 hs
  replace hta := hta.tr0 hs
  replace hla := hla.tr0 hs
  replace hrw := fun x hx => (hrw x hx).tr hs (by simp)
  replace hCS := And.intro (hCS.1.st hs hCS.2 (by simp)) (nLT hCS.2 (Same.size hs))
  replace hb3 := hb3.tr0 hs
  replace hbz := nLT hbz (Same.size hs)
  replace hBn := hBn.tr0 hs
  clear hs
  clear hr
  refine waI rfl ?_
  refine wl_stW hb7 rfl rfl sz33_GTgt rfl oneA (fun w4 hq hs => ?_)
  replace hbp := hbp.tr1 hs om
  replace hpa := hpa.tr1 hs (fun g hg => by have := (hpa.lt g hg).1; (try have := or_hpa_b7 g hg); omega)
  replace hta := hta.tr1 hs (fun g hg => by have := (hta.lt g hg).1; (try have := or_hta_b7 g hg); omega)
  replace hla := hla.tr1 hs (fun g hg => by have := (hla.lt g hg).1; (try have := or_hla_b7 g hg); omega)
  replace hrw := fun x hx => (hrw x hx).tr hs (fun g hg => by rw [List.mem_singleton.1 hg]; first | exact .inr ⟨_, _, hb7, by decide⟩ | exact .inl om)
  replace hCS := And.intro (hCS.1.st hs hCS.2 (fun g hg => by have h1 := List.mem_singleton.1 hg; first | (left; rw [h1]; simp; done) | (right; omega))) (nLT hCS.2 (Same.size hs))
  replace hb3 := hb3.tr1 hs om
  replace hbz := nLT hbz (Same.size hs)
  replace hBn := hBn.tr1 hs lo_hBn_b7
  clear hs
  replace hb7 := hq
  refine x_nil (e_S (c_seq (c_region (wl (r_fa U33 sz31_GTgt dE rfl rfl rfl) (wl (r_ld1 (v := .slice _ _ _) U31 rfl rfl (hb7.cell rfl)) ?_)))))
  refine wl (r_len U31 rfl) ?_
  refine wl_mk (m := (gr[k]'hlt).ln.length) U31 in30_PAdd rfl rfl om om (fun b27 w5 hb27 hs hr => ?_)
  have or_bp_b27 : bp < b27 := nLL hbp.lt hr
  have or_hpa_b27 := (fun (g : Nat) hg => nLL (hpa.lt g hg).2 hr)
  have or_hta_b27 := (fun (g : Nat) hg => nLL (hta.lt g hg).2 hr)
  have or_hla_b27 := (fun (g : Nat) hg => nLL (hla.lt g hg).2 hr)
  have or_hCS_b27 := (nLT hCS.2 hr)
  have or_b3_b27 : b3 < b27 := nLL hb3.lt hr
  have or_hbz_b27 := (nLT hbz hr)
  have or_b7_b27 : b7 < b27 := nLL hb7.lt hr
  have lo27 := nLT (Bel.size hBn) hr
  have lo_hBn_b27 := nLT (Bel.size hBn) hr
  replace hbp := hbp.tr0 hs
  replace hpa := hpa.tr0 hs
  replace hta := hta.tr0 hs
  replace hla := hla.tr0 hs
  replace hrw := fun x hx => (hrw x hx).tr hs (by simp)
  replace hCS := And.intro (hCS.1.st hs hCS.2 (by simp)) (nLT hCS.2 (Same.size hs))
  replace hb3 := hb3.tr0 hs
  replace hbz := nLT hbz (Same.size hs)
  replace hBn := hBn.tr0 hs
  replace hb7 := hb7.tr0 hs
  clear hs
  clear hr
  refine waS rfl (x_nil (e_S (c_seq (c_seq ?_))))
  replace hb27 : Blk w5 b27 30 (row2 (gr[k]'hlt).ln.length (fun _ => .int .i64 0) (fun _ => .int .i64 0)) := by
    have h := hb27
    rw [show (Value.agg #[.int .i64 0, .int .i64 0]).cells = #[.int .i64 0, .int .i64 0] from rfl, row2_made] at h
    exact h
  refine c_region (wl (r_fa U33 sz31_GTgt dE rfl rfl rfl) (wl (r_ld1 (v := .slice _ _ _) U31 rfl rfl (hb7.cell rfl)) (wl (r_len U31 rfl) (wmI rfl (x_nil ?_)))))
  refine e_S (c_block ?_)
  refine c_loopS [9, 10, 31, 32, 33, 34, 35, 36, 37, 38, 39, 40, 41, 42, 43, 44, 45, 46] (fun m g w' => ∃ j : Nat, j ≤ (gr[k]'hlt).ln.length ∧ m = (gr[k]'hlt).ln.length - j ∧ g 31 = .int .i64 j ∧ Blk w' b3 28 #[.slice (some ⟨nb, no, none⟩) gr.length cg] ∧ Blk w' bp 143 #[c0, c1, .slice PA (n + k) cp, .slice TA (n + k) ct, .slice LA (n + k) cl] ∧ Own w' ob 3 1 PA (n + k) cp (rowL (n + k) (vN (addP n P))) ∧ Own w' ob 3 1 TA (n + k) ct (rowL (n + k) (vI (addT n T gr))) ∧ Own w' ob 31 1 LA (n + k) cl (rowL (n + k) V) ∧ (∀ x, x < (n + k) → RowO w' ob bs (V x) (addL n L gr x)) ∧ bs ≤ w'.heap.size ∧ Bel wN w' ∧ Blk w' b7 33 #[.int .i64 (gr[k]'hlt).ty, .slice LA0 (gr[k]'hlt).ln.length lc] ∧ Blk w' b27 30 (row2 (gr[k]'hlt).ln.length (fun x => if x < j then .int .i64 (((gr[k]'hlt)).ln.getD x (0, 0)).1 else .int .i64 0) (fun x => if x < j then .int .i64 ((((gr[k]'hlt)).ln.getD x (0, 0)).2 + (n : Int)) else .int .i64 0)) ∧ (Chg ob [bp] w w' ∧ ob ≤ w'.heap.size)) ((gr[k]'hlt).ln.length) ?_ (fun m g7 w6 hI => ?_)
  ·
   refine ⟨0, Nat.zero_le _, rfl, rfl, hb3, hbp, hpa, hta, hla, hrw, hbz, hBn, hb7, ?_, hCS⟩
   rw [row2_congr (f' := fun _ => .int .i64 0) (h' := fun _ => .int .i64 0) (fun x _ => by simp) (fun x _ => by simp)]; exact hb27
  obtain ⟨j, hj, hmj, h31, hb3, hbp, hpa, hta, hla, hrw, hbz, hBn, hb7, hb27, hCS⟩ := hI
  refine c_know 31 (.int .i64 j) h31 nu (c_seq (c_region (wl (r_lss rfl rfl) (x_nil (e_S ?_)))))
  refine c_seq ?_
  refine c_ifd rfl (fun c32 => ?_) (fun c32 => ?_)
  ·
   have hjl : j < (gr[k]'hlt).ln.length := by omega
   obtain ⟨lb, lof, rfl, hlb, hlr⟩ := hln.at_ hBn hjl
   have hxr := hk.ln k hlt _ (List.getElem_mem hjl)
   refine c_skip (e_S (c_seq (c_block (c_seq (c_region ?_)))))
   refine wmI rfl (wl (r_ia (i := j) U31 sz30_GSearch rfl rfl om rfl) (wl (r_ldS U30 rfl rfl hlr sz30_GSearch) ?_))
   refine wl_al (cs := #[.int .i64 0, .int .i64 0]) ze30_GTgt rfl (fun b10 w7 hb10 hs hr => ?_)
   have or_bp_b10 : bp < b10 := nLL hbp.lt hr
   have or_hpa_b10 := (fun (g : Nat) hg => nLL (hpa.lt g hg).2 hr)
   have or_hta_b10 := (fun (g : Nat) hg => nLL (hta.lt g hg).2 hr)
   have or_hla_b10 := (fun (g : Nat) hg => nLL (hla.lt g hg).2 hr)
   have or_hCS_b10 := (nLT hCS.2 hr)
   have or_b3_b10 : b3 < b10 := nLL hb3.lt hr
   have or_hbz_b10 := (nLT hbz hr)
   have or_b7_b10 : b7 < b10 := nLL hb7.lt hr
   have or_b27_b10 : b27 < b10 := nLL hb27.lt hr
   have lo10 := nLT (Bel.size hBn) hr
   have lo_hBn_b10 := nLT (Bel.size hBn) hr
   replace hbp := hbp.tr0 hs
   replace hpa := hpa.tr0 hs
   replace hta := hta.tr0 hs
   replace hla := hla.tr0 hs
   replace hrw := fun x hx => (hrw x hx).tr hs (by simp)
   replace hCS := And.intro (hCS.1.st hs hCS.2 (by simp)) (nLT hCS.2 (Same.size hs))
   replace hb3 := hb3.tr0 hs
   replace hbz := nLT hbz (Same.size hs)
   replace hBn := hBn.tr0 hs
   replace hb7 := hb7.tr0 hs
   replace hb27 := hb27.tr0 hs
   clear hs
   clear hr
   refine waI rfl ?_
   refine wl_stW hb10 rfl rfl sz30_GSearch rfl oneA (fun w8 hq hs => ?_)
   replace hbp := hbp.tr1 hs om
   replace hpa := hpa.tr1 hs (fun g hg => by have := (hpa.lt g hg).1; (try have := or_hpa_b10 g hg); omega)
   replace hta := hta.tr1 hs (fun g hg => by have := (hta.lt g hg).1; (try have := or_hta_b10 g hg); omega)
   replace hla := hla.tr1 hs (fun g hg => by have := (hla.lt g hg).1; (try have := or_hla_b10 g hg); omega)
   replace hrw := fun x hx => (hrw x hx).tr hs (fun g hg => by rw [List.mem_singleton.1 hg]; first | exact .inr ⟨_, _, hb10, by decide⟩ | exact .inl om)
   replace hCS := And.intro (hCS.1.st hs hCS.2 (fun g hg => by have h1 := List.mem_singleton.1 hg; first | (left; rw [h1]; simp; done) | (right; omega))) (nLT hCS.2 (Same.size hs))
   replace hb3 := hb3.tr1 hs om
   replace hbz := nLT hbz (Same.size hs)
   replace hBn := hBn.tr1 hs lo_hBn_b10
   replace hb7 := hb7.tr1 hs om
   replace hb27 := hb27.tr1 hs om
   clear hs
   replace hb10 := hq
   refine x_nil (e_S (c_region (wmS rfl (wmI rfl (wl (r_fa U30 sz3_GSearch dE rfl rfl rfl) ?_)))))
   refine wl (r_ld1 (v := .int _ _) U3 rfl rfl (hb10.cell rfl)) (wmI rfl (wl (r_fa U30 sz3_GSearch dE rfl rfl rfl) (wl (r_ld1 (v := .int _ _) U3 rfl rfl (hb10.cell rfl)) (wl (r_add (c := (((gr[k]'hlt).ln[j]'hjl).2 + (n : Int))) rfl rfl om om) (wl (r_bd2 (v0 := .int _ _) (v1 := .int _ _) (fun v0 v1 => #[v0, v1]) rfl rfl kR) ?_)))))
   refine wl (r_ia (i := j) U31 sz30_GSearch rfl rfl hjl rfl) ?_
   refine wl_stM hb27 rfl rfl sz30_GSearch (by rw [row2_size]; show 0 + j * 2 + 2 ≤ _; omega) oneA row2_splice (fun w9 hq hs => ?_)
   replace hbp := hbp.tr1 hs om
   replace hpa := hpa.tr1 hs (fun g hg => by have := (hpa.lt g hg).1; (try have := or_hpa_b27 g hg); omega)
   replace hta := hta.tr1 hs (fun g hg => by have := (hta.lt g hg).1; (try have := or_hta_b27 g hg); omega)
   replace hla := hla.tr1 hs (fun g hg => by have := (hla.lt g hg).1; (try have := or_hla_b27 g hg); omega)
   replace hrw := fun x hx => (hrw x hx).tr hs (fun g hg => by rw [List.mem_singleton.1 hg]; first | exact .inr ⟨_, _, hb27, by decide⟩ | exact .inl om)
   replace hCS := And.intro (hCS.1.st hs hCS.2 (fun g hg => by have h1 := List.mem_singleton.1 hg; first | (left; rw [h1]; simp; done) | (right; omega))) (nLT hCS.2 (Same.size hs))
   replace hb3 := hb3.tr1 hs om
   replace hbz := nLT hbz (Same.size hs)
   replace hBn := hBn.tr1 hs lo_hBn_b27
   replace hb7 := hb7.tr1 hs om
   replace hb10 := hb10.tr1 hs om
   clear hs
   replace hb27 := hq
   rw [row2_congr (f' := fun x => if x < j + 1 then .int .i64 (((gr[k]'hlt)).ln.getD x (0, 0)).1 else .int .i64 0) (h' := fun x => if x < j + 1 then .int .i64 ((((gr[k]'hlt)).ln.getD x (0, 0)).2 + (n : Int)) else .int .i64 0) (fun x _ => by
     by_cases e : x = j
     · subst e; simp [List.getD, hjl]
     · have e1 : (x < j + 1) ↔ (x < j) := by omega
       simp [e, e1]) (fun x _ => by
     by_cases e : x = j
     · subst e; simp [List.getD, hjl]
     · have e1 : (x < j + 1) ↔ (x < j) := by omega
       simp [e, e1])] at hb27
   refine x_nil (e_B (e_S (c_region (wl (r_add rfl rfl rfl om) (wmI rfl ?_)))))
   refine x_nil (e_LS ((gr[k]'hlt).ln.length - (j + 1)) om agA ?_)
   exact ⟨j + 1, by omega, rfl, rfl, hb3, hbp, hpa, hta, hla, hrw, hbz, hBn, hb7, hb27, hCS⟩
  have hjx : j = (gr[k]'hlt).ln.length := by omega
  subst hjx
  refine c_exit (e_Sx (e_LSx (e_Bx (e_S (c_seq ?_)))))
  have hrow := RowO.of (lo := ob) (xs := shL n (gr[k]'hlt).ln) (cap := (gr[k]'hlt).ln.length) (base := ob) (Nat.le_refl _) (A := some ⟨b27, 0, none⟩) (w := w6) (by
    have hl : (shL n (gr[k]'hlt).ln).length = (gr[k]'hlt).ln.length := by simp [shL]
    rw [hl]
    have h := own_blk (base := ob) (sz := 2) (m := (gr[k]'hlt).ln.length) hb27 om (by rw [row2_size]) om
    rw [row2_lnV hl (fun x hx => by
      have hx2 : x < (gr[k]'hlt).ln.length := by omega
      simp [shL, List.getD, hx2]) (fun x hx => by
      have hx2 : x < (gr[k]'hlt).ln.length := by omega
      simp [shL, List.getD, hx2])] at h
    exact h)
  rw [show (shL n (gr[k]'hlt).ln).length = (gr[k]'hlt).ln.length by simp [shL]] at hrow
  obtain ⟨s9, hs9⟩ : ∃ b, b = w6.heap.size := ⟨_, rfl⟩
  rw [← hs9] at hrow
  have hz9 : s9 ≤ w6.heap.size := Nat.le_of_eq hs9
  refine c_region (wl (r_mv (v := .pointer (some _)) rfl) (wl (r_mv (v := .pointer (some _)) rfl) (wl (r_nc rfl) (wl (r_fa U143 sz43_PFind dE rfl rfl rfl) (wl (r_ld1 (v := .slice _ _ _) U43 rfl rfl (hbp.cell rfl)) ?_)))))
  refine wmI rfl (wmI rfl (wl (r_add (c := ((n + k : Nat) : Int)) rfl rfl om om) ?_))
  refine wl_bs (cs := #[_]) [(0, .int _ _)] rfl U43 sz3_GSearch ze3_SFind dE dE kR rfl (fun b55 w10 hb55 hs hr => ?_)
  have or_bp_b55 : bp < b55 := nLL hbp.lt hr
  have or_hpa_b55 := (fun (g : Nat) hg => nLL (hpa.lt g hg).2 hr)
  have or_hta_b55 := (fun (g : Nat) hg => nLL (hta.lt g hg).2 hr)
  have or_hla_b55 := (fun (g : Nat) hg => nLL (hla.lt g hg).2 hr)
  have or_hCS_b55 := (nLT hCS.2 hr)
  have or_b3_b55 : b3 < b55 := nLL hb3.lt hr
  have or_hbz_b55 := (nLT hbz hr)
  have or_b7_b55 : b7 < b55 := nLL hb7.lt hr
  have or_hz9_b55 := (nLT hz9 hr)
  replace hbp := hbp.tr0 hs
  replace hpa := hpa.tr0 hs
  replace hta := hta.tr0 hs
  replace hla := hla.tr0 hs
  replace hrw := fun x hx => (hrw x hx).tr hs (by simp)
  replace hCS := And.intro (hCS.1.st hs hCS.2 (by simp)) (nLT hCS.2 (Same.size hs))
  replace hb3 := hb3.tr0 hs
  replace hbz := nLT hbz (Same.size hs)
  replace hb7 := hb7.tr0 hs
  replace hrow := hrow.tr hs (by simp)
  replace hz9 := nLT hz9 (Same.size hs)
  clear hs
  have hzz := fun g hg => (hta.lt g hg).2
  refine wl_app U43 in3_SFind rfl dE hpa hb55 rfl rfl rfl oneA dE om om hCS.2 (fun g56 cap56 w11 ho56 hs hg => ?_)
  have ne_ho56_bp : g56 ≠ bp := fun e => by
   have hl := hbp.lt
   rcases hg with hg | hg
   · have h1 := hpa.lt g56 (by rw [hg]; exact List.mem_singleton.2 rfl)
     (try have := or_hpa_bp g56 (by rw [hg]; exact List.mem_singleton.2 rfl)); omega
   · omega
  have ne_ho56_b3 : g56 ≠ b3 := fun e => by
   have hl := hb3.lt
   rcases hg with hg | hg
   · have h1 := hpa.lt g56 (by rw [hg]; exact List.mem_singleton.2 rfl)
     (try have := or_hpa_b3 g56 (by rw [hg]; exact List.mem_singleton.2 rfl)); omega
   · omega
  have ne_ho56_b7 : g56 ≠ b7 := fun e => by
   have hl := hb7.lt
   rcases hg with hg | hg
   · have h1 := hpa.lt g56 (by rw [hg]; exact List.mem_singleton.2 rfl)
     (try have := or_hpa_b7 g56 (by rw [hg]; exact List.mem_singleton.2 rfl)); omega
   · omega
  replace hbp := hbp.tr hs (fun hx => by have := (hpa.lt _ hx).1; (try have := or_hpa_bp _ hx); omega)
  replace hta := hta.tr hs (fun g hg hx => by first | exact own_ne hta hpa dE g hg hx | exact hdis g hg hx | exact hdis g hx hg | (have h1 := (hpa.lt g hx).1; (try have := hzz g hg); omega))
  replace hla := hla.tr hs (fun g hg hx => by first | exact own_ne hla hpa dE g hg hx | exact hdis g hg hx | exact hdis g hx hg | (have h1 := (hpa.lt g hx).1; (try have := hzz g hg); omega))
  replace hrw := fun x hx => (hrw x hx).tr hs (fun g hg => by first | exact .inl (by have := ((hpa).lt g hg).1; omega) | (obtain ⟨cs, h⟩ := (hpa).typ g hg; exact .inr ⟨_, _, h, by decide⟩))
  replace hCS := And.intro (hCS.1.st hs hCS.2 (fun g hg => .inr (by have := ((hpa).lt g hg).1; omega))) (nLT hCS.2 (Same.size hs))
  replace hb3 := hb3.tr hs (fun hx => by have := (hpa.lt _ hx).1; (try have := or_hpa_b3 _ hx); omega)
  replace hbz := nLT hbz (Same.size hs)
  replace hb7 := hb7.tr hs (fun hx => by have := (hpa.lt _ hx).1; (try have := or_hpa_b7 _ hx); omega)
  replace hrow := hrow.tr hs (fun g hg => by first | exact .inl (by have := ((hpa).lt g hg).1; omega) | (obtain ⟨cs, h⟩ := (hpa).typ g hg; exact .inr ⟨_, _, h, by decide⟩))
  replace hz9 := nLT hz9 (Same.size hs)
  have hdis : ∀ g ∈ aL (some ⟨g56, 0, none⟩), ¬ g ∈ aL TA := fun g hg' h => by
    simp only [aL, List.mem_singleton] at hg'
    subst hg'
    rcases hg with hg | hg
    · exact hdis _ (by rw [hg]; exact List.mem_singleton.2 rfl) h
    · have := hzz _ h; omega
  replace ho56 : Own w11 ob 3 1 (some ⟨g56, 0, none⟩) (n + k + 1) cap56 (rowL (n + k + 1) (vN (addP n P))) := by rw [rowL_ext addP_new] at ho56; exact ho56
  have hpa := ho56
  refine wl (r_nc rfl) (wl (r_fa U143 sz43_PFind dE rfl rfl rfl) ?_)
  refine wl_st1 (v := .slice _ _ _) hbp rfl rfl sz43_PFind (by first | decide | simp) rfl rfl (fun w12 hq hs => ?_)
  replace hta := hta.tr1 hs (fun g hg => by have := (hta.lt g hg).1; (try have := or_hta_bp g hg); omega)
  replace hla := hla.tr1 hs (fun g hg => by have := (hla.lt g hg).1; (try have := or_hla_bp g hg); omega)
  replace hrw := fun x hx => (hrw x hx).tr hs (fun g hg => by rw [List.mem_singleton.1 hg]; first | exact .inr ⟨_, _, hbp, by decide⟩ | exact .inl om)
  replace hCS := And.intro (hCS.1.st hs hCS.2 (fun g hg => by have h1 := List.mem_singleton.1 hg; first | (left; rw [h1]; simp; done) | (right; omega))) (nLT hCS.2 (Same.size hs))
  replace hb3 := hb3.tr1 hs om
  replace hbz := nLT hbz (Same.size hs)
  replace hb7 := hb7.tr1 hs om
  replace hrow := hrow.tr hs (fun g hg => by rw [List.mem_singleton.1 hg]; first | exact .inr ⟨_, _, hbp, by decide⟩ | exact .inl om)
  replace hz9 := nLT hz9 (Same.size hs)
  replace ho56 := ho56.tr1 hs (fun g hg => by have := (ho56.lt g hg).1; (try have := or_ho56_bp g hg); (try simp only [aL] at hg); (try simp only [List.mem_singleton] at hg); omega)
  replace hpa := hpa.tr1 hs (fun g hg => by have := (hpa.lt g hg).1; (try have := or_hpa_bp g hg); omega)
  clear hs
  replace hbp := hq
  refine x_nil (e_S (c_seq ?_))
  have zo := fun g hg => (hta.lt g hg).2
  refine c_monoSO 11 [59, 60, 61, 62, 63, 64, 65, 66, 67, 68, 69] (aL TA) 8 (fun ix v wv => match ix with | 0 => v = .pointer (some ⟨bp, 0, none⟩) | 1 => v = .pointer (some ⟨bp, 0, none⟩) | 2 => v = .pointer (some ⟨bp, 0, none⟩) | 3 => v = .pointer (some ⟨bp, 3, none⟩) | 4 => v = .slice TA (n + k) ct | 5 => v = .pointer (some ⟨b7, 0, none⟩) | 6 => v = .int .i64 (gr[k]'hlt).ty | 7 => ∃ b, v = .slice (some ⟨b, 0, none⟩) 1 1 ∧ w12.heap.size ≤ b ∧ Blk wv b 3 #[.int .i64 (gr[k]'hlt).ty] | 8 => ∃ g cap, v = .slice (some ⟨g, 0, none⟩) (n + k + 1) cap ∧ Own wv ob 3 1 (some ⟨g, 0, none⟩) (n + k + 1) cap (rowL (n + k) (vI (addT n T gr)) ++ [.int .i64 (gr[k]'hlt).ty]) ∧ (∀ g2 ∈ aL (some (⟨g56, 0, none⟩ : Addr)), ¬ g2 ∈ aL (some (⟨g, 0, none⟩ : Addr))) | 9 => v = .pointer (some ⟨bp, 0, none⟩) | 10 => v = .pointer (some ⟨bp, 3, none⟩) | _ => True) (fun _ => True) kR kR ?_ (fun _ _ _ _ => trivial) ?_ ?_ dE ?_
  ·
   intro ix v wv wv2 h hs
   match ix, h with
   | 0, h => exact h
   | 1, h => exact h
   | 2, h => exact h
   | 3, h => exact h
   | 4, h => exact h
   | 5, h => exact h
   | 6, h => exact h
   | 7, h =>
    obtain ⟨b66, e66, lo66, hb66⟩ := (show ∃ b, v = .slice (some ⟨b, 0, none⟩) 1 1 ∧ w12.heap.size ≤ b ∧ Blk wv b 3 #[.int .i64 (gr[k]'hlt).ty] from h)
    exact ⟨b66, e66, lo66, hb66.tr0 hs⟩
   | 8, h =>
    obtain ⟨g67, cap67, e67, ho67, hd67⟩ := (show ∃ g cap, v = .slice (some ⟨g, 0, none⟩) (n + k + 1) cap ∧ Own wv ob 3 1 (some ⟨g, 0, none⟩) (n + k + 1) cap (rowL (n + k) (vI (addT n T gr)) ++ [.int .i64 (gr[k]'hlt).ty]) ∧ (∀ g2 ∈ aL (some (⟨g56, 0, none⟩ : Addr)), ¬ g2 ∈ aL (some (⟨g, 0, none⟩ : Addr))) from h)
    exact ⟨g67, cap67, e67, ho67.tr0 hs, hd67⟩
   | 9, h => exact h
   | 10, h => exact h
   | _ + 11, h => exact trivial
  ·
   intro ix o hix hne hoq gg wx hs hd
   match ix, hix, hne, hoq with
   | 0, _, _, hoq =>
    obtain rfl := sI hoq
    have hs0 := hs
    replace hbp := hbp.tr hs (fun hx => by have := (hta.lt _ hx).1; (try have := or_hta_bp _ hx); omega)
    refine os_rv (r_mv (v := .pointer (some _)) rfl) ⟨Same.refl _ _, ?_⟩
    exact rfl
   | 1, _, _, hoq =>
    obtain rfl := sI hoq
    have hs0 := hs
    replace hbp := hbp.tr hs (fun hx => by have := (hta.lt _ hx).1; (try have := or_hta_bp _ hx); omega)
    refine os_rv (r_mv (v := .pointer (some _)) rfl) ⟨Same.refl _ _, ?_⟩
    exact rfl
   | 2, _, _, hoq =>
    obtain rfl := sI hoq
    have hs0 := hs
    replace hbp := hbp.tr hs (fun hx => by have := (hta.lt _ hx).1; (try have := or_hta_bp _ hx); omega)
    have d1 : gg 60 = .pointer (some ⟨bp, 0, none⟩) := hd 1 (dep_of kR)
    have e60 := d1
    refine os_know 60 (.pointer (some ⟨bp, 0, none⟩)) e60 nu ?_
    refine os_rv (r_nc rfl) ⟨Same.refl _ _, ?_⟩
    exact rfl
   | 3, _, _, hoq =>
    obtain rfl := sI hoq
    have hs0 := hs
    replace hbp := hbp.tr hs (fun hx => by have := (hta.lt _ hx).1; (try have := or_hta_bp _ hx); omega)
    have d2 : gg 61 = .pointer (some ⟨bp, 0, none⟩) := hd 2 (dep_of kR)
    have e61 := d2
    refine os_know 61 (.pointer (some ⟨bp, 0, none⟩)) e61 nu ?_
    refine os_rv (r_fa U143 sz43_PFind dE rfl rfl rfl) ⟨Same.refl _ _, ?_⟩
    exact rfl
   | 4, _, _, hoq =>
    obtain rfl := sI hoq
    have hs0 := hs
    replace hbp := hbp.tr hs (fun hx => by have := (hta.lt _ hx).1; (try have := or_hta_bp _ hx); omega)
    have d3 : gg 62 = .pointer (some ⟨bp, 3, none⟩) := hd 3 (dep_of kR)
    have e62 := d3
    refine os_know 62 (.pointer (some ⟨bp, 3, none⟩)) e62 nu ?_
    refine os_rv (r_ld1 (v := .slice _ _ _) U43 rfl rfl (hbp.cell rfl)) ⟨Same.refl _ _, ?_⟩
    exact rfl
   | 5, _, _, hoq =>
    obtain rfl := sI hoq
    have hs0 := hs
    replace hb7 := hb7.tr hs (fun hx => by have := (hta.lt _ hx).1; (try have := or_hta_b7 _ hx); omega)
    refine os_rv (r_fa U33 sz3_GSearch dE rfl rfl rfl) ⟨Same.refl _ _, ?_⟩
    exact rfl
   | 6, _, _, hoq =>
    obtain rfl := sI hoq
    have hs0 := hs
    replace hb7 := hb7.tr hs (fun hx => by have := (hta.lt _ hx).1; (try have := or_hta_b7 _ hx); omega)
    have d5 : gg 64 = .pointer (some ⟨b7, 0, none⟩) := hd 5 (dep_of kR)
    have e64 := d5
    refine os_know 64 (.pointer (some ⟨b7, 0, none⟩)) e64 nu ?_
    refine os_rv (r_ld1 (v := .int _ _) U3 rfl rfl (hb7.cell rfl)) ⟨Same.refl _ _, ?_⟩
    exact rfl
   | 7, _, _, hoq =>
    obtain rfl := sI hoq
    have hs0 := hs
    have d6 : gg 65 = .int .i64 (gr[k]'hlt).ty := hd 6 (dep_of kR)
    have e65 := d6
    refine os_know 65 (.int .i64 (gr[k]'hlt).ty) e65 nu ?_
    refine os_wl (fun ops Q K => ?_)
    refine wl_bs (cs := #[_]) [(0, .int _ _)] rfl U43 sz3_GSearch ze3_SFind dE dE kR rfl (fun b66 w13 hb66 hs hr => ?_)
    exact K _ _ ⟨hs, ⟨_, rfl, nLT hs0.size hr, hb66⟩⟩
   | 8, _, hne, _ => exact absurd rfl hne
   | 9, _, _, hoq =>
    obtain rfl := sI hoq
    have hs0 := hs
    replace hbp := hbp.tr hs (fun hx => by have := (hta.lt _ hx).1; (try have := or_hta_bp _ hx); omega)
    have d0 : gg 59 = .pointer (some ⟨bp, 0, none⟩) := hd 0 (dep_of kR)
    have e59 := d0
    refine os_know 59 (.pointer (some ⟨bp, 0, none⟩)) e59 nu ?_
    refine os_rv (r_nc rfl) ⟨Same.refl _ _, ?_⟩
    exact rfl
   | 10, _, _, hoq =>
    obtain rfl := sI hoq
    have hs0 := hs
    replace hbp := hbp.tr hs (fun hx => by have := (hta.lt _ hx).1; (try have := or_hta_bp _ hx); omega)
    have d9 : gg 68 = .pointer (some ⟨bp, 0, none⟩) := hd 9 (dep_of kR)
    have e68 := d9
    refine os_know 68 (.pointer (some ⟨bp, 0, none⟩)) e68 nu ?_
    refine os_rv (r_fa U143 sz43_PFind dE rfl rfl rfl) ⟨Same.refl _ _, ?_⟩
    exact rfl
   | _ + 11, hix, _, _ => exact absurd hix om
  ·
   intro o hoq gg wx hs hd
   obtain rfl := sI hoq
   have hs0 := hs
   replace hbp := hbp.tr0 hs
   replace hta := hta.tr0 hs
   replace hla := hla.tr0 hs
   replace hrw := fun x hx => (hrw x hx).tr hs (by simp)
   replace hCS := And.intro (hCS.1.st hs hCS.2 (by simp)) (nLT hCS.2 (Same.size hs))
   replace hb3 := hb3.tr0 hs
   replace hbz := nLT hbz (Same.size hs)
   replace hb7 := hb7.tr0 hs
   replace hrow := hrow.tr hs (by simp)
   replace hz9 := nLT hz9 (Same.size hs)
   replace hpa := hpa.tr0 hs
   clear hs
   have d4 : gg 63 = .slice TA (n + k) ct := hd 4 (dep_of kR)
   have e63 := d4
   have d7 : ∃ b, gg 66 = .slice (some ⟨b, 0, none⟩) 1 1 ∧ w12.heap.size ≤ b ∧ Blk wx b 3 #[.int .i64 (gr[k]'hlt).ty] := hd 7 (dep_of kR)
   obtain ⟨b66, e66, lo66, hb66⟩ := d7
   refine os_know 63 (.slice TA (n + k) ct) e63 nu (os_know 66 (.slice (some ⟨b66, 0, none⟩) 1 1) e66 nu ?_)
   refine os_wl (fun ops Q K => ?_)
   refine wl_app U43 in3_SFind rfl dE hta hb66 rfl rfl rfl oneA dE om om hCS.2 (fun g67 cap67 w2 ho67 hs2 hg67 => ?_)
   refine K _ _ ⟨hs2, ⟨_, _, rfl, ho67, fun g2 h2 h3 => by
       simp only [aL, List.mem_singleton] at h3
       subst h3
       rcases hg67 with hg | hg
       · exact hdis _ h2 (by rw [hg]; exact List.mem_singleton.2 rfl)
       · have := (hpa.lt _ h2).2; omega⟩, trivial, fun kx v hne h => ?_⟩
   match kx, hne, h with
   | 0, _, h => exact h
   | 1, _, h => exact h
   | 2, _, h => exact h
   | 3, _, h => exact h
   | 4, _, h => exact h
   | 5, _, h => exact h
   | 6, _, h => exact h
   | 7, _, h =>
    obtain ⟨b66, e66, lo66, hb66⟩ := (show ∃ b, v = .slice (some ⟨b, 0, none⟩) 1 1 ∧ w12.heap.size ≤ b ∧ Blk wx b 3 #[.int .i64 (gr[k]'hlt).ty] from h)
    exact ⟨b66, e66, lo66, hb66.tr hs2 (fun hx => by have := zo _ hx; omega)⟩
   | 8, hne, _ => exact absurd rfl hne
   | 9, _, h => exact h
   | 10, _, h => exact h
   | _ + 11, _, _ => exact trivial
  intro gg w14 hs _ hR
  have hs0 := hs
  replace hbp := hbp.tr hs (fun hx => by have := (hta.lt _ hx).1; (try have := or_hta_bp _ hx); omega)
  replace hla := hla.tr hs (fun g hg hx => by first | exact own_ne hla hta dE g hg hx | exact hdis g hg hx | exact hdis g hx hg | (have h1 := (hta.lt g hx).1; (try have := hzz g hg); omega))
  replace hrw := fun x hx => (hrw x hx).tr hs (fun g hg => by first | exact .inl (by have := ((hta).lt g hg).1; omega) | (obtain ⟨cs, h⟩ := (hta).typ g hg; exact .inr ⟨_, _, h, by decide⟩))
  replace hCS := And.intro (hCS.1.st hs hCS.2 (fun g hg => .inr (by have := ((hta).lt g hg).1; omega))) (nLT hCS.2 (Same.size hs))
  replace hb3 := hb3.tr hs (fun hx => by have := (hta.lt _ hx).1; (try have := or_hta_b3 _ hx); omega)
  replace hbz := nLT hbz (Same.size hs)
  replace hb7 := hb7.tr hs (fun hx => by have := (hta.lt _ hx).1; (try have := or_hta_b7 _ hx); omega)
  replace hrow := hrow.tr hs (fun g hg => by first | exact .inl (by have := ((hta).lt g hg).1; omega) | (obtain ⟨cs, h⟩ := (hta).typ g hg; exact .inr ⟨_, _, h, by decide⟩))
  replace hz9 := nLT hz9 (Same.size hs)
  replace hpa := hpa.tr hs (fun g hg hx => by first | exact own_ne hpa hta dE g hg hx | exact hdis g hg hx | exact hdis g hx hg | (have h1 := (hta.lt g hx).1; (try have := hzz g hg); omega))
  have d8 : ∃ g cap, gg 67 = .slice (some ⟨g, 0, none⟩) (n + k + 1) cap ∧ Own w14 ob 3 1 (some ⟨g, 0, none⟩) (n + k + 1) cap (rowL (n + k) (vI (addT n T gr)) ++ [.int .i64 (gr[k]'hlt).ty]) ∧ (∀ g2 ∈ aL (some (⟨g56, 0, none⟩ : Addr)), ¬ g2 ∈ aL (some (⟨g, 0, none⟩ : Addr))) := hR 8 dE
  obtain ⟨g67, cap67, e67, ho67, hd67⟩ := d8
  have d10 : gg 69 = .pointer (some ⟨bp, 3, none⟩) := hR 10 dE
  have e69 := d10
  replace ho67 : Own w14 ob 3 1 (some ⟨g67, 0, none⟩) (n + k + 1) cap67 (rowL (n + k + 1) (vI (addT n T gr))) := by rw [rowL_ext (addT_new hlt)] at ho67; exact ho67
  have hta := ho67
  replace hdis := hd67
  refine wl_know 67 (.slice (some ⟨g67, 0, none⟩) (n + k + 1) cap67) e67 nu (wl_know 69 (.pointer (some ⟨bp, 3, none⟩)) e69 nu ?_)
  refine wl_st1 (v := .slice _ _ _) hbp rfl rfl sz43_PFind (by first | decide | simp) rfl rfl (fun w15 hq hs => ?_)
  replace hla := hla.tr1 hs (fun g hg => by have := (hla.lt g hg).1; (try have := or_hla_bp g hg); omega)
  replace hrw := fun x hx => (hrw x hx).tr hs (fun g hg => by rw [List.mem_singleton.1 hg]; first | exact .inr ⟨_, _, hbp, by decide⟩ | exact .inl om)
  replace hCS := And.intro (hCS.1.st hs hCS.2 (fun g hg => by have h1 := List.mem_singleton.1 hg; first | (left; rw [h1]; simp; done) | (right; omega))) (nLT hCS.2 (Same.size hs))
  replace hb3 := hb3.tr1 hs om
  replace hbz := nLT hbz (Same.size hs)
  replace hb7 := hb7.tr1 hs om
  replace hrow := hrow.tr hs (fun g hg => by rw [List.mem_singleton.1 hg]; first | exact .inr ⟨_, _, hbp, by decide⟩ | exact .inl om)
  replace hz9 := nLT hz9 (Same.size hs)
  replace hpa := hpa.tr1 hs (fun g hg => by have := (hpa.lt g hg).1; (try have := or_hpa_bp g hg); omega)
  replace hta := hta.tr1 hs (fun g hg => by have := (hta.lt g hg).1; (try have := or_hta_bp g hg); omega)
  clear hs
  replace hbp := hq
  refine x_nil (e_S (c_region (wl (r_mv (v := .pointer (some _)) rfl) (wl (r_mv (v := .pointer (some _)) rfl) (wl (r_nc rfl) ?_)))))
  refine wl (r_fa U143 sz141 dE rfl rfl rfl) (wl (r_ld1 (v := .slice _ _ _) U141 rfl rfl (hbp.cell rfl)) (wmS rfl ?_))
  refine wl_bs (cs := #[_]) [(0, .slice _ _ _)] rfl U141 sz31_GTgt ze31 dE dE kR rfl (fun b76 w16 hb76 hs hr => ?_)
  have or_bp_b76 : bp < b76 := nLL hbp.lt hr
  have or_hla_b76 := (fun (g : Nat) hg => nLL (hla.lt g hg).2 hr)
  have or_hCS_b76 := (nLT hCS.2 hr)
  have or_b3_b76 : b3 < b76 := nLL hb3.lt hr
  have or_hbz_b76 := (nLT hbz hr)
  have or_b7_b76 : b7 < b76 := nLL hb7.lt hr
  have or_hz9_b76 := (nLT hz9 hr)
  have or_hpa_b76 := (fun (g : Nat) hg => nLL (hpa.lt g hg).2 hr)
  have or_hta_b76 := (fun (g : Nat) hg => nLL (hta.lt g hg).2 hr)
  replace hbp := hbp.tr0 hs
  replace hla := hla.tr0 hs
  replace hrw := fun x hx => (hrw x hx).tr hs (by simp)
  replace hCS := And.intro (hCS.1.st hs hCS.2 (by simp)) (nLT hCS.2 (Same.size hs))
  replace hb3 := hb3.tr0 hs
  replace hbz := nLT hbz (Same.size hs)
  replace hb7 := hb7.tr0 hs
  replace hrow := hrow.tr hs (by simp)
  replace hz9 := nLT hz9 (Same.size hs)
  replace hpa := hpa.tr0 hs
  replace hta := hta.tr0 hs
  clear hs
  refine wl_app U141 in31 rfl dE hla hb76 rfl rfl rfl oneA dE om om hCS.2 (fun g77 cap77 w17 ho77 hs hg => ?_)
  have ne_ho77_bp : g77 ≠ bp := fun e => by
   have hl := hbp.lt
   rcases hg with hg | hg
   · have h1 := hla.lt g77 (by rw [hg]; exact List.mem_singleton.2 rfl)
     (try have := or_hla_bp g77 (by rw [hg]; exact List.mem_singleton.2 rfl)); omega
   · omega
  have ne_ho77_b3 : g77 ≠ b3 := fun e => by
   have hl := hb3.lt
   rcases hg with hg | hg
   · have h1 := hla.lt g77 (by rw [hg]; exact List.mem_singleton.2 rfl)
     (try have := or_hla_b3 g77 (by rw [hg]; exact List.mem_singleton.2 rfl)); omega
   · omega
  have ne_ho77_b7 : g77 ≠ b7 := fun e => by
   have hl := hb7.lt
   rcases hg with hg | hg
   · have h1 := hla.lt g77 (by rw [hg]; exact List.mem_singleton.2 rfl)
     (try have := or_hla_b7 g77 (by rw [hg]; exact List.mem_singleton.2 rfl)); omega
   · omega
  replace hbp := hbp.tr hs (fun hx => by have := (hla.lt _ hx).1; (try have := or_hla_bp _ hx); omega)
  replace hrw := fun x hx => (hrw x hx).tr hs (fun g hg => by first | exact .inl (by have := ((hla).lt g hg).1; omega) | (obtain ⟨cs, h⟩ := (hla).typ g hg; exact .inr ⟨_, _, h, by decide⟩))
  replace hCS := And.intro (hCS.1.st hs hCS.2 (fun g hg => .inr (by have := ((hla).lt g hg).1; omega))) (nLT hCS.2 (Same.size hs))
  replace hb3 := hb3.tr hs (fun hx => by have := (hla.lt _ hx).1; (try have := or_hla_b3 _ hx); omega)
  replace hbz := nLT hbz (Same.size hs)
  replace hb7 := hb7.tr hs (fun hx => by have := (hla.lt _ hx).1; (try have := or_hla_b7 _ hx); omega)
  replace hrow := hrow.tr hs (fun g hg => by first | exact .inl (by have := ((hla).lt g hg).1; omega) | (obtain ⟨cs, h⟩ := (hla).typ g hg; exact .inr ⟨_, _, h, by decide⟩))
  replace hz9 := nLT hz9 (Same.size hs)
  replace hpa := hpa.tr hs (fun g hg hx => by first | exact own_ne hpa hla dE g hg hx | exact hdis g hg hx | exact hdis g hx hg | (have h1 := (hla.lt g hx).1; (try have := hzz g hg); omega))
  replace hta := hta.tr hs (fun g hg hx => by first | exact own_ne hta hla dE g hg hx | exact hdis g hg hx | exact hdis g hx hg | (have h1 := (hla.lt g hx).1; (try have := hzz g hg); omega))
  refine wl (r_nc rfl) (wl (r_fa U143 sz141 dE rfl rfl rfl) ?_)
  refine wl_st1 (v := .slice _ _ _) hbp rfl rfl sz141 (by first | decide | simp) rfl rfl (fun w18 hq hs => ?_)
  replace hrw := fun x hx => (hrw x hx).tr hs (fun g hg => by rw [List.mem_singleton.1 hg]; first | exact .inr ⟨_, _, hbp, by decide⟩ | exact .inl om)
  replace hCS := And.intro (hCS.1.st hs hCS.2 (fun g hg => by have h1 := List.mem_singleton.1 hg; first | (left; rw [h1]; simp; done) | (right; omega))) (nLT hCS.2 (Same.size hs))
  replace hb3 := hb3.tr1 hs om
  replace hbz := nLT hbz (Same.size hs)
  replace hb7 := hb7.tr1 hs om
  replace hrow := hrow.tr hs (fun g hg => by rw [List.mem_singleton.1 hg]; first | exact .inr ⟨_, _, hbp, by decide⟩ | exact .inl om)
  replace hz9 := nLT hz9 (Same.size hs)
  replace hpa := hpa.tr1 hs (fun g hg => by have := (hpa.lt g hg).1; (try have := or_hpa_bp g hg); omega)
  replace hta := hta.tr1 hs (fun g hg => by have := (hta.lt g hg).1; (try have := or_hta_bp g hg); omega)
  replace ho77 := ho77.tr1 hs (fun g hg => by have := (ho77.lt g hg).1; (try have := or_ho77_bp g hg); (try simp only [aL] at hg); (try simp only [List.mem_singleton] at hg); omega)
  clear hs
  replace hbp := hq
  refine x_nil (e_B (e_S (c_region (wl (r_add rfl rfl rfl om) (wmI rfl ?_)))))
  refine x_nil (e_LS (gr.length - (k + 1)) om agA ?_)
  refine ⟨k + 1, some ⟨g56, 0, none⟩, some ⟨g67, 0, none⟩, some ⟨g77, 0, none⟩, cap56, cap67, cap77, putV V (n + k) (.slice (some ⟨b27, 0, none⟩) (gr[k]'hlt).ln.length (gr[k]'hlt).ln.length), by omega, rfl, rfl, hb3, hbp, hpa, hta, ?_, fun x hx => ?_, hdis, hCS⟩
  · rw [rowL_put] at ho77; exact ho77
  · by_cases e : x = n + k
    · subst e
      simp only [putV, if_true]
      have e2 : addL n L gr (n + k) = shL n (gr[k]'hlt).ln := by simp only [addL, if_neg (show ¬ n + k < n by omega), show n + k - n = k by omega, nd_eq hlt]
      rw [e2]
      exact hrow.up hz9
    · simp only [putV, if_neg e]
      exact (hrw x om).up hbz
 have hke : k = gr.length := by omega
 refine c_exit (e_Sx (e_LSx (e_Bx (e_S (c_seq ?_)))))
 refine c_region (wmI rfl (waI rfl (x_nil (e_S (c_ret ?_)))))
 refine fin1 (.inl rfl) rfl rfl ?_
 refine ⟨⟨PA, TA, LA, cp, ct, cl, V, rfl, ?_⟩, hCS.1, hCS.2⟩
 rw [hke] at hbp hpa hta hla hrw
 exact ⟨hbp, hpa, hta, hla, fun x hx => (hrw x hx).up hbz, hdis⟩
end Go.Proofs.YtegngekpmpdngaaDoor
