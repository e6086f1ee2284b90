/- What these functions of the program compute, at every world: (*glosswright/unify.pool).graph. -/
import Derived.Test.YtegngekpmpdngaaDoorU
import Derived.Test.YtegngekpmpdngaaDoorPJoin
namespace Go.Proofs.YtegngekpmpdngaaDoor
open Go.RowKit
theorem pool_gok2 {l : List Ty} {U : List Nd} {J : List (Nat × Nat)} {P rep ρ : Nat → Nat} {T : Nat → Int} {L : Nat → List (Int × Int)} {nf : Nat} (h : US l U J P rep ρ T L []) (hp : 0 < U.length) (hn : U.length ≤ 1000000) (hUf : ∀ i, i < U.length → ∀ z ∈ (nd U i).ln, 0 ≤ z.1 ∧ z.1 < nf) : GOk2 nf (poolG U.length rep T L) := by
  have hL : ∀ i, i < U.length → rep i = i → ∀ z ∈ L i, 0 ≤ z.1 ∧ z.1 < nf := fun i hi hr z hz => by
    obtain ⟨u, hu, _, hm⟩ := h.val i hi hr z hz
    exact hUf u hu z hm
  refine ⟨by rw [poolG_len]; exact hp, by rw [poolG_len]; exact hn, fun i hi x hx => ?_, fun i hi => ?_⟩
  · rw [← nd_eq hi] at hx
    rw [poolG_len] at hi ⊢
    rw [poolG_nd hi] at hx
    dsimp only at hx
    split at hx
    · rename_i hri
      obtain ⟨y, hy, rfl⟩ := List.mem_map.1 hx
      obtain ⟨u, hu, _, hm⟩ := h.val i hi hri y hy
      have h1 := hL i hi hri y hy
      have h2 := h.ur u hu y hm
      have h3 := h.uf.rl _ h2.2
      simp only; omega
    · cases hx
  · rw [← nd_eq hi]
    rw [poolG_len] at hi
    rw [poolG_nd hi]
    dsimp only
    split
    · rename_i hri
      rw [List.length_map]
      have := srt_len (nf := nf) (lo := 0) (h.srt i hi) (hL i hi hri) (Int.le_refl _) om
      omega
    · exact Nat.zero_le _
theorem fromn_any (G : Option Addr) (cg nf : Nat) (gr : List Nd) (r n : Nat) (w : World) (hG : NodesIn w G gr) (hn : gr.length = n) (hk : GOk2 nf gr) (hnf : nf ≤ 1000) (hr : r < gr.length) : Calls Tryd.prog 49 #[.agg #[.slice G n cg], .int .i64 r] w fun e w' => (∃ o A, DL gr [r] [] o ∧ OOk gr.length o ∧ e = .returned (.agg #[.slice A o.length o.length]) ∧ (∀ w2, FrSame w.heap.size w' w2 → NodesIn w2 A (canG gr o))) ∧ Bel w w' := by
  subst hn; exact from2_any G cg nf gr r w hG hk hnf hr
theorem fn49 : callable Tryd.prog 49 = true := by kernel_rfl
theorem in33_PGraph : (Tryd.prog.info? 33).map (fun i => (i.zero, i.size, i.bytes)) = some (some (.agg #[.int .i64 0, .slice none 0 0]), 2, 32) := by kernel_rfl
set_option maxRecDepth 100000 in
set_option maxHeartbeats 4000000 in
theorem pgraph_any {ob bp n nf r : Nat} {c0 c1 : Value} {PA TA LA : Option Addr} {cp ct cl : Nat} {P rep ρ : Nat → Nat} {T : Nat → Int} {V : Nat → Value} {L : Nat → List (Int × Int)} (w : World) (hp : PoolAt w ob bp c0 c1 n PA TA LA cp ct cl P T V L) (hu : UF n P rep ρ) (hbo : bp < ob) (hob : ob ≤ w.heap.size) (hn : n ≤ 1000000) (hnf : nf ≤ 1000) (hG2 : GOk2 nf (poolG n rep T L)) (hrt : r < n) (hLr : ∀ i, i < n → rep i = i → ∀ z ∈ L i, 0 ≤ z.2 ∧ z.2.toNat < n) (hLl : ∀ i, i < n → rep i = i → (L i).length ≤ nf) : Calls Tryd.prog 96 #[.pointer (some ⟨bp, 0, none⟩), .int .i64 (r : Nat)] w fun e w' => (∃ o A, DL (poolG n rep T L) [rep r] [] o ∧ e = .returned (.agg #[.slice A o.length o.length]) ∧ ∀ w2, FrSame w.heap.size w' w2 → NodesIn w2 A (canG (poolG n rep T L) o)) ∧ Chg ob [bp] w w' ∧ ob ≤ w'.heap.size := by
 have hlob : w.heap.size ≤ w.heap.size := Nat.le_refl _
 obtain ⟨hbp, hpa, hta, hla, hrw, hdis⟩ := hp
 obtain ⟨qp, rfl, hqp, hqpl, _⟩ := hpa.rowc hrt
 obtain ⟨qt, rfl, hqt, hqtl, _⟩ := hta.rowc hrt
 obtain ⟨ql, rfl, hql, hqll, _⟩ := hla.rowc hrt
 obtain ⟨zb, hzbe⟩ : ∃ b, b = w.heap.size := ⟨_, rfl⟩
 rw [← hzbe] at hrw
 have hzb : zb ≤ w.heap.size := Nat.le_of_eq hzbe
 have hbpl := hbp.lt
 rw [← hzbe] at hqpl hqtl hqll hbpl
 have hCS : Chg ob [bp] w w ∧ ob ≤ w.heap.size := ⟨Chg.refl _ _ _, hob⟩
 rw [← hzbe]
 refine enter Tryd.func96 Tryd.ntmps96 rfl (Nat.le_of_ble_eq_true rfl) (c_seq (c_region ?_))
 refine wl_al (cs := #[.slice none 0 0]) ze28_GTgt rfl (fun b4 w1 hb4 hs hr => ?_)
 have or_bp_b4 : bp < b4 := nLL hbp.lt hr
 have or_hpa_b4 := (fun (g : Nat) hg => nLL (hpa.lt g hg).2 hr)
 have or_hta_b4 := (fun (g : Nat) hg => nLL (hta.lt g hg).2 hr)
 have or_hla_b4 := (fun (g : Nat) hg => nLL (hla.lt g hg).2 hr)
 have or_hCS_b4 := (nLT hCS.2 hr)
 have or_hzb_b4 := (nLT hzb hr)
 replace hbp := hbp.tr0 hs
 replace hpa := hpa.tr0 hs
 replace hta := hta.tr0 hs
 replace hla := hla.tr0 hs
 replace hrw := fun x hx => (hrw x hx).tr hs (by simp)
 replace hCS := And.intro (hCS.1.st hs hCS.2 (by simp)) (nLT hCS.2 (Same.size hs))
 replace hzb := nLT hzb (Same.size hs)
 clear hs
 refine x_nil (e_S (c_seq (c_region ?_)))
 refine wl_al (cs := #[.slice none 0 0]) ze28_GTgt rfl (fun b5 w2 hb5 hs hr => ?_)
 have or_bp_b5 : bp < b5 := nLL hbp.lt hr
 have or_hpa_b5 := (fun (g : Nat) hg => nLL (hpa.lt g hg).2 hr)
 have or_hta_b5 := (fun (g : Nat) hg => nLL (hta.lt g hg).2 hr)
 have or_hla_b5 := (fun (g : Nat) hg => nLL (hla.lt g hg).2 hr)
 have or_hCS_b5 := (nLT hCS.2 hr)
 have or_hzb_b5 := (nLT hzb hr)
 have or_b4_b5 : b4 < b5 := nLL hb4.lt hr
 replace hbp := hbp.tr0 hs
 replace hpa := hpa.tr0 hs
 replace hta := hta.tr0 hs
 replace hla := hla.tr0 hs
 replace hrw := fun x hx => (hrw x hx).tr hs (by simp)
 replace hCS := And.intro (hCS.1.st hs hCS.2 (by simp)) (nLT hCS.2 (Same.size hs))
 replace hzb := nLT hzb (Same.size hs)
 replace hb4 := hb4.tr0 hs
 clear hs
 refine x_nil (e_S (c_seq (c_seq ?_)))
 have hlo45 := or_hzb_b4
 have hlo5b := or_hzb_b5
 have hloN : zb ≤ b5 + 1 := Nat.le_succ_of_le or_hzb_b5
 refine c_region (wl (r_mv (v := .pointer (some _)) rfl) (wl (r_nc rfl) (wl (r_fa U143 sz43_PFind dE rfl rfl rfl) (wl (r_ld1 (v := .slice _ _ _) U43 rfl rfl (hbp.cell rfl)) (wl (r_len U43 rfl) ?_)))))
 refine wmI rfl (x_nil (e_S (c_block ?_)))
 refine c_loopS [6, 7, 9, 15, 16, 17, 18, 19, 20, 21, 22, 23, 24, 25, 26, 27, 28, 29, 30, 31, 32, 33, 34, 35, 36, 37, 38, 39, 40, 41, 42, 43, 44, 45, 46, 47, 48, 49, 50, 51, 52, 53, 54, 55, 56, 57, 58, 59, 60, 61, 62] (fun m g w' => ∃ (k : Nat) (AN : Option Addr) (capN : Nat) (Vn : Nat → Value) (P : Nat → Nat), k ≤ n ∧ m = n - k ∧ g 15 = .int .i64 k ∧ Blk w' b4 28 #[.slice none 0 0] ∧ Blk w' b5 28 #[.slice AN k capN] ∧ Blk w' bp 143 #[c0, c1, .slice (some ⟨qp, 0, none⟩) n cp, .slice (some ⟨qt, 0, none⟩) n ct, .slice (some ⟨ql, 0, none⟩) n cl] ∧ Own w' ob 3 1 (some ⟨qp, 0, none⟩) n cp (rowL n (vN P)) ∧ Own w' ob 3 1 (some ⟨qt, 0, none⟩) n ct (rowL n (vI T)) ∧ Own w' ob 31 1 (some ⟨ql, 0, none⟩) n cl (rowL n V) ∧ (∀ x, x < n → RowO w' ob zb (V x) (L x)) ∧ UF n P rep ρ ∧ (Chg ob [bp] w w' ∧ ob ≤ w'.heap.size) ∧ zb ≤ w'.heap.size ∧ Own w' (b5 + 1) 33 2 AN k capN (ndV (vI T) Vn k) ∧ (∀ x, x < k → RowO w' zb w'.heap.size (Vn x) (nd (poolG n rep T L) x).ln)) (n) ?_ (fun m g3 w3 hI => ?_)
 ·
  exact ⟨0, none, 0, fun _ => .slice none 0 0, P, Nat.zero_le _, rfl, rfl, hb4, hb5, hbp, hpa, hta, hla, hrw, hu, hCS, hzb, Own.nil _ _ _ _, fun x hx => by omega⟩
 obtain ⟨k, AN, capN, Vn, P, hkk, hm, h15, hb4, hb5, hbp, hpa, hta, hla, hrw, hu, hCS, hzb, hoN, hvn⟩ := hI
 obtain ⟨bs, hbse⟩ : ∃ b, b = w3.heap.size := ⟨_, rfl⟩
 rw [← hbse] at hvn
 have hbz : bs ≤ w3.heap.size := Nat.le_of_eq hbse
 have lu5 := hb5.lt
 have lu4 := hb4.lt
 have luN := fun g hg => (hoN.lt g hg).2
 have hzbs := hzb
 rw [← hbse] at lu5 lu4 luN hzbs
 refine c_know 15 (.int .i64 k) h15 nu (c_seq (c_region (wl (r_lss rfl rfl) (x_nil (e_S ?_)))))
 refine c_seq ?_
 refine c_ifd rfl (fun c16 => ?_) (fun c16 => ?_)
 ·
  have hlt : k < n := by omega
  refine c_skip (e_S (c_seq (c_block (c_seq (c_region ?_)))))
  refine wmI rfl (waI rfl (x_nil (e_S (c_seq (c_region ?_)))))
  refine wl (r_mv (v := .pointer (some _)) rfl) (wl (r_nc rfl) (wl (r_fa U143 sz43_PFind dE rfl rfl rfl) (wl (r_ld1 (v := .slice _ _ _) U43 rfl rfl (hbp.cell rfl)) (wmI rfl (wl (r_ia (i := k) U43 sz3_GSearch rfl rfl hlt rfl) ?_)))))
  refine wl (r_ld1 (v := .int _ _) U3 rfl rfl (hta.rowq hlt)) (wl (r_bd1 (v0 := .int _ _) (fun v0 => #[v0, .slice none 0 0]) rfl kR) ?_)
  refine wl_al (cs := #[.int .i64 0, .slice none 0 0]) ze33_GTgt rfl (fun b7 w4 hb7 hs hr => ?_)
  have or_bp_b7 : bp < b7 := nLL hbp.lt hr
  have or_hpa_b7 := (fun (g : Nat) hg => nLL (hpa.lt g hg).2 hr)
  have or_hta_b7 := (fun (g : Nat) hg => nLL (hta.lt g hg).2 hr)
  have or_hla_b7 := (fun (g : Nat) hg => nLL (hla.lt g hg).2 hr)
  have or_hCS_b7 := (nLT hCS.2 hr)
  have or_hzb_b7 := (nLT hzb hr)
  have or_b4_b7 : b4 < b7 := nLL hb4.lt hr
  have or_b5_b7 : b5 < b7 := nLL hb5.lt hr
  have or_hoN_b7 := (fun (g : Nat) hg => nLL (hoN.lt g hg).2 hr)
  have or_hbz_b7 := (nLT hbz hr)
  replace hbp := hbp.tr0 hs
  replace hpa := hpa.tr0 hs
  replace hta := hta.tr0 hs
  replace hla := hla.tr0 hs
  replace hrw := fun x hx => (hrw x hx).tr hs (by simp)
  replace hCS := And.intro (hCS.1.st hs hCS.2 (by simp)) (nLT hCS.2 (Same.size hs))
  replace hzb := nLT hzb (Same.size hs)
  replace hb4 := hb4.tr0 hs
  replace hb5 := hb5.tr0 hs
  replace hoN := hoN.tr0 hs
  replace hvn := fun x hx => (hvn x hx).tr hs (by simp)
  replace hbz := nLT hbz (Same.size hs)
  clear hs
  refine wl_stW hb7 rfl rfl sz33_GTgt rfl oneA (fun w5 hq hs => ?_)
  replace hbp := hbp.tr1 hs om
  replace hpa := hpa.tr1 hs (fun g hg => by have := (hpa.lt g hg).1; (try have := or_hpa_b7 g hg); omega)
  replace hta := hta.tr1 hs (fun g hg => by have := (hta.lt g hg).1; (try have := or_hta_b7 g hg); omega)
  replace hla := hla.tr1 hs (fun g hg => by have := (hla.lt g hg).1; (try have := or_hla_b7 g hg); omega)
  replace hrw := fun x hx => (hrw x hx).tr hs (fun g hg => by rw [List.mem_singleton.1 hg]; first | exact .inr ⟨_, _, hb7, by decide⟩ | exact .inl om)
  replace hCS := And.intro (hCS.1.st hs hCS.2 (fun g hg => by have h1 := List.mem_singleton.1 hg; first | (left; rw [h1]; simp; done) | (right; omega))) (nLT hCS.2 (Same.size hs))
  replace hzb := nLT hzb (Same.size hs)
  replace hb4 := hb4.tr1 hs om
  replace hb5 := hb5.tr1 hs om
  replace hoN := hoN.tr1 hs (fun g hg => by have := (hoN.lt g hg).1; (try have := or_hoN_b7 g hg); omega)
  replace hvn := fun x hx => (hvn x hx).tr hs (fun g hg => by rw [List.mem_singleton.1 hg]; first | exact .inr ⟨_, _, hb7, by decide⟩ | exact .inl om)
  replace hbz := nLT hbz (Same.size hs)
  clear hs
  replace hb7 := hq
  refine x_nil (e_S (c_seq (c_seq ?_)))
  have hlo5 : zb ≤ b7 + 1 := Nat.le_succ_of_le or_hzb_b7
  have hbsb7 : bs ≤ b7 := or_hbz_b7
  refine c_region (wl (r_mv (v := .pointer (some _)) rfl) (wmI rfl ?_))
  refine wl_cl fn108 (pfind_any _ hbp hpa hbo hu hlt) rfl (fun e' w6 hr => ?_)
  obtain ⟨P1, rfl, hpa1, hu1, hs⟩ := hr
  replace hbp := hbp.tr hs (fun hx => by have := (hpa.lt _ hx).1; (try have := or_hpa_bp _ hx); omega)
  replace hta := hta.tr hs (fun g hg hx => by first | exact own_ne hta hpa dE g hg hx | exact hdis g hg hx | exact hdis g hx hg | (have h1 := (hpa.lt g hx).1; (try have := hzz g hg); omega))
  replace hla := hla.tr hs (fun g hg hx => by first | exact own_ne hla hpa dE g hg hx | exact hdis g hg hx | exact hdis g hx hg | (have h1 := (hpa.lt g hx).1; (try have := hzz g hg); omega))
  replace hrw := fun x hx => (hrw x hx).tr hs (fun g hg => by first | exact .inl (by have := ((hpa).lt g hg).1; omega) | (obtain ⟨cs, h⟩ := (hpa).typ g hg; exact .inr ⟨_, _, h, by decide⟩))
  replace hCS := And.intro (hCS.1.st hs hCS.2 (fun g hg => .inr (by have := ((hpa).lt g hg).1; omega))) (nLT hCS.2 (Same.size hs))
  replace hzb := nLT hzb (Same.size hs)
  replace hb4 := hb4.tr hs (fun hx => by have := (hpa.lt _ hx).1; (try have := or_hpa_b4 _ hx); omega)
  replace hb5 := hb5.tr hs (fun hx => by have := (hpa.lt _ hx).1; (try have := or_hpa_b5 _ hx); omega)
  replace hoN := hoN.tr hs (fun g hg hx => own_ne hoN hpa dE g hg hx)
  replace hvn := fun x hx => (hvn x hx).tr hs (fun g hg => by first | exact .inl (by have := ((hpa).lt g hg).1; omega) | (obtain ⟨cs, h⟩ := (hpa).typ g hg; exact .inr ⟨_, _, h, by decide⟩))
  replace hbz := nLT hbz (Same.size hs)
  replace hb7 := hb7.tr hs (fun hx => by have := (hpa.lt _ hx).1; (try have := or_hpa_b7 _ hx); omega)
  have hpa := hpa1
  refine ⟨_, rfl, ?_⟩
  refine wmI rfl (wl (r_eql rfl rfl) (x_nil (e_S ?_)))
  refine c_ifd rfl (fun c30 => ?_) (fun c30 => ?_)
  ·
   have hrk : rep k = k := by omega
   have hGk : (nd (poolG n rep T L) k).ln = ((L k).map (fun x => (x.1, ((rep x.2.toNat : Nat) : Int)))) := by rw [poolG_nd hlt, if_pos hrk]
   obtain ⟨Ax, cx, hVk, hAo, hAb⟩ := hrw k hlt
   have hLm := hAo.max
   have hLk := hLl k hlt hrk
   refine c_seq (c_region (wl (r_mv (v := .pointer (some _)) rfl) (wl (r_nc rfl) (wl (r_fa U143 sz141 dE rfl rfl rfl) (wl (r_ld1 (v := .slice _ _ _) U141 rfl rfl (hbp.cell rfl)) ?_)))))
   refine wmI rfl (wl (r_ia (i := k) U141 sz31_GTgt rfl rfl hlt rfl) (wl (r_ld1 (v := .slice Ax (L k).length cx) U31 rfl rfl (by have h := hla.rowq hlt; rw [hVk] at h; exact h)) (wl (r_len U31 rfl) (wmI rfl (x_nil ?_)))))
   refine e_S (c_block ?_)
   refine c_loopS [9, 39, 40, 41, 42, 43, 44, 45, 46, 47, 48, 49, 50, 51, 52, 53, 54, 55] (fun m g w' => ∃ (j : Nat) (A5 : Option Addr) (cap5 : Nat) (P1 : Nat → Nat), j ≤ (L k).length ∧ m = (L k).length - j ∧ g 39 = .int .i64 j ∧ Blk w' b4 28 #[.slice none 0 0] ∧ Blk w' b5 28 #[.slice AN k capN] ∧ Blk w' bp 143 #[c0, c1, .slice (some ⟨qp, 0, none⟩) n cp, .slice (some ⟨qt, 0, none⟩) n ct, .slice (some ⟨ql, 0, none⟩) n cl] ∧ Own w' ob 3 1 (some ⟨qp, 0, none⟩) n cp (rowL n (vN P1)) ∧ Own w' ob 3 1 (some ⟨qt, 0, none⟩) n ct (rowL n (vI T)) ∧ Own w' ob 31 1 (some ⟨ql, 0, none⟩) n cl (rowL n V) ∧ (∀ x, x < n → RowO w' ob zb (V x) (L x)) ∧ UF n P1 rep ρ ∧ (Chg ob [bp] w w' ∧ ob ≤ w'.heap.size) ∧ zb ≤ w'.heap.size ∧ Own w' (b5 + 1) 33 2 AN k capN (ndV (vI T) Vn k) ∧ (∀ x, x < k → RowO w' zb bs (Vn x) (nd (poolG n rep T L) x).ln) ∧ bs ≤ w'.heap.size ∧ Blk w' b7 33 #[.int .i64 (T k), .slice A5 j cap5] ∧ Own w' (b7 + 1) 30 2 A5 j cap5 (lnV (((L k).take j).map (fun x => (x.1, ((rep x.2.toNat : Nat) : Int)))))) ((L k).length) ?_ (fun m g8 w7 hI => ?_)
   ·
    exact ⟨0, none, 0, P1, Nat.zero_le _, rfl, rfl, hb4, hb5, hbp, hpa, hta, hla, hrw, hu1, hCS, hzb, hoN, hvn, hbz, hb7, Own.nil _ _ _ _⟩
   obtain ⟨j, A5, cap5, P1, hj, hmj, h39, hb4, hb5, hbp, hpa, hta, hla, hrw, hu1, hCS, hzb, hoN, hvn, hbz, hb7, ho5⟩ := hI
   refine c_know 39 (.int .i64 j) h39 nu (c_seq (c_region (wl (r_lss rfl rfl) (x_nil (e_S ?_)))))
   refine c_seq ?_
   refine c_ifd rfl (fun c40 => ?_) (fun c40 => ?_)
   ·
    have hjl : j < (L k).length := by omega
    have hVk2 := hVk
    have hlk := (hrw k hlt)
    rw [hVk] at hlk
    obtain ⟨_, hln⟩ := hlk.links
    obtain ⟨lb, lof, hAx, hlb, hlr⟩ := hln.at_ (Below.refl _ _ : Bel w7 w7) hjl
    subst hAx
    have hxr := hLr k hlt hrk _ (List.getElem_mem hjl)
    obtain ⟨t, ht⟩ : ∃ t : Nat, ((L k)[j]'hjl).2 = (t : Int) := ⟨(((L k)[j]'hjl).2).toNat, by omega⟩
    have htl : t < n := by omega
    refine c_skip (e_S (c_seq (c_block (c_seq (c_region ?_)))))
    refine wl (r_ia (i := j) U31 sz30_GSearch rfl rfl om rfl) (wl (r_ldS U30 rfl rfl hlr sz30_GSearch) ?_)
    refine wl_al (cs := #[.int .i64 0, .int .i64 0]) ze30_GTgt rfl (fun b9 w8 hb9 hs hr => ?_)
    have or_bp_b9 : bp < b9 := nLL hbp.lt hr
    have or_hta_b9 := (fun (g : Nat) hg => nLL (hta.lt g hg).2 hr)
    have or_hla_b9 := (fun (g : Nat) hg => nLL (hla.lt g hg).2 hr)
    have or_hCS_b9 := (nLT hCS.2 hr)
    have or_hzb_b9 := (nLT hzb hr)
    have or_b4_b9 : b4 < b9 := nLL hb4.lt hr
    have or_b5_b9 : b5 < b9 := nLL hb5.lt hr
    have or_hoN_b9 := (fun (g : Nat) hg => nLL (hoN.lt g hg).2 hr)
    have or_hbz_b9 := (nLT hbz hr)
    have or_b7_b9 : b7 < b9 := nLL hb7.lt hr
    have or_hpa_b9 := (fun (g : Nat) hg => nLL (hpa.lt g hg).2 hr)
    have or_ho5_b9 := (fun (g : Nat) hg => nLL (ho5.lt g hg).2 hr)
    replace hbp := hbp.tr0 hs
    replace hta := hta.tr0 hs
    replace hla := hla.tr0 hs
    replace hrw := fun x hx => (hrw x hx).tr hs (by simp)
    replace hCS := And.intro (hCS.1.st hs hCS.2 (by simp)) (nLT hCS.2 (Same.size hs))
    replace hzb := nLT hzb (Same.size hs)
    replace hb4 := hb4.tr0 hs
    replace hb5 := hb5.tr0 hs
    replace hoN := hoN.tr0 hs
    replace hvn := fun x hx => (hvn x hx).tr hs (by simp)
    replace hbz := nLT hbz (Same.size hs)
    replace hb7 := hb7.tr0 hs
    replace hpa := hpa.tr0 hs
    replace ho5 := ho5.tr0 hs
    clear hs
    refine wl_stW hb9 rfl rfl sz30_GSearch rfl oneA (fun w9 hq hs => ?_)
    replace hbp := hbp.tr1 hs om
    replace hta := hta.tr1 hs (fun g hg => by have := (hta.lt g hg).1; (try have := or_hta_b9 g hg); omega)
    replace hla := hla.tr1 hs (fun g hg => by have := (hla.lt g hg).1; (try have := or_hla_b9 g hg); omega)
    replace hrw := fun x hx => (hrw x hx).tr hs (fun g hg => by rw [List.mem_singleton.1 hg]; first | exact .inr ⟨_, _, hb9, by decide⟩ | exact .inl om)
    replace hCS := And.intro (hCS.1.st hs hCS.2 (fun g hg => by have h1 := List.mem_singleton.1 hg; first | (left; rw [h1]; simp; done) | (right; omega))) (nLT hCS.2 (Same.size hs))
    replace hzb := nLT hzb (Same.size hs)
    replace hb4 := hb4.tr1 hs om
    replace hb5 := hb5.tr1 hs om
    replace hoN := hoN.tr1 hs (fun g hg => by have := (hoN.lt g hg).1; (try have := or_hoN_b9 g hg); omega)
    replace hvn := fun x hx => (hvn x hx).tr hs (fun g hg => by rw [List.mem_singleton.1 hg]; first | exact .inr ⟨_, _, hb9, by decide⟩ | exact .inl om)
    replace hbz := nLT hbz (Same.size hs)
    replace hb7 := hb7.tr1 hs om
    replace hpa := hpa.tr1 hs (fun g hg => by have := (hpa.lt g hg).1; (try have := or_hpa_b9 g hg); omega)
    replace ho5 := ho5.tr1 hs (fun g hg => by have := (ho5.lt g hg).1; (try have := or_ho5_b9 g hg); omega)
    clear hs
    replace hb9 := hq
    refine x_nil (e_S ?_)
    rw [ht] at hb9
    have zo := fun g hg => (hpa.lt g hg).2
    refine c_monoSO 10 [43, 44, 45, 46, 47, 48, 49, 50, 51, 52] (aL (some (⟨qp, 0, none⟩ : Addr))) 7 (fun ix v wv => match ix with | 0 => v = .pointer (some ⟨b7, 1, none⟩) | 1 => v = .slice A5 j cap5 | 2 => v = .pointer (some ⟨b9, 0, none⟩) | 3 => v = .int .i64 ((L k)[j]'hjl).1 | 4 => v = .pointer (some ⟨bp, 0, none⟩) | 5 => v = .pointer (some ⟨b9, 1, none⟩) | 6 => v = .int .i64 (t : Nat) | 7 => ∃ Q : Nat → Nat, v = .int .i64 ((rep t : Nat) : Int) ∧ Own wv ob 3 1 (some ⟨qp, 0, none⟩) n cp (rowL n (vN Q)) ∧ UF n Q rep ρ | 8 => v = .agg #[.int .i64 ((L k)[j]'hjl).1, .int .i64 ((rep t : Nat) : Int)] | 9 => ∃ b, v = .slice (some ⟨b, 0, none⟩) 1 1 ∧ w9.heap.size ≤ b ∧ Blk wv b 30 #[.int .i64 ((L k)[j]'hjl).1, .int .i64 ((rep t : Nat) : Int)] | _ => True) (fun _ => True) kR kR ?_ (fun _ _ _ _ => trivial) ?_ ?_ dE ?_
    ·
     intro ix v wv wv2 h hs
     match ix, h with
     | 0, h => exact h
     | 1, h => exact h
     | 2, h => exact h
     | 3, h => exact h
     | 4, h => exact h
     | 5, h => exact h
     | 6, h => exact h
     | 7, h =>
      obtain ⟨P3, e50, hpaQ, hu3⟩ := (show ∃ Q : Nat → Nat, v = .int .i64 ((rep t : Nat) : Int) ∧ Own wv ob 3 1 (some ⟨qp, 0, none⟩) n cp (rowL n (vN Q)) ∧ UF n Q rep ρ from h)
      exact ⟨P3, e50, hpaQ.tr0 hs, hu3⟩
     | 8, h => exact h
     | 9, h =>
      obtain ⟨b52, e52, lo52, hb52⟩ := (show ∃ b, v = .slice (some ⟨b, 0, none⟩) 1 1 ∧ w9.heap.size ≤ b ∧ Blk wv b 30 #[.int .i64 ((L k)[j]'hjl).1, .int .i64 ((rep t : Nat) : Int)] from h)
      exact ⟨b52, e52, lo52, hb52.tr0 hs⟩
     | _ + 10, h => exact trivial
    ·
     intro ix o hix hne hoq gg wx hs hd
     match ix, hix, hne, hoq with
     | 0, _, _, hoq =>
      obtain rfl := sI hoq
      have hs0 := hs
      replace hb7 := hb7.tr hs (fun hx => by have := (hpa.lt _ hx).1; (try have := or_hpa_b7 _ hx); omega)
      refine os_rv (r_fa U33 sz31_GTgt dE rfl rfl rfl) ⟨Same.refl _ _, ?_⟩
      exact rfl
     | 1, _, _, hoq =>
      obtain rfl := sI hoq
      have hs0 := hs
      replace hb7 := hb7.tr hs (fun hx => by have := (hpa.lt _ hx).1; (try have := or_hpa_b7 _ hx); omega)
      have d0 : gg 43 = .pointer (some ⟨b7, 1, none⟩) := hd 0 (dep_of kR)
      have e43 := d0
      refine os_know 43 (.pointer (some ⟨b7, 1, none⟩)) e43 nu ?_
      refine os_rv (r_ld1 (v := .slice _ _ _) U31 rfl rfl (hb7.cell rfl)) ⟨Same.refl _ _, ?_⟩
      exact rfl
     | 2, _, _, hoq =>
      obtain rfl := sI hoq
      have hs0 := hs
      replace hb9 := hb9.tr hs (fun hx => by have := (hpa.lt _ hx).1; (try have := or_hpa_b9 _ hx); omega)
      refine os_rv (r_fa U30 sz3_GSearch dE rfl rfl rfl) ⟨Same.refl _ _, ?_⟩
      exact rfl
     | 3, _, _, hoq =>
      obtain rfl := sI hoq
      have hs0 := hs
      replace hb9 := hb9.tr hs (fun hx => by have := (hpa.lt _ hx).1; (try have := or_hpa_b9 _ hx); omega)
      have d2 : gg 45 = .pointer (some ⟨b9, 0, none⟩) := hd 2 (dep_of kR)
      have e45 := d2
      refine os_know 45 (.pointer (some ⟨b9, 0, none⟩)) e45 nu ?_
      refine os_rv (r_ld1 (v := .int _ _) U3 rfl rfl (hb9.cell rfl)) ⟨Same.refl _ _, ?_⟩
      exact rfl
     | 4, _, _, hoq =>
      obtain rfl := sI hoq
      have hs0 := hs
      replace hbp := hbp.tr hs (fun hx => by have := (hpa.lt _ hx).1; (try have := or_hpa_bp _ hx); omega)
      refine os_rv (r_mv (v := .pointer (some _)) rfl) ⟨Same.refl _ _, ?_⟩
      exact rfl
     | 5, _, _, hoq =>
      obtain rfl := sI hoq
      have hs0 := hs
      replace hb9 := hb9.tr hs (fun hx => by have := (hpa.lt _ hx).1; (try have := or_hpa_b9 _ hx); omega)
      refine os_rv (r_fa U30 sz3_GSearch dE rfl rfl rfl) ⟨Same.refl _ _, ?_⟩
      exact rfl
     | 6, _, _, hoq =>
      obtain rfl := sI hoq
      have hs0 := hs
      replace hb9 := hb9.tr hs (fun hx => by have := (hpa.lt _ hx).1; (try have := or_hpa_b9 _ hx); omega)
      have d5 : gg 48 = .pointer (some ⟨b9, 1, none⟩) := hd 5 (dep_of kR)
      have e48 := d5
      refine os_know 48 (.pointer (some ⟨b9, 1, none⟩)) e48 nu ?_
      refine os_rv (r_ld1 (v := .int _ _) U3 rfl rfl (hb9.cell rfl)) ⟨Same.refl _ _, ?_⟩
      exact rfl
     | 7, _, hne, _ => exact absurd rfl hne
     | 8, _, _, hoq =>
      obtain rfl := sI hoq
      have hs0 := hs
      have d3 : gg 46 = .int .i64 ((L k)[j]'hjl).1 := hd 3 (dep_of kR)
      have e46 := d3
      have d7 : ∃ Q : Nat → Nat, gg 50 = .int .i64 ((rep t : Nat) : Int) ∧ Own wx ob 3 1 (some ⟨qp, 0, none⟩) n cp (rowL n (vN Q)) ∧ UF n Q rep ρ := hd 7 (dep_of kR)
      obtain ⟨P3, e50, hpaQ, hu3⟩ := d7
      refine os_know 46 (.int .i64 ((L k)[j]'hjl).1) e46 nu (os_know 50 (.int .i64 ((rep t : Nat) : Int)) e50 nu ?_)
      refine os_rv (r_bd2 (v0 := .int _ _) (v1 := .int _ _) (fun v0 v1 => #[v0, v1]) rfl rfl kR) ⟨Same.refl _ _, ?_⟩
      exact rfl
     | 9, _, _, hoq =>
      obtain rfl := sI hoq
      have hs0 := hs
      have d8 : gg 51 = .agg #[.int .i64 ((L k)[j]'hjl).1, .int .i64 ((rep t : Nat) : Int)] := hd 8 (dep_of kR)
      have e51 := d8
      refine os_know 51 (.agg #[.int .i64 ((L k)[j]'hjl).1, .int .i64 ((rep t : Nat) : Int)]) e51 nu ?_
      refine os_wl (fun ops Q K => ?_)
      refine wl_bs (cs := #[_, _]) [(0, .agg _)] rfl U31 sz30_GSearch ze30_GTgt dE dE kR rfl (fun b52 w10 hb52 hs hr => ?_)
      exact K _ _ ⟨hs, ⟨_, rfl, nLT hs0.size hr, hb52⟩⟩
     | _ + 10, hix, _, _ => exact absurd hix om
    ·
     intro o hoq gg wx hs hd
     obtain rfl := sI hoq
     have hs0 := hs
     replace hbp := hbp.tr0 hs
     replace hta := hta.tr0 hs
     replace hla := hla.tr0 hs
     replace hrw := fun x hx => (hrw x hx).tr hs (by simp)
     replace hCS := And.intro (hCS.1.st hs hCS.2 (by simp)) (nLT hCS.2 (Same.size hs))
     replace hzb := nLT hzb (Same.size hs)
     replace hb4 := hb4.tr0 hs
     replace hb5 := hb5.tr0 hs
     replace hoN := hoN.tr0 hs
     replace hvn := fun x hx => (hvn x hx).tr hs (by simp)
     replace hbz := nLT hbz (Same.size hs)
     replace hb7 := hb7.tr0 hs
     replace hpa := hpa.tr0 hs
     replace ho5 := ho5.tr0 hs
     replace hb9 := hb9.tr0 hs
     clear hs
     have d4 : gg 47 = .pointer (some ⟨bp, 0, none⟩) := hd 4 (dep_of kR)
     have e47 := d4
     have d6 : gg 49 = .int .i64 (t : Nat) := hd 6 (dep_of kR)
     have e49 := d6
     refine os_know 47 (.pointer (some ⟨bp, 0, none⟩)) e47 nu (os_know 49 (.int .i64 (t : Nat)) e49 nu ?_)
     refine os_cl fn108 (pfind_any wx hbp hpa hbo hu1 htl) rfl (fun e' w2 hr => ?_)
     obtain ⟨Q, rfl, hpaQ, huQ, hs2⟩ := hr
     refine ⟨_, rfl, hs2, ⟨_, rfl, hpaQ, huQ⟩, trivial, fun kx v hne h => ?_⟩
     match kx, hne, h with
     | 0, _, h => exact h
     | 1, _, h => exact h
     | 2, _, h => exact h
     | 3, _, h => exact h
     | 4, _, h => exact h
     | 5, _, h => exact h
     | 6, _, h => exact h
     | 7, hne, _ => exact absurd rfl hne
     | 8, _, h => exact h
     | 9, _, h =>
      obtain ⟨b52, e52, lo52, hb52⟩ := (show ∃ b, v = .slice (some ⟨b, 0, none⟩) 1 1 ∧ w9.heap.size ≤ b ∧ Blk wx b 30 #[.int .i64 ((L k)[j]'hjl).1, .int .i64 ((rep t : Nat) : Int)] from h)
      exact ⟨b52, e52, lo52, hb52.tr hs2 (fun hx => by have := zo _ hx; omega)⟩
     | _ + 10, _, _ => exact trivial
    intro gg w11 hs _ hR
    have hs0 := hs
    replace hbp := hbp.tr hs (fun hx => by have := (hpa.lt _ hx).1; (try have := or_hpa_bp _ hx); omega)
    replace hta := hta.tr hs (fun g hg hx => by first | exact own_ne hta hpa dE g hg hx | exact hdis g hg hx | exact hdis g hx hg | (have h1 := (hpa.lt g hx).1; (try have := hzz g hg); omega))
    replace hla := hla.tr hs (fun g hg hx => by first | exact own_ne hla hpa dE g hg hx | exact hdis g hg hx | exact hdis g hx hg | (have h1 := (hpa.lt g hx).1; (try have := hzz g hg); omega))
    replace hrw := fun x hx => (hrw x hx).tr hs (fun g hg => by first | exact .inl (by have := ((hpa).lt g hg).1; omega) | (obtain ⟨cs, h⟩ := (hpa).typ g hg; exact .inr ⟨_, _, h, by decide⟩))
    replace hCS := And.intro (hCS.1.st hs hCS.2 (fun g hg => .inr (by have := ((hpa).lt g hg).1; omega))) (nLT hCS.2 (Same.size hs))
    replace hzb := nLT hzb (Same.size hs)
    replace hb4 := hb4.tr hs (fun hx => by have := (hpa.lt _ hx).1; (try have := or_hpa_b4 _ hx); omega)
    replace hb5 := hb5.tr hs (fun hx => by have := (hpa.lt _ hx).1; (try have := or_hpa_b5 _ hx); omega)
    replace hoN := hoN.tr hs (fun g hg hx => own_ne hoN hpa dE g hg hx)
    replace hvn := fun x hx => (hvn x hx).tr hs (fun g hg => by first | exact .inl (by have := ((hpa).lt g hg).1; omega) | (obtain ⟨cs, h⟩ := (hpa).typ g hg; exact .inr ⟨_, _, h, by decide⟩))
    replace hbz := nLT hbz (Same.size hs)
    replace hb7 := hb7.tr hs (fun hx => by have := (hpa.lt _ hx).1; (try have := or_hpa_b7 _ hx); omega)
    replace ho5 := ho5.tr hs (fun g hg hx => own_ne ho5 hpa dE g hg hx)
    replace hb9 := hb9.tr hs (fun hx => by have := (hpa.lt _ hx).1; (try have := or_hpa_b9 _ hx); omega)
    have d0 : gg 43 = .pointer (some ⟨b7, 1, none⟩) := hR 0 dE
    have e43 := d0
    have d1 : gg 44 = .slice A5 j cap5 := hR 1 dE
    have e44 := d1
    have d7 : ∃ Q : Nat → Nat, gg 50 = .int .i64 ((rep t : Nat) : Int) ∧ Own w11 ob 3 1 (some ⟨qp, 0, none⟩) n cp (rowL n (vN Q)) ∧ UF n Q rep ρ := hR 7 dE
    obtain ⟨P3, e50, hpaQ, hu3⟩ := d7
    have d9 : ∃ b, gg 52 = .slice (some ⟨b, 0, none⟩) 1 1 ∧ w9.heap.size ≤ b ∧ Blk w11 b 30 #[.int .i64 ((L k)[j]'hjl).1, .int .i64 ((rep t : Nat) : Int)] := hR 9 dE
    obtain ⟨b52, e52, lo52, hb52⟩ := d9
    have hpa := hpaQ
    refine wl_know 43 (.pointer (some ⟨b7, 1, none⟩)) e43 nu (wl_know 44 (.slice A5 j cap5) e44 nu (wl_know 50 (.int .i64 ((rep t : Nat) : Int)) e50 nu (wl_know 52 (.slice (some ⟨b52, 0, none⟩) 1 1) e52 nu ?_)))
    refine wl_app U31 in30_PAdd rfl dE ho5 hb52 rfl rfl rfl oneA dE om om (nLT (Nat.succ_le_of_lt hb7.lt) (Nat.le_refl _)) (fun g53 cap53 w12 ho53 hs hg => ?_)
    have ne_ho53_bp : g53 ≠ bp := fun e => by
     have hl := hbp.lt
     rcases hg with hg | hg
     · have h1 := ho5.lt g53 (by rw [hg]; exact List.mem_singleton.2 rfl)
       (try have := or_ho5_bp g53 (by rw [hg]; exact List.mem_singleton.2 rfl)); omega
     · omega
    have ne_ho53_b4 : g53 ≠ b4 := fun e => by
     have hl := hb4.lt
     rcases hg with hg | hg
     · have h1 := ho5.lt g53 (by rw [hg]; exact List.mem_singleton.2 rfl)
       (try have := or_ho5_b4 g53 (by rw [hg]; exact List.mem_singleton.2 rfl)); omega
     · omega
    have ne_ho53_b5 : g53 ≠ b5 := fun e => by
     have hl := hb5.lt
     rcases hg with hg | hg
     · have h1 := ho5.lt g53 (by rw [hg]; exact List.mem_singleton.2 rfl)
       (try have := or_ho5_b5 g53 (by rw [hg]; exact List.mem_singleton.2 rfl)); omega
     · omega
    have ne_ho53_b7 : g53 ≠ b7 := fun e => by
     have hl := hb7.lt
     rcases hg with hg | hg
     · have h1 := ho5.lt g53 (by rw [hg]; exact List.mem_singleton.2 rfl)
       (try have := or_ho5_b7 g53 (by rw [hg]; exact List.mem_singleton.2 rfl)); omega
     · omega
    have ne_ho53_b9 : g53 ≠ b9 := fun e => by
     have hl := hb9.lt
     rcases hg with hg | hg
     · have h1 := ho5.lt g53 (by rw [hg]; exact List.mem_singleton.2 rfl)
       (try have := or_ho5_b9 g53 (by rw [hg]; exact List.mem_singleton.2 rfl)); omega
     · omega
    replace hbp := hbp.tr hs (fun hx => by have := (ho5.lt _ hx).1; (try have := or_ho5_bp _ hx); omega)
    replace hta := hta.tr hs (fun g hg hx => by first | exact own_ne hta ho5 dE g hg hx | exact hdis g hg hx | exact hdis g hx hg | (have h1 := (ho5.lt g hx).1; (try have := hzz g hg); omega))
    replace hla := hla.tr hs (fun g hg hx => by first | exact own_ne hla ho5 dE g hg hx | exact hdis g hg hx | exact hdis g hx hg | (have h1 := (ho5.lt g hx).1; (try have := hzz g hg); omega))
    replace hrw := fun x hx => (hrw x hx).tr hs (fun g hg => by first | exact .inl (by have := ((ho5).lt g hg).1; omega) | (obtain ⟨cs, h⟩ := (ho5).typ g hg; exact .inr ⟨_, _, h, by decide⟩))
    replace hCS := And.intro (hCS.1.st hs hCS.2 (fun g hg => .inr (by have := ((ho5).lt g hg).1; omega))) (nLT hCS.2 (Same.size hs))
    replace hzb := nLT hzb (Same.size hs)
    replace hb4 := hb4.tr hs (fun hx => by have := (ho5.lt _ hx).1; (try have := or_ho5_b4 _ hx); omega)
    replace hb5 := hb5.tr hs (fun hx => by have := (ho5.lt _ hx).1; (try have := or_ho5_b5 _ hx); omega)
    replace hoN := hoN.tr hs (fun g hg hx => own_ne hoN ho5 dE g hg hx)
    replace hvn := fun x hx => (hvn x hx).tr hs (fun g hg => by first | exact .inl (by have := ((ho5).lt g hg).1; omega) | (obtain ⟨cs, h⟩ := (ho5).typ g hg; exact .inr ⟨_, _, h, by decide⟩))
    replace hbz := nLT hbz (Same.size hs)
    replace hb7 := hb7.tr hs (fun hx => by have := (ho5.lt _ hx).1; (try have := or_ho5_b7 _ hx); omega)
    replace hb9 := hb9.tr hs (fun hx => by have := (ho5.lt _ hx).1; (try have := or_ho5_b9 _ hx); omega)
    replace hpa := hpa.tr hs (fun g hg hx => by first | exact own_ne hpa ho5 dE g hg hx | exact hdis g hg hx | exact hdis g hx hg | (have h1 := (ho5.lt g hx).1; (try have := hzz g hg); omega))
    replace ho53 : Own w12 (b7 + 1) 30 2 (some ⟨g53, 0, none⟩) (j + 1) cap53 (lnV (((L k).take (j + 1)).map (fun x => (x.1, ((rep x.2.toNat : Nat) : Int))))) := by
      rw [List.take_succ_eq_append_getElem hjl, List.map_append, List.map_cons, List.map_nil, ← lnV_snoc]
      simp only [ht, Int.toNat_natCast]
      exact ho53
    have ho5 := ho53
    refine wl (r_fa U33 sz31_GTgt dE rfl rfl rfl) ?_
    refine wl_st1 (v := .slice _ _ _) hb7 rfl rfl sz31_GTgt (by first | decide | simp) rfl rfl (fun w13 hq hs => ?_)
    replace hbp := hbp.tr1 hs om
    replace hta := hta.tr1 hs (fun g hg => by have := (hta.lt g hg).1; (try have := or_hta_b7 g hg); omega)
    replace hla := hla.tr1 hs (fun g hg => by have := (hla.lt g hg).1; (try have := or_hla_b7 g hg); omega)
    replace hrw := fun x hx => (hrw x hx).tr hs (fun g hg => by rw [List.mem_singleton.1 hg]; first | exact .inr ⟨_, _, hb7, by decide⟩ | exact .inl om)
    replace hCS := And.intro (hCS.1.st hs hCS.2 (fun g hg => by have h1 := List.mem_singleton.1 hg; first | (left; rw [h1]; simp; done) | (right; omega))) (nLT hCS.2 (Same.size hs))
    replace hzb := nLT hzb (Same.size hs)
    replace hb4 := hb4.tr1 hs om
    replace hb5 := hb5.tr1 hs om
    replace hoN := hoN.tr1 hs (fun g hg => by have := (hoN.lt g hg).1; (try have := or_hoN_b7 g hg); omega)
    replace hvn := fun x hx => (hvn x hx).tr hs (fun g hg => by rw [List.mem_singleton.1 hg]; first | exact .inr ⟨_, _, hb7, by decide⟩ | exact .inl om)
    replace hbz := nLT hbz (Same.size hs)
    replace hb9 := hb9.tr1 hs om
    replace hpa := hpa.tr1 hs (fun g hg => by have := (hpa.lt g hg).1; (try have := or_hpa_b7 g hg); omega)
    replace ho5 := ho5.tr1 hs (fun g hg => by have := (ho5.lt g hg).1; (try have := or_ho5_b7 g hg); omega)
    clear hs
    replace hb7 := hq
    refine x_nil (e_B (e_S (c_region (wl (r_add rfl rfl rfl om) (wmI rfl ?_)))))
    refine x_nil (e_LS ((L k).length - (j + 1)) om agA ?_)
    exact ⟨j + 1, _, _, P3, by omega, rfl, rfl, hb4, hb5, hbp, hpa, hta, hla, hrw, hu3, hCS, hzb, hoN, hvn, hbz, hb7, ho5⟩
   have hjx : j = (L k).length := by omega
   subst hjx
   obtain ⟨sv, hsv⟩ : ∃ sv, sv = Value.slice A5 (L k).length cap5 := ⟨_, rfl⟩
   obtain ⟨P2, hP2⟩ : ∃ Q, Q = P1 := ⟨_, rfl⟩
   subst hP2
   have hu2 := hu1
   have hrow5 : RowO w7 zb w7.heap.size sv (nd (poolG n rep T L) k).ln := by
     rw [List.take_length] at ho5
     have h := RowO.of (lo := zb) (xs := ((L k).map (fun x => (x.1, ((rep x.2.toNat : Nat) : Int))))) hlo5 (A := A5) (cap := cap5) (by rw [List.length_map]; exact ho5)
     rw [List.length_map] at h
     rw [hGk, hsv]; exact h
   obtain ⟨s5, hs5⟩ : ∃ b, b = w7.heap.size := ⟨_, rfl⟩
   rw [← hs5] at hrow5
   have hz5 : s5 ≤ w7.heap.size := Nat.le_of_eq hs5
   refine c_exit (e_Sx (e_LSx (e_Bx (e_S (c_region ?_)))))
   refine wl (r_fa U28 sz26_GTgt dE rfl rfl rfl) (wl (r_ld1 (v := .slice _ _ _) U26 rfl rfl (hb5.cell rfl)) (wl (r_ldS U33 rfl rfl hb7.range0 sz33_GTgt) ?_))
   refine wl_bs (cs := #[_, _]) [(0, .agg _)] rfl U26 sz33_GTgt ze33_GTgt dE dE kR rfl (fun b59 w14 hb59 hs hr => ?_)
   have or_bp_b59 : bp < b59 := nLL hbp.lt hr
   have or_hta_b59 := (fun (g : Nat) hg => nLL (hta.lt g hg).2 hr)
   have or_hla_b59 := (fun (g : Nat) hg => nLL (hla.lt g hg).2 hr)
   have or_hCS_b59 := (nLT hCS.2 hr)
   have or_hzb_b59 := (nLT hzb hr)
   have or_b4_b59 : b4 < b59 := nLL hb4.lt hr
   have or_b5_b59 : b5 < b59 := nLL hb5.lt hr
   have or_hoN_b59 := (fun (g : Nat) hg => nLL (hoN.lt g hg).2 hr)
   have or_hbz_b59 := (nLT hbz hr)
   have or_b7_b59 : b7 < b59 := nLL hb7.lt hr
   have or_hpa_b59 := (fun (g : Nat) hg => nLL (hpa.lt g hg).2 hr)
   have or_hz5_b59 := (nLT hz5 hr)
   replace hbp := hbp.tr0 hs
   replace hta := hta.tr0 hs
   replace hla := hla.tr0 hs
   replace hrw := fun x hx => (hrw x hx).tr hs (by simp)
   replace hCS := And.intro (hCS.1.st hs hCS.2 (by simp)) (nLT hCS.2 (Same.size hs))
   replace hzb := nLT hzb (Same.size hs)
   replace hb4 := hb4.tr0 hs
   replace hb5 := hb5.tr0 hs
   replace hoN := hoN.tr0 hs
   replace hvn := fun x hx => (hvn x hx).tr hs (by simp)
   replace hbz := nLT hbz (Same.size hs)
   replace hb7 := hb7.tr0 hs
   replace hpa := hpa.tr0 hs
   replace hrow5 := hrow5.tr hs (by simp)
   replace hz5 := nLT hz5 (Same.size hs)
   clear hs
   refine wl_app U26 in33_PGraph rfl dE hoN hb59 rfl rfl rfl oneA dE om om hb5.lt (fun g60 cap60 w15 ho60 hs hg => ?_)
   have ne_ho60_bp : g60 ≠ bp := fun e => by
    have hl := hbp.lt
    rcases hg with hg | hg
    · have h1 := hoN.lt g60 (by rw [hg]; exact List.mem_singleton.2 rfl)
      (try have := or_hoN_bp g60 (by rw [hg]; exact List.mem_singleton.2 rfl)); omega
    · omega
   have ne_ho60_b4 : g60 ≠ b4 := fun e => by
    have hl := hb4.lt
    rcases hg with hg | hg
    · have h1 := hoN.lt g60 (by rw [hg]; exact List.mem_singleton.2 rfl)
      (try have := or_hoN_b4 g60 (by rw [hg]; exact List.mem_singleton.2 rfl)); omega
    · omega
   have ne_ho60_b5 : g60 ≠ b5 := fun e => by
    have hl := hb5.lt
    rcases hg with hg | hg
    · have h1 := hoN.lt g60 (by rw [hg]; exact List.mem_singleton.2 rfl)
      (try have := or_hoN_b5 g60 (by rw [hg]; exact List.mem_singleton.2 rfl)); omega
    · omega
   have ne_ho60_b7 : g60 ≠ b7 := fun e => by
    have hl := hb7.lt
    rcases hg with hg | hg
    · have h1 := hoN.lt g60 (by rw [hg]; exact List.mem_singleton.2 rfl)
      (try have := or_hoN_b7 g60 (by rw [hg]; exact List.mem_singleton.2 rfl)); omega
    · omega
   replace hbp := hbp.tr hs (fun hx => by have := (hoN.lt _ hx).1; (try have := or_hoN_bp _ hx); omega)
   replace hta := hta.tr hs (fun g hg hx => by first | exact own_ne hta hoN dE g hg hx | exact hdis g hg hx | exact hdis g hx hg | (have h1 := (hoN.lt g hx).1; (try have := hzz g hg); omega))
   replace hla := hla.tr hs (fun g hg hx => by first | exact own_ne hla hoN dE g hg hx | exact hdis g hg hx | exact hdis g hx hg | (have h1 := (hoN.lt g hx).1; (try have := hzz g hg); omega))
   replace hrw := fun x hx => (hrw x hx).tr hs (fun g hg => by first | exact .inl (by have := ((hoN).lt g hg).1; omega) | (obtain ⟨cs, h⟩ := (hoN).typ g hg; exact .inr ⟨_, _, h, by decide⟩))
   replace hCS := And.intro (hCS.1.st hs hCS.2 (fun g hg => .inr (by have := ((hoN).lt g hg).1; omega))) (nLT hCS.2 (Same.size hs))
   replace hzb := nLT hzb (Same.size hs)
   replace hb4 := hb4.tr hs (fun hx => by have := (hoN.lt _ hx).1; (try have := or_hoN_b4 _ hx); omega)
   replace hb5 := hb5.tr hs (fun hx => by have := (hoN.lt _ hx).1; (try have := or_hoN_b5 _ hx); omega)
   replace hvn := fun x hx => (hvn x hx).tr hs (fun g hg => by first | exact .inl (by have := ((hoN).lt g hg).1; omega) | (obtain ⟨cs, h⟩ := (hoN).typ g hg; exact .inr ⟨_, _, h, by decide⟩))
   replace hbz := nLT hbz (Same.size hs)
   replace hb7 := hb7.tr hs (fun hx => by have := (hoN.lt _ hx).1; (try have := or_hoN_b7 _ hx); omega)
   replace hpa := hpa.tr hs (fun g hg hx => by first | exact own_ne hpa hoN dE g hg hx | exact hdis g hg hx | exact hdis g hx hg | (have h1 := (hoN.lt g hx).1; (try have := hzz g hg); omega))
   replace hrow5 := hrow5.tr hs (fun g hg => by first | exact .inl (by have := ((hoN).lt g hg).1; omega) | (obtain ⟨cs, h⟩ := (hoN).typ g hg; exact .inr ⟨_, _, h, by decide⟩))
   replace hz5 := nLT hz5 (Same.size hs)
   have hoN2 : Own w15 (b5 + 1) 33 2 (some ⟨g60, 0, none⟩) (k + 1) cap60 (ndV (vI T) (fun x => if x = k then sv else Vn x) (k + 1)) := by
     rw [ndV_snoc, ndV_congr (f' := (vI T)) (h' := Vn) (fun x _ => rfl) (fun x hx => by rw [if_neg (show ¬ x = k from by omega)])]
     simp only [if_true]
     rw [hsv]; exact ho60
   refine wl (r_fa U28 sz26_GTgt dE rfl rfl rfl) ?_
   refine wl_st1 (v := .slice _ _ _) hb5 rfl rfl sz26_GTgt (by first | decide | simp) rfl rfl (fun w16 hq hs => ?_)
   replace hbp := hbp.tr1 hs om
   replace hta := hta.tr1 hs (fun g hg => by have := (hta.lt g hg).1; (try have := or_hta_b5 g hg); omega)
   replace hla := hla.tr1 hs (fun g hg => by have := (hla.lt g hg).1; (try have := or_hla_b5 g hg); omega)
   replace hrw := fun x hx => (hrw x hx).tr hs (fun g hg => by rw [List.mem_singleton.1 hg]; first | exact .inr ⟨_, _, hb5, by decide⟩ | exact .inl om)
   replace hCS := And.intro (hCS.1.st hs hCS.2 (fun g hg => by have h1 := List.mem_singleton.1 hg; first | (left; rw [h1]; simp; done) | (right; omega))) (nLT hCS.2 (Same.size hs))
   replace hzb := nLT hzb (Same.size hs)
   replace hb4 := hb4.tr1 hs om
   replace hvn := fun x hx => (hvn x hx).tr hs (fun g hg => by rw [List.mem_singleton.1 hg]; first | exact .inr ⟨_, _, hb5, by decide⟩ | exact .inl om)
   replace hbz := nLT hbz (Same.size hs)
   replace hb7 := hb7.tr1 hs om
   replace hpa := hpa.tr1 hs (fun g hg => by have := (hpa.lt g hg).1; (try have := or_hpa_b5 g hg); omega)
   replace hrow5 := hrow5.tr hs (fun g hg => by rw [List.mem_singleton.1 hg]; first | exact .inr ⟨_, _, hb5, by decide⟩ | exact .inl om)
   replace hz5 := nLT hz5 (Same.size hs)
   replace hoN2 := hoN2.tr1 hs (fun g hg => by have := (hoN2.lt g hg).1; (try have := or_hoN2_b5 g hg); omega)
   clear hs
   replace hb5 := hq
   refine x_nil (e_B (e_S (c_region (wl (r_add rfl rfl rfl om) (wmI rfl ?_)))))
   refine x_nil (e_LS (n - (k + 1)) om agA ?_)
   exact ⟨k + 1, _, _, fun x => if x = k then sv else Vn x, P2, by omega, rfl, rfl, hb4, hb5, hbp, hpa, hta, hla, hrw, hu2, hCS, hzb, hoN2, fun x hx => by
     by_cases e : x = k
     · subst e
       simp only [if_true]
       exact hrow5.up hz5
     · simp only [if_neg e]
       exact (hvn x om).up hbz⟩
  have hrk : ¬ rep k = k := fun e => c30 (by rw [e])
  have hGk : (nd (poolG n rep T L) k).ln = [] := by rw [poolG_nd hlt, if_neg hrk]
  obtain ⟨sv, hsv⟩ : ∃ sv, sv = Value.slice none 0 0 := ⟨_, rfl⟩
  obtain ⟨P2, hP2⟩ : ∃ Q, Q = P1 := ⟨_, rfl⟩
  subst hP2
  have hu2 := hu1
  have hrow5 : RowO w6 zb w6.heap.size sv (nd (poolG n rep T L) k).ln := by rw [hGk, hsv]; exact ⟨none, 0, rfl, Own.nil _ _ _ _, fun g hg => by cases hg⟩
  obtain ⟨s5, hs5⟩ : ∃ b, b = w6.heap.size := ⟨_, rfl⟩
  rw [← hs5] at hrow5
  have hz5 : s5 ≤ w6.heap.size := Nat.le_of_eq hs5
  refine c_skip (e_S (c_region (wl (r_fa U28 sz26_GTgt dE rfl rfl rfl) (wl (r_ld1 (v := .slice _ _ _) U26 rfl rfl (hb5.cell rfl)) (wl (r_ldS U33 rfl rfl hb7.range0 sz33_GTgt) ?_)))))
  refine wl_bs (cs := #[_, _]) [(0, .agg _)] rfl U26 sz33_GTgt ze33_GTgt dE dE kR rfl (fun b59 w17 hb59 hs hr => ?_)
  have or_bp_b59 : bp < b59 := nLL hbp.lt hr
  have or_hta_b59 := (fun (g : Nat) hg => nLL (hta.lt g hg).2 hr)
  have or_hla_b59 := (fun (g : Nat) hg => nLL (hla.lt g hg).2 hr)
  have or_hCS_b59 := (nLT hCS.2 hr)
  have or_hzb_b59 := (nLT hzb hr)
  have or_b4_b59 : b4 < b59 := nLL hb4.lt hr
  have or_b5_b59 : b5 < b59 := nLL hb5.lt hr
  have or_hoN_b59 := (fun (g : Nat) hg => nLL (hoN.lt g hg).2 hr)
  have or_hbz_b59 := (nLT hbz hr)
  have or_b7_b59 : b7 < b59 := nLL hb7.lt hr
  have or_hpa_b59 := (fun (g : Nat) hg => nLL (hpa.lt g hg).2 hr)
  have or_hz5_b59 := (nLT hz5 hr)
  replace hbp := hbp.tr0 hs
  replace hta := hta.tr0 hs
  replace hla := hla.tr0 hs
  replace hrw := fun x hx => (hrw x hx).tr hs (by simp)
  replace hCS := And.intro (hCS.1.st hs hCS.2 (by simp)) (nLT hCS.2 (Same.size hs))
  replace hzb := nLT hzb (Same.size hs)
  replace hb4 := hb4.tr0 hs
  replace hb5 := hb5.tr0 hs
  replace hoN := hoN.tr0 hs
  replace hvn := fun x hx => (hvn x hx).tr hs (by simp)
  replace hbz := nLT hbz (Same.size hs)
  replace hb7 := hb7.tr0 hs
  replace hpa := hpa.tr0 hs
  replace hrow5 := hrow5.tr hs (by simp)
  replace hz5 := nLT hz5 (Same.size hs)
  clear hs
  refine wl_app U26 in33_PGraph rfl dE hoN hb59 rfl rfl rfl oneA dE om om hb5.lt (fun g60 cap60 w18 ho60 hs hg => ?_)
  have ne_ho60_bp : g60 ≠ bp := fun e => by
   have hl := hbp.lt
   rcases hg with hg | hg
   · have h1 := hoN.lt g60 (by rw [hg]; exact List.mem_singleton.2 rfl)
     (try have := or_hoN_bp g60 (by rw [hg]; exact List.mem_singleton.2 rfl)); omega
   · omega
  have ne_ho60_b4 : g60 ≠ b4 := fun e => by
   have hl := hb4.lt
   rcases hg with hg | hg
   · have h1 := hoN.lt g60 (by rw [hg]; exact List.mem_singleton.2 rfl)
     (try have := or_hoN_b4 g60 (by rw [hg]; exact List.mem_singleton.2 rfl)); omega
   · omega
  have ne_ho60_b5 : g60 ≠ b5 := fun e => by
   have hl := hb5.lt
   rcases hg with hg | hg
   · have h1 := hoN.lt g60 (by rw [hg]; exact List.mem_singleton.2 rfl)
     (try have := or_hoN_b5 g60 (by rw [hg]; exact List.mem_singleton.2 rfl)); omega
   · omega
  have ne_ho60_b7 : g60 ≠ b7 := fun e => by
   have hl := hb7.lt
   rcases hg with hg | hg
   · have h1 := hoN.lt g60 (by rw [hg]; exact List.mem_singleton.2 rfl)
     (try have := or_hoN_b7 g60 (by rw [hg]; exact List.mem_singleton.2 rfl)); omega
   · omega
  replace hbp := hbp.tr hs (fun hx => by have := (hoN.lt _ hx).1; (try have := or_hoN_bp _ hx); omega)
  replace hta := hta.tr hs (fun g hg hx => by first | exact own_ne hta hoN dE g hg hx | exact hdis g hg hx | exact hdis g hx hg | (have h1 := (hoN.lt g hx).1; (try have := hzz g hg); omega))
  replace hla := hla.tr hs (fun g hg hx => by first | exact own_ne hla hoN dE g hg hx | exact hdis g hg hx | exact hdis g hx hg | (have h1 := (hoN.lt g hx).1; (try have := hzz g hg); omega))
  replace hrw := fun x hx => (hrw x hx).tr hs (fun g hg => by first | exact .inl (by have := ((hoN).lt g hg).1; omega) | (obtain ⟨cs, h⟩ := (hoN).typ g hg; exact .inr ⟨_, _, h, by decide⟩))
  replace hCS := And.intro (hCS.1.st hs hCS.2 (fun g hg => .inr (by have := ((hoN).lt g hg).1; omega))) (nLT hCS.2 (Same.size hs))
  replace hzb := nLT hzb (Same.size hs)
  replace hb4 := hb4.tr hs (fun hx => by have := (hoN.lt _ hx).1; (try have := or_hoN_b4 _ hx); omega)
  replace hb5 := hb5.tr hs (fun hx => by have := (hoN.lt _ hx).1; (try have := or_hoN_b5 _ hx); omega)
  replace hvn := fun x hx => (hvn x hx).tr hs (fun g hg => by first | exact .inl (by have := ((hoN).lt g hg).1; omega) | (obtain ⟨cs, h⟩ := (hoN).typ g hg; exact .inr ⟨_, _, h, by decide⟩))
  replace hbz := nLT hbz (Same.size hs)
  replace hb7 := hb7.tr hs (fun hx => by have := (hoN.lt _ hx).1; (try have := or_hoN_b7 _ hx); omega)
  replace hpa := hpa.tr hs (fun g hg hx => by first | exact own_ne hpa hoN dE g hg hx | exact hdis g hg hx | exact hdis g hx hg | (have h1 := (hoN.lt g hx).1; (try have := hzz g hg); omega))
  replace hrow5 := hrow5.tr hs (fun g hg => by first | exact .inl (by have := ((hoN).lt g hg).1; omega) | (obtain ⟨cs, h⟩ := (hoN).typ g hg; exact .inr ⟨_, _, h, by decide⟩))
  replace hz5 := nLT hz5 (Same.size hs)
  have hoN2 : Own w18 (b5 + 1) 33 2 (some ⟨g60, 0, none⟩) (k + 1) cap60 (ndV (vI T) (fun x => if x = k then sv else Vn x) (k + 1)) := by
    rw [ndV_snoc, ndV_congr (f' := (vI T)) (h' := Vn) (fun x _ => rfl) (fun x hx => by rw [if_neg (show ¬ x = k from by omega)])]
    simp only [if_true]
    rw [hsv]; exact ho60
  refine wl (r_fa U28 sz26_GTgt dE rfl rfl rfl) ?_
  refine wl_st1 (v := .slice _ _ _) hb5 rfl rfl sz26_GTgt (by first | decide | simp) rfl rfl (fun w19 hq hs => ?_)
  replace hbp := hbp.tr1 hs om
  replace hta := hta.tr1 hs (fun g hg => by have := (hta.lt g hg).1; (try have := or_hta_b5 g hg); omega)
  replace hla := hla.tr1 hs (fun g hg => by have := (hla.lt g hg).1; (try have := or_hla_b5 g hg); omega)
  replace hrw := fun x hx => (hrw x hx).tr hs (fun g hg => by rw [List.mem_singleton.1 hg]; first | exact .inr ⟨_, _, hb5, by decide⟩ | exact .inl om)
  replace hCS := And.intro (hCS.1.st hs hCS.2 (fun g hg => by have h1 := List.mem_singleton.1 hg; first | (left; rw [h1]; simp; done) | (right; omega))) (nLT hCS.2 (Same.size hs))
  replace hzb := nLT hzb (Same.size hs)
  replace hb4 := hb4.tr1 hs om
  replace hvn := fun x hx => (hvn x hx).tr hs (fun g hg => by rw [List.mem_singleton.1 hg]; first | exact .inr ⟨_, _, hb5, by decide⟩ | exact .inl om)
  replace hbz := nLT hbz (Same.size hs)
  replace hb7 := hb7.tr1 hs om
  replace hpa := hpa.tr1 hs (fun g hg => by have := (hpa.lt g hg).1; (try have := or_hpa_b5 g hg); omega)
  replace hrow5 := hrow5.tr hs (fun g hg => by rw [List.mem_singleton.1 hg]; first | exact .inr ⟨_, _, hb5, by decide⟩ | exact .inl om)
  replace hz5 := nLT hz5 (Same.size hs)
  replace hoN2 := hoN2.tr1 hs (fun g hg => by have := (hoN2.lt g hg).1; (try have := or_hoN2_b5 g hg); omega)
  clear hs
  replace hb5 := hq
  refine x_nil (e_B (e_S (c_region (wl (r_add rfl rfl rfl om) (wmI rfl ?_)))))
  refine x_nil (e_LS (n - (k + 1)) om agA ?_)
  exact ⟨k + 1, _, _, fun x => if x = k then sv else Vn x, P2, by omega, rfl, rfl, hb4, hb5, hbp, hpa, hta, hla, hrw, hu2, hCS, hzb, hoN2, fun x hx => by
    by_cases e : x = k
    · subst e
      simp only [if_true]
      exact hrow5.up hz5
    · simp only [if_neg e]
      exact (hvn x om).up hbz⟩
 have hke : k = n := by omega
 rw [hke] at hoN hvn hb5
 refine c_exit (e_Sx (e_LSx (e_Bx (e_S (c_seq ?_)))))
 refine c_monoSO 4 [63, 64, 65, 66] (aL (some (⟨qp, 0, none⟩ : Addr))) 3 (fun ix v wv => match ix with | 0 => v = .agg #[.slice AN n capN] | 1 => v = .pointer (some ⟨bp, 0, none⟩) | 2 => v = .int .i64 (r : Nat) | 3 => ∃ Q : Nat → Nat, v = .int .i64 ((rep r : Nat) : Int) ∧ Own wv ob 3 1 (some ⟨qp, 0, none⟩) n cp (rowL n (vN Q)) ∧ UF n Q rep ρ | _ => True) (fun _ => True) kR kR ?_ (fun _ _ _ _ => trivial) ?_ ?_ dE ?_
 ·
  intro ix v wv wv2 h hs
  match ix, h with
  | 0, h => exact h
  | 1, h => exact h
  | 2, h => exact h
  | 3, h =>
   obtain ⟨P3, e66, hpaQ, hu3⟩ := (show ∃ Q : Nat → Nat, v = .int .i64 ((rep r : Nat) : Int) ∧ Own wv ob 3 1 (some ⟨qp, 0, none⟩) n cp (rowL n (vN Q)) ∧ UF n Q rep ρ from h)
   exact ⟨P3, e66, hpaQ.tr0 hs, hu3⟩
  | _ + 4, h => exact trivial
 ·
  intro ix o hix hne hoq gg wx hs hd
  match ix, hix, hne, hoq with
  | 0, _, _, hoq =>
   obtain rfl := sI hoq
   have hs0 := hs
   replace hb5 := hb5.tr hs (fun hx => by have := (hpa.lt _ hx).1; (try have := or_hpa_b5 _ hx); omega)
   refine os_rv (r_ldS U28 rfl rfl hb5.range0 sz28_GTgt) ⟨Same.refl _ _, ?_⟩
   exact rfl
  | 1, _, _, hoq =>
   obtain rfl := sI hoq
   have hs0 := hs
   replace hbp := hbp.tr hs (fun hx => by have := (hpa.lt _ hx).1; (try have := or_hpa_bp _ hx); omega)
   refine os_rv (r_mv (v := .pointer (some _)) rfl) ⟨Same.refl _ _, ?_⟩
   exact rfl
  | 2, _, _, hoq =>
   obtain rfl := sI hoq
   have hs0 := hs
   refine os_rv (r_mv (v := .int _ _) rfl) ⟨Same.refl _ _, ?_⟩
   exact rfl
  | 3, _, hne, _ => exact absurd rfl hne
  | _ + 4, hix, _, _ => exact absurd hix om
 ·
  intro o hoq gg wx hs hd
  obtain rfl := sI hoq
  have hs0 := hs
  replace hbp := hbp.tr0 hs
  replace hpa := hpa.tr0 hs
  replace hta := hta.tr0 hs
  replace hla := hla.tr0 hs
  replace hrw := fun x hx => (hrw x hx).tr hs (by simp)
  replace hCS := And.intro (hCS.1.st hs hCS.2 (by simp)) (nLT hCS.2 (Same.size hs))
  replace hzb := nLT hzb (Same.size hs)
  replace hb4 := hb4.tr0 hs
  replace hb5 := hb5.tr0 hs
  replace hoN := hoN.tr0 hs
  replace hvn := fun x hx => (hvn x hx).tr hs (by simp)
  replace hbz := nLT hbz (Same.size hs)
  clear hs
  have d1 : gg 64 = .pointer (some ⟨bp, 0, none⟩) := hd 1 (dep_of kR)
  have e64 := d1
  have d2 : gg 65 = .int .i64 (r : Nat) := hd 2 (dep_of kR)
  have e65 := d2
  refine os_know 64 (.pointer (some ⟨bp, 0, none⟩)) e64 nu (os_know 65 (.int .i64 (r : Nat)) e65 nu ?_)
  refine os_cl fn108 (pfind_any wx hbp hpa hbo hu hrt) rfl (fun e' w2 hr => ?_)
  obtain ⟨Q, rfl, hpaQ, huQ, hs2⟩ := hr
  refine ⟨_, rfl, hs2, ⟨_, rfl, hpaQ, huQ⟩, trivial, fun kx v hne h => ?_⟩
  match kx, hne, h with
  | 0, _, h => exact h
  | 1, _, h => exact h
  | 2, _, h => exact h
  | 3, hne, _ => exact absurd rfl hne
  | _ + 4, _, _ => exact trivial
 intro gg w20 hs _ hR
 have hs0 := hs
 replace hbp := hbp.tr hs (fun hx => by have := (hpa.lt _ hx).1; (try have := or_hpa_bp _ hx); omega)
 replace hta := hta.tr hs (fun g hg hx => by first | exact own_ne hta hpa dE g hg hx | exact hdis g hg hx | exact hdis g hx hg | (have h1 := (hpa.lt g hx).1; (try have := hzz g hg); omega))
 replace hla := hla.tr hs (fun g hg hx => by first | exact own_ne hla hpa dE g hg hx | exact hdis g hg hx | exact hdis g hx hg | (have h1 := (hpa.lt g hx).1; (try have := hzz g hg); omega))
 replace hrw := fun x hx => (hrw x hx).tr hs (fun g hg => by first | exact .inl (by have := ((hpa).lt g hg).1; omega) | (obtain ⟨cs, h⟩ := (hpa).typ g hg; exact .inr ⟨_, _, h, by decide⟩))
 replace hCS := And.intro (hCS.1.st hs hCS.2 (fun g hg => .inr (by have := ((hpa).lt g hg).1; omega))) (nLT hCS.2 (Same.size hs))
 replace hzb := nLT hzb (Same.size hs)
 replace hb4 := hb4.tr hs (fun hx => by have := (hpa.lt _ hx).1; (try have := or_hpa_b4 _ hx); omega)
 replace hb5 := hb5.tr hs (fun hx => by have := (hpa.lt _ hx).1; (try have := or_hpa_b5 _ hx); omega)
 replace hoN := hoN.tr hs (fun g hg hx => own_ne hoN hpa dE g hg hx)
 replace hvn := fun x hx => (hvn x hx).tr hs (fun g hg => by first | exact .inl (by have := ((hpa).lt g hg).1; omega) | (obtain ⟨cs, h⟩ := (hpa).typ g hg; exact .inr ⟨_, _, h, by decide⟩))
 replace hbz := nLT hbz (Same.size hs)
 have d0 : gg 63 = .agg #[.slice AN n capN] := hR 0 dE
 have e63 := d0
 have d3 : ∃ Q : Nat → Nat, gg 66 = .int .i64 ((rep r : Nat) : Int) ∧ Own w20 ob 3 1 (some ⟨qp, 0, none⟩) n cp (rowL n (vN Q)) ∧ UF n Q rep ρ := hR 3 dE
 obtain ⟨P3, e66, hpaQ, hu3⟩ := d3
 have hpa := hpaQ
 have hNG : NodesIn w20 AN (poolG n rep T L) := nodes_own (lo := zb) (bs := bs) hoN (poolG_len _ _ _ _) (fun x hx => by
   have hx2 : x < n := by rw [← poolG_len n rep T L]; exact hx
   rw [← nd_eq hx, poolG_nd hx2]; rfl) (fun x hx => by
   have hx2 : x < n := by rw [← poolG_len n rep T L]; exact hx
   have h := hvn x hx2
   rw [← nd_eq hx]; exact h)
 have hrl := hu.rl r hrt
 have z4 := hb4.lt
 refine wl_know 63 (.agg #[.slice AN n capN]) e63 nu (wl_know 66 (.int .i64 ((rep r : Nat) : Int)) e66 nu ?_)
 have hzq := hzb
 refine wl_cl fn49 (fromn_any AN capN nf (poolG n rep T L) (rep r) n _ hNG (poolG_len _ _ _ _) hG2 hnf (by rw [poolG_len]; exact hrl)) rfl (fun e' w21 hr => ?_)
 obtain ⟨⟨o, AF, hD, hok, rfl, hN⟩, hs⟩ := hr
 replace hs := Same.of_bel hs
 replace hbp := hbp.tr0 hs
 replace hta := hta.tr0 hs
 replace hla := hla.tr0 hs
 replace hrw := fun x hx => (hrw x hx).tr hs (by simp)
 replace hCS := And.intro (hCS.1.st hs hCS.2 (by simp)) (nLT hCS.2 (Same.size hs))
 replace hzb := nLT hzb (Same.size hs)
 replace hb4 := hb4.tr0 hs
 replace hb5 := hb5.tr0 hs
 replace hoN := hoN.tr0 hs
 replace hvn := fun x hx => (hvn x hx).tr hs (by simp)
 replace hbz := nLT hbz (Same.size hs)
 replace hpa := hpa.tr0 hs
 clear hs
 have hFr : FrSame (w20).heap.size w21 w21 := FrSame.refl _ _
 have hzV : zb ≤ (w20).heap.size := hzq
 obtain ⟨Z0, hZ0⟩ : ∃ z, z = (w20).heap.size := ⟨_, rfl⟩
 rw [← hZ0] at hN hFr z4 hzV
 obtain ⟨wZ, hwZ⟩ : ∃ z, z = w21 := ⟨_, rfl⟩
 replace hFr : FrSame Z0 wZ w21 := by rw [hwZ]; exact FrSame.refl _ _
 rw [← hwZ] at hN
 refine ⟨_, rfl, ?_⟩
 refine wl_stW hb4 rfl rfl sz28_GTgt rfl oneA (fun w22 hq hs => ?_)
 replace hbp := hbp.tr1 hs om
 replace hta := hta.tr1 hs (fun g hg => by have := (hta.lt g hg).1; (try have := or_hta_b4 g hg); omega)
 replace hla := hla.tr1 hs (fun g hg => by have := (hla.lt g hg).1; (try have := or_hla_b4 g hg); omega)
 replace hrw := fun x hx => (hrw x hx).tr hs (fun g hg => by rw [List.mem_singleton.1 hg]; first | exact .inr ⟨_, _, hb4, by decide⟩ | exact .inl om)
 replace hCS := And.intro (hCS.1.st hs hCS.2 (fun g hg => by have h1 := List.mem_singleton.1 hg; first | (left; rw [h1]; simp; done) | (right; omega))) (nLT hCS.2 (Same.size hs))
 replace hzb := nLT hzb (Same.size hs)
 replace hb5 := hb5.tr1 hs om
 replace hoN := hoN.tr1 hs (fun g hg => by have := (hoN.lt g hg).1; (try have := or_hoN_b4 g hg); omega)
 replace hvn := fun x hx => (hvn x hx).tr hs (fun g hg => by rw [List.mem_singleton.1 hg]; first | exact .inr ⟨_, _, hb4, by decide⟩ | exact .inl om)
 replace hbz := nLT hbz (Same.size hs)
 replace hpa := hpa.tr1 hs (fun g hg => by have := (hpa.lt g hg).1; (try have := or_hpa_b4 g hg); omega)
 replace hFr := hFr.of hs (fun g hg => by rw [List.mem_singleton.1 hg]; omega)
 clear hs
 replace hb4 := hq
 refine x_nil (e_S (c_ret (fin1 (.inl rfl) rfl (rr_cell U28 rfl rfl hb4.range0 sz28_GTgt) ?_)))
 exact ⟨⟨o, AF, hD, rfl, fun w2 hf => hN w2 (hFr.then hf hzV)⟩, hCS.1, hCS.2⟩
end Go.Proofs.YtegngekpmpdngaaDoor
