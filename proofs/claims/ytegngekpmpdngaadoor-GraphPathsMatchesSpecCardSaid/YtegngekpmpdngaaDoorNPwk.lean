/- What these functions of the program compute, at every world: slices.Clone[[]int,int], glosswright/graph.Paths$1. -/
import Derived.Test.YtegngekpmpdngaaDoorU
import Derived.Test.YtegngekpmpdngaaDoorNCyv
namespace Go.Proofs.YtegngekpmpdngaaDoor
open Go.RowKit
theorem own_neA {w : World} {base b sz k c : Nat} {e t : TypeId} {A : Option Addr} {xs : List Value} {cs : Array Value} (h : Own w base e sz A k c xs) (hb : Blk w b t cs) (hne : e ≠ t) : ∀ g ∈ aL A, g ≠ b := fun g hg e1 => by
  obtain ⟨c2, h2⟩ := h.typ g hg
  subst e1
  exact hne (blk_type h2 hb)
theorem sl_zero (A : Option Addr) (n c : Nat) : Ending.returned (Value.slice A (0 + n) c) = .returned (.slice A n c) := by rw [Nat.zero_add]
theorem fn38 : callable Tryd.prog 38 = true := by kernel_rfl
theorem fn39_NPwk : callable Tryd.prog 39 = true := by kernel_rfl
theorem in43 : (Tryd.prog.info? 43).map (fun i => (i.zero, i.size, i.bytes)) = some (some (.slice none 0 0), 1, 24) := by kernel_rfl
theorem sz39 : (Tryd.prog.info? 39).map (·.size) = some 1 := by kernel_rfl
theorem sz43_NPwk : (Tryd.prog.info? 43).map (·.size) = some 1 := by kernel_rfl
theorem ze43_NPwk : (Tryd.prog.info? 43).map (·.zero) = some (some (.slice none 0 0)) := by kernel_rfl
theorem clonei_any (A : Option Addr) (c : Nat) (xs : List Int) (w : World) (hA : PthIn 0 w A xs) : Calls Tryd.prog 39 #[.slice A xs.length c] w fun e w' => (∃ A' cap', e = .returned (.slice A' xs.length cap') ∧ PthIn 0 w' A' xs) ∧ Bel w w' := by
 have hl1 := hA.1
 refine enter Tryd.func39 Tryd.ntmps39 rfl (Nat.le_of_ble_eq_true rfl) ?_
 have hB : Bel w w := Below.refl _ _
 refine c_seq (c_region (waS rfl (x_nil (e_S (c_seq ?_)))))
 refine c_seq (c_region (wmS rfl (wl (r_eqlNil U43 rfl rfl) (x_nil (e_S ?_)))))
 refine c_if rfl (fun c4 => ?_) (fun c4 => ?_)
 ·
  have hn : xs = [] := by
    rcases hA.2 with h | ⟨_, g, _, h, _⟩
    · exact h.2
    · rw [h] at c4; cases c4
  subst hn
  refine c_seq (c_region (waS rfl (x_nil (e_S (c_ret ?_)))))
  refine e_Sr (fin1 (.inl rfl) rfl rfl ?_)
  exact ⟨⟨none, 0, rfl, PthIn.nil 0 _⟩, hB⟩
 obtain ⟨hne, g, rfl, hgl, hc⟩ : xs ≠ [] ∧ ∃ g, A = some ⟨g, 0, none⟩ ∧ g < w.heap.size ∧ ∀ j v, (iV xs)[j]? = some v → w.cell? ⟨g, j, none⟩ = some v := by
   rcases hA.2 with h | h
   · rw [h.1] at c4; cases c4
   · exact ⟨h.1, hA.cell h.1⟩
 have hpos := List.length_pos_iff.2 hne
 refine c_skip (e_S (c_seq (c_region ?_)))
 refine wl_bs0 U43 sz3_GLoose (fun b5 w1 hb5 hs hr => ?_)
 have lo5 := nLT (Bel.size hB) hr
 replace hB := hB.tr0 hs
 clear hs
 clear hr
 refine wmS rfl ?_
 have hown := own_blk (sz := 1) (m := 0) hb5 (Nat.zero_le b5) rfl dE
 refine wl_appC (b := g) (o' := 0) (news := iV xs) U43 in3 rfl dE hown rfl rfl (fun j u hj => ?_) (by rw [iV_len, Nat.mul_one]) (iV_one xs) hpos om om (Nat.zero_le _) (fun g7 cap7 w9 ho7 hs hg => ?_)
 · rw [Nat.zero_add]
   exact hB.cell hgl (hc j u hj)
 replace hB : Bel w w9 := hB.tr hs (fun g hg => by rw [List.mem_singleton.1 hg]; exact lo5)
 have hp7 : PthIn 0 w9 (some ⟨g7, 0, none⟩) xs := own_pth (by have h := ho7; rw [Nat.zero_add] at h; exact h) hne hl1
 refine waS rfl (x_nil (e_S (c_ret (fin1 (.inl rfl) rfl rfl ?_))))
 exact ⟨⟨_, _, sl_zero _ _ _, hp7⟩, hB⟩
set_option maxRecDepth 100000 in
set_option maxHeartbeats 4000000 in
theorem pwalk_step {w0 : World} {G : Option Addr} {cg nf bO bM bG bV base most : Nat} {gr : List Nd} (hG : NodesIn w0 G gr) (hk : GOk2 nf gr) (hmo : most ≤ 40) (hlo : w0.heap.size ≤ base) (l0O : w0.heap.size ≤ bO) (_l0M : w0.heap.size ≤ bM) (_l0G : w0.heap.size ≤ bG) (_l0V : w0.heap.size ≤ bV) (nMO : bM ≠ bO) (nGO : bG ≠ bO) (nVO : bV ≠ bO) {o : List (List Int)} {A PA : Option Addr} {cap pc : Nat} {vs : List Value} {p : List Int} {w : World} (hB : Bel w0 w) (hbz : base ≤ w.heap.size) (hbO : Blk w bO 39 #[.slice A (o).length cap]) (hbM : Blk w bM 3 #[.int .i64 ((most : Nat) : Int)]) (hbG : Blk w bG 28 #[.slice G gr.length cg]) (hbV : Blk w bV 79 #[.func (.func 38) #[] #[.pointer (some ⟨bO, 0, none⟩), .pointer (some ⟨bM, 0, none⟩), .pointer (some ⟨bG, 0, none⟩), .pointer (some ⟨bV, 0, none⟩)]]) (ho : Own w base 43 1 A (o).length cap vs) (hrw : RowsI 0 w (o) vs) (hP : PthIn 0 w PA p) (hpc : p.length ≤ pc) (hpm : p.length ≤ most) (ho3 : o.length ≤ 300) {a : Nat} (ha : a < gr.length) (IH : ∀ (t : Nat) (p2 : List Int) (PA2 : Option Addr) (pc2 : Nat) (o2 : List (List Int)) (A2 : Option Addr) (cap2 : Nat) (vs2 : List Value) (w2 : World), p2.length = p.length + 1 → p2.length ≤ most → t < gr.length → o2.length ≤ 300 → Bel w0 w2 → base ≤ w2.heap.size → Blk w2 bO 39 #[.slice A2 (o2).length cap2] → Blk w2 bM 3 #[.int .i64 ((most : Nat) : Int)] → Blk w2 bG 28 #[.slice G gr.length cg] → Blk w2 bV 79 #[.func (.func 38) #[] #[.pointer (some ⟨bO, 0, none⟩), .pointer (some ⟨bM, 0, none⟩), .pointer (some ⟨bG, 0, none⟩), .pointer (some ⟨bV, 0, none⟩)]] → Own w2 base 43 1 A2 (o2).length cap2 vs2 → RowsI 0 w2 (o2) vs2 → PthIn 0 w2 PA2 p2 → p2.length ≤ pc2 → Calls Tryd.prog 38 #[.int .i64 (t : Nat), .slice PA2 (p2).length pc2, .pointer (some ⟨bO, 0, none⟩), .pointer (some ⟨bM, 0, none⟩), .pointer (some ⟨bG, 0, none⟩), .pointer (some ⟨bV, 0, none⟩)] w2 fun e w' => ∃ b, e = .returned (.bool b) ∧ (b = true → (o2).length + (pthsN gr (most - (p2).length) t).length ≤ 300) ∧ (b = false → 300 < (o2).length + (pthsN gr (most - (p2).length) t).length) ∧ ∃ o' A' cap' vs', (b = true → o' = o2 ++ behind p2 (pthsN gr (most - (p2).length) t)) ∧ o'.length ≤ 300 ∧ Blk w' bO 39 #[.slice A' o'.length cap'] ∧ Own w' base 43 1 A' o'.length cap' vs' ∧ RowsI 0 w' o' vs' ∧ ChG (ZP bO A2) w2 w' ∧ ∀ g ∈ aL A', g ∈ aL A2 ∨ w2.heap.size ≤ g) : Calls Tryd.prog 38 #[.int .i64 (a : Nat), .slice PA (p).length pc, .pointer (some ⟨bO, 0, none⟩), .pointer (some ⟨bM, 0, none⟩), .pointer (some ⟨bG, 0, none⟩), .pointer (some ⟨bV, 0, none⟩)] w fun e w' => ∃ b, e = .returned (.bool b) ∧ (b = true → (o).length + (pthsN gr (most - (p).length) a).length ≤ 300) ∧ (b = false → 300 < (o).length + (pthsN gr (most - (p).length) a).length) ∧ ∃ o' A' cap' vs', (b = true → o' = o ++ behind p (pthsN gr (most - (p).length) a)) ∧ o'.length ≤ 300 ∧ Blk w' bO 39 #[.slice A' o'.length cap'] ∧ Own w' base 43 1 A' o'.length cap' vs' ∧ RowsI 0 w' o' vs' ∧ ChG (ZP bO A) w w' ∧ ∀ g ∈ aL A', g ∈ aL A ∨ w.heap.size ≤ g := by
 have hC : ChG (ZP bO A) w w := ChG.refl _ _
 have hA : ∀ g ∈ aL A, g ∈ aL A ∨ w.heap.size ≤ g := fun g hg => .inl hg
 have hn6 := hk.le
 have hpos := pthsN_pos gr (most - p.length) a
 refine enter Tryd.func38 Tryd.ntmps38 rfl (Nat.le_of_ble_eq_true rfl) (c_seq (c_region (waB rfl (x_nil (e_S ?_)))))
 refine c_seq (c_seq (c_region (wl (r_ld1 (v := .slice _ _ _) U39 rfl rfl (hbO.cell rfl)) (wl (r_len U39 rfl) (wl (r_eql rfl rfl) ?_)))))
 refine x_nil (e_S ?_)
 refine c_ifd rfl (fun c13 => ?_) (fun c13 => ?_)
 ·
  refine c_seq (c_region (waB rfl (x_nil (e_S (c_ret ?_)))))
  refine e_Sr (fin1 (.inl rfl) rfl rfl ?_)
  exact ⟨false, rfl, fun h => (by cases h), fun _ => by omega, o, A, cap, vs, fun h => (by cases h), ho3, hbO, ho, hrw, hC, hA⟩
 have hne3 : o.length < 300 := by omega
 refine c_skip (e_S (c_seq ?_))
 have zo := fun g hg => (ho.lt g hg).2
 have hszC := hC.size
 have or_ho_bO := own_neA ho hbO dE
 have or_ho_bM := own_neA ho hbM dE
 have or_ho_bG := own_neA ho hbG dE
 have or_ho_bV := own_neA ho hbV dE
 refine c_monoSO 5 [14, 15, 16, 17, 18] (aL A) 4 (fun ix v wv => match ix with | 0 => v = .slice A o.length cap | 1 => v = .slice PA p.length pc | 2 => ∃ B c, v = .slice B p.length c ∧ PthIn 0 wv B p | 3 => ∃ b B c, v = .slice (some ⟨b, 0, none⟩) 1 1 ∧ w.heap.size ≤ b ∧ Blk wv b 43 #[.slice B p.length c] ∧ PthIn 0 wv B p | 4 => ∃ g cap2 B c, v = .slice (some ⟨g, 0, none⟩) (o.length + 1) cap2 ∧ Own wv base 43 1 (some ⟨g, 0, none⟩) (o.length + 1) cap2 (vs ++ [.slice B p.length c]) ∧ PthIn 0 wv B p ∧ (aL A = [g] ∨ w.heap.size ≤ g) | _ => True) (fun _ => True) kR kR ?_ (fun _ _ _ _ => trivial) ?_ ?_ dE ?_
 ·
  intro ix v wv wv2 h hs
  match ix, h with
  | 0, h => exact h
  | 1, h => exact h
  | 2, h =>
   obtain ⟨B16, c16, e16, hp16⟩ := (show ∃ B c, v = .slice B p.length c ∧ PthIn 0 wv B p from h)
   exact ⟨B16, c16, e16, hp16.tr hs (by simp)⟩
  | 3, h =>
   obtain ⟨b17, B17, c17, e17, lo17, hb17, hp17⟩ := (show ∃ b B c, v = .slice (some ⟨b, 0, none⟩) 1 1 ∧ w.heap.size ≤ b ∧ Blk wv b 43 #[.slice B p.length c] ∧ PthIn 0 wv B p from h)
   exact ⟨b17, B17, c17, e17, lo17, hb17.tr0 hs, hp17.tr hs (by simp)⟩
  | 4, h =>
   obtain ⟨g18, cap18, B18, c18, e18, ho18, hp18, hg18⟩ := (show ∃ g cap2 B c, v = .slice (some ⟨g, 0, none⟩) (o.length + 1) cap2 ∧ Own wv base 43 1 (some ⟨g, 0, none⟩) (o.length + 1) cap2 (vs ++ [.slice B p.length c]) ∧ PthIn 0 wv B p ∧ (aL A = [g] ∨ w.heap.size ≤ g) from h)
   exact ⟨g18, cap18, B18, c18, e18, ho18.tr0 hs, hp18.tr hs (by simp), hg18⟩
  | _ + 5, h => exact trivial
 ·
  intro ix o hix hne hoq gg wx hs hd
  match ix, hix, hne, hoq with
  | 0, _, _, hoq =>
   obtain rfl := sI hoq
   have hs0 := hs
   replace hbO := hbO.tr hs (fun hx => by have := (ho.lt _ hx).1; (try have := or_ho_bO _ hx); omega)
   refine os_rv (r_ld1 (v := .slice _ _ _) U39 rfl rfl (hbO.cell rfl)) ⟨Same.refl _ _, ?_⟩
   exact rfl
  | 1, _, _, hoq =>
   obtain rfl := sI hoq
   have hs0 := hs
   refine os_rv (r_mv (v := .slice _ _ _) rfl) ⟨Same.refl _ _, ?_⟩
   exact rfl
  | 2, _, _, hoq =>
   obtain rfl := sI hoq
   have hs0 := hs
   replace hP := hP.tr hs (fun g hg => by obtain ⟨cs, hc⟩ := (ho).typ g hg; exact ⟨cs, _, hc, by decide⟩)
   have d1 : gg 15 = .slice PA p.length pc := hd 1 (dep_of kR)
   have e15 := d1
   refine os_know 15 (.slice PA p.length pc) e15 nu ?_
   refine os_cl fn39_NPwk (clonei_any PA pc p wx hP) rfl (fun e' w2 hr => ?_)
   obtain ⟨⟨B16, c16, rfl, hp16⟩, hs⟩ := hr
   exact ⟨_, rfl, Same.of_bel hs, ⟨_, _, rfl, hp16⟩⟩
  | 3, _, _, hoq =>
   obtain rfl := sI hoq
   have hs0 := hs
   have d2 : ∃ B c, gg 16 = .slice B p.length c ∧ PthIn 0 wx B p := hd 2 (dep_of kR)
   obtain ⟨B16, c16, e16, hp16⟩ := d2
   refine os_know 16 (.slice B16 p.length c16) e16 nu ?_
   refine os_wl (fun ops Q K => ?_)
   refine wl_bs (cs := #[_]) [(0, .slice _ _ _)] rfl U39 sz43_NPwk ze43_NPwk dE dE kR rfl (fun b17 w1 hb17 hs hr => ?_)
   exact K _ _ ⟨hs, ⟨_, _, _, rfl, nLT hs0.size hr, hb17, hp16.tr hs (by simp)⟩⟩
  | 4, _, hne, _ => exact absurd rfl hne
  | _ + 5, hix, _, _ => exact absurd hix om
 ·
  intro o hoq gg wx hs hd
  obtain rfl := sI hoq
  have hs0 := hs
  replace hB := hB.tr0 hs
  replace hbO := hbO.tr0 hs
  replace hbM := hbM.tr0 hs
  replace hbG := hbG.tr0 hs
  replace hbV := hbV.tr0 hs
  replace ho := ho.tr0 hs
  replace hrw := hrw.tr hs (by simp)
  replace hP := hP.tr hs (by simp)
  replace hbz := nLT hbz (Same.size hs)
  replace hC := hC.st hs (by simp)
  clear hs
  have d0 : gg 14 = .slice A o.length cap := hd 0 (dep_of kR)
  have e14 := d0
  have d3 : ∃ b B c, gg 17 = .slice (some ⟨b, 0, none⟩) 1 1 ∧ w.heap.size ≤ b ∧ Blk wx b 43 #[.slice B p.length c] ∧ PthIn 0 wx B p := hd 3 (dep_of kR)
  obtain ⟨b17, B17, c17, e17, lo17, hb17, hp17⟩ := d3
  refine os_know 14 (.slice A o.length cap) e14 nu (os_know 17 (.slice (some ⟨b17, 0, none⟩) 1 1) e17 nu ?_)
  refine os_wl (fun ops Q K => ?_)
  refine wl_app U39 in43 rfl dE ho hb17 rfl rfl rfl rfl dE om om hbz (fun g18 cap18 w2 ho18 hs2 hg18 => ?_)
  refine K _ _ ⟨hs2, ⟨_, _, _, _, rfl, ho18, hp17.tr hs2 (fun g hg => by obtain ⟨cs, hc⟩ := ho.typ g hg; exact ⟨cs, _, hc, by decide⟩), hg18.imp id (fun h => nLT hs0.size h)⟩, trivial, fun kx v hne h => ?_⟩
  match kx, hne, h with
  | 0, _, h => exact h
  | 1, _, h => exact h
  | 2, _, h =>
   obtain ⟨B16, c16, e16, hp16⟩ := (show ∃ B c, v = .slice B p.length c ∧ PthIn 0 wx B p from h)
   exact ⟨B16, c16, e16, hp16.tr hs2 (fun g hg => by obtain ⟨cs, hc⟩ := ho.typ g hg; exact ⟨cs, _, hc, by decide⟩)⟩
  | 3, _, h =>
   obtain ⟨b17, B17, c17, e17, lo17, hb17, hp17⟩ := (show ∃ b B c, v = .slice (some ⟨b, 0, none⟩) 1 1 ∧ w.heap.size ≤ b ∧ Blk wx b 43 #[.slice B p.length c] ∧ PthIn 0 wx B p from h)
   exact ⟨b17, B17, c17, e17, lo17, hb17.tr hs2 (fun hx => by have := zo _ hx; omega), hp17.tr hs2 (fun g hg => by obtain ⟨cs, hc⟩ := ho.typ g hg; exact ⟨cs, _, hc, by decide⟩)⟩
  | 4, hne, _ => exact absurd rfl hne
  | _ + 5, _, _ => exact trivial
 intro gg w2 hs _ hR
 have hs0 := hs
 replace hB := hB.tr hs (fun g hg => nLT hlo (ho.lt g hg).1)
 replace hbO := hbO.tr hs (fun hx => by have := (ho.lt _ hx).1; (try have := or_ho_bO _ hx); omega)
 replace hbM := hbM.tr hs (fun hx => by have := (ho.lt _ hx).1; (try have := or_ho_bM _ hx); omega)
 replace hbG := hbG.tr hs (fun hx => by have := (ho.lt _ hx).1; (try have := or_ho_bG _ hx); omega)
 replace hbV := hbV.tr hs (fun hx => by have := (ho.lt _ hx).1; (try have := or_ho_bV _ hx); omega)
 replace hrw := hrw.tr hs (fun g hg => by obtain ⟨cs, hc⟩ := (ho).typ g hg; exact ⟨cs, _, hc, by decide⟩)
 replace hP := hP.tr hs (fun g hg => by obtain ⟨cs, hc⟩ := (ho).typ g hg; exact ⟨cs, _, hc, by decide⟩)
 replace hbz := nLT hbz (Same.size hs)
 replace hC := hC.st hs (fun g hg => (hA g hg).elim (fun h => .inl (.inr h)) .inr)
 have d4 : ∃ g cap2 B c, gg 18 = .slice (some ⟨g, 0, none⟩) (o.length + 1) cap2 ∧ Own w2 base 43 1 (some ⟨g, 0, none⟩) (o.length + 1) cap2 (vs ++ [.slice B p.length c]) ∧ PthIn 0 w2 B p ∧ (aL A = [g] ∨ w.heap.size ≤ g) := hR 4 dE
 obtain ⟨g18, cap18, B18, c18, e18, ho18, hp18, hg18⟩ := d4
 replace hrw := hrw.snoc (c := c18) hp18
 have hol : (o ++ [p]).length = o.length + 1 := by simp
 have ho : Own w2 base 43 1 (some ⟨g18, 0, none⟩) (o ++ [p]).length cap18 (vs ++ [.slice B18 p.length c18]) := by rw [hol]; exact ho18
 have hA1 : ∀ g ∈ aL (some (⟨g18, 0, none⟩ : Addr)), g ∈ aL A ∨ w.heap.size ≤ g := fun g hg => by
   rw [List.mem_singleton.1 hg]
   rcases hg18 with h | h
   · left; rw [h]; exact List.mem_singleton.2 rfl
   · exact .inr (nLT hszC h)
 clear hA
 have hA := hA1
 refine wl_know 18 (.slice (some ⟨g18, 0, none⟩) (o.length + 1) cap18) e18 nu ?_
 refine wl_st1 (v := .slice _ _ _) hbO rfl rfl sz39 (by first | decide | simp) rfl rfl (fun w3 hq hs => ?_)
 replace hB := hB.tr1 hs l0O
 replace hbM := hbM.tr1 hs om
 replace hbG := hbG.tr1 hs om
 replace hbV := hbV.tr1 hs om
 replace hrw := hrw.tr hs (fun g hg => by rw [List.mem_singleton.1 hg]; exact ⟨_, _, hbO, by decide⟩)
 replace hP := hP.tr hs (fun g hg => by rw [List.mem_singleton.1 hg]; exact ⟨_, _, hbO, by decide⟩)
 replace hbz := nLT hbz (Same.size hs)
 replace hC := hC.st hs (fun g hg => by rw [List.mem_singleton.1 hg]; first | exact .inl (.inl rfl) | exact .inr or_hC_bO)
 replace ho := ho.tr1 hs (fun g hg => own_neA ho hbO dE g hg)
 clear hs
 replace hbO := hq
 replace hbO : Blk w3 bO 39 #[.slice (some ⟨g18, 0, none⟩) (o ++ [p]).length cap18] := by rw [hol]; exact hbO
 refine x_nil (e_S (c_seq (c_seq (c_region (wmS rfl ?_)))))
 refine wl (r_len U43 rfl) (wl (r_ld1 (v := .int _ _) U3 rfl rfl (hbM.cell rfl)) (wl (r_eql rfl rfl) (x_nil (e_S ?_))))
 refine c_ifd rfl (fun c22 => ?_) (fun c22 => ?_)
 ·
  have hm0 : most - p.length = 0 := by omega
  refine c_seq (c_region (waB rfl (x_nil (e_S (c_ret ?_)))))
  refine e_Sr (fin1 (.inl rfl) rfl rfl ?_)
  refine ⟨true, rfl, fun _ => ?_, fun h => (by cases h), o ++ [p], _, _, _, fun _ => ?_, by omega, hbO, ho, hrw, hC, hA⟩
  · rw [hm0]; show o.length + 1 ≤ 300; omega
  · rw [hm0]; simp [pthsN, behind]
 obtain ⟨m1, hm1⟩ : ∃ m1, most - p.length = m1 + 1 := ⟨most - p.length - 1, by omega⟩
 refine c_skip (e_S (c_seq (c_seq ?_)))
 obtain ⟨nb, no, LA, lc, rfl, hnb, hnr, hln⟩ := hG.at_ hB ha
 have hmx := hln.1
 unfold maxI at hmx
 refine c_region (wl (r_fa U28 sz26 dE rfl rfl rfl) (wl (r_ld1 (v := .slice _ _ _) U26 rfl rfl (hbG.cell rfl)) (wmI rfl (wl (r_ia (i := a) U26 sz33 rfl rfl ha rfl) (wl (r_fa U33 sz31 dE rfl rfl rfl) ?_)))))
 refine wl (r_ld1 (v := .slice _ _ _) U31 rfl rfl (hnr 1 _ rfl)) (wl (r_len U31 rfl) (wmI rfl (x_nil (e_S (c_block ?_)))))
 refine c_loopS [8, 10, 30, 31, 32, 33, 34, 35, 36, 37, 38, 39, 40, 41, 42, 43, 44, 45, 46, 47, 48, 49] (fun m g w' => ∃ (j : Nat) (o2 : List (List Int)) (A2 : Option Addr) (cap2 : Nat) (vs2 : List Value), j ≤ (gr[a]'ha).ln.length ∧ m = (gr[a]'ha).ln.length - j ∧ g 30 = .int .i64 j ∧ o2 = o ++ behind p (pthsJ gr m1 a j) ∧ o2.length ≤ 300 ∧ Bel w0 w' ∧ Blk w' bO 39 #[.slice A2 (o2).length cap2] ∧ Blk w' bM 3 #[.int .i64 ((most : Nat) : Int)] ∧ Blk w' bG 28 #[.slice (some ⟨nb, no, none⟩) gr.length cg] ∧ Blk w' bV 79 #[.func (.func 38) #[] #[.pointer (some ⟨bO, 0, none⟩), .pointer (some ⟨bM, 0, none⟩), .pointer (some ⟨bG, 0, none⟩), .pointer (some ⟨bV, 0, none⟩)]] ∧ Own w' base 43 1 A2 (o2).length cap2 vs2 ∧ RowsI 0 w' (o2) vs2 ∧ PthIn 0 w' PA p ∧ ChG (ZP bO A) w w' ∧ (∀ g ∈ aL A2, g ∈ aL A ∨ w.heap.size ≤ g) ∧ base ≤ w'.heap.size) ((gr[a]'ha).ln.length) ?_ (fun m g7 w4 hI => ?_)
 ·
  exact ⟨0, o ++ [p], _, _, _, Nat.zero_le _, rfl, rfl, by simp [pthsJ_zero, behind], by omega, hB, hbO, hbM, hbG, hbV, ho, hrw, hP, hC, hA, hbz⟩
 obtain ⟨j, o2, A2, cap2, vs2, hj, hmj, h30, ho2, ho32, hB, hbO, hbM, hbG, hbV, ho, hrw, hP, hC, hA, hbz⟩ := hI
 refine c_know 30 (.int .i64 j) h30 nu (c_seq (c_region (wl (r_lss rfl rfl) (x_nil (e_S ?_)))))
 refine c_seq ?_
 refine c_ifd rfl (fun c31 => ?_) (fun c31 => ?_)
 ·
  have hjl : j < (gr[a]'ha).ln.length := by omega
  obtain ⟨lb, lof, rfl, hlb, hlr⟩ := hln.at_ hB hjl
  obtain ⟨t, ht, htl⟩ : ∃ t : Nat, ((gr[a]'ha).ln[j]'hjl).2 = (t : Int) ∧ t < gr.length := by
    have h1 := hk.ln a ha _ (List.getElem_mem hjl)
    exact ⟨(((gr[a]'ha).ln[j]'hjl).2).toNat, by omega, by omega⟩
  have hjn : j < (nd gr a).ln.length := by rw [nd_eq ha]; exact hjl
  have hsj := pthsJ_succ (m := m1) hjn
  have hle1 := pthsJ_le gr m1 a (j + 1)
  have hlx : ((nd gr a).ln[j]'hjn) = ((gr[a]'ha).ln[j]'hjl) := by simp only [nd_eq ha]
  rw [hlx, ht, Int.toNat_natCast] at hsj
  refine c_skip (e_S (c_seq (c_block (c_seq (c_region ?_)))))
  refine wl (r_ia (i := j) U31 sz30 rfl rfl om rfl) (wl (r_ldS U30 rfl rfl hlr sz30) ?_)
  refine wl_al (cs := #[.int .i64 0, .int .i64 0]) ze30 rfl (fun b10 w5 hb10 hs hr => ?_)
  have or_bO_b10 : bO < b10 := nLL hbO.lt hr
  have or_bM_b10 : bM < b10 := nLL hbM.lt hr
  have or_bG_b10 : bG < b10 := nLL hbG.lt hr
  have or_bV_b10 : bV < b10 := nLL hbV.lt hr
  have or_ho_b10 := (fun g hg => nLL (ho.lt g hg).2 hr)
  have or_hbz_b10 := (nLT hbz hr)
  have or_hC_b10 := (nLT hC.size hr)
  have lo10 := nLT (Bel.size hB) hr
  replace hB := hB.tr0 hs
  replace hbO := hbO.tr0 hs
  replace hbM := hbM.tr0 hs
  replace hbG := hbG.tr0 hs
  replace hbV := hbV.tr0 hs
  replace ho := ho.tr0 hs
  replace hrw := hrw.tr hs (by simp)
  replace hP := hP.tr hs (by simp)
  replace hbz := nLT hbz (Same.size hs)
  replace hC := hC.st hs (by simp)
  clear hs
  clear hr
  refine wl_stW hb10 rfl rfl sz30 rfl oneA (fun w6 hq hs => ?_)
  replace hB := hB.tr1 hs lo10
  replace hbO := hbO.tr1 hs om
  replace hbM := hbM.tr1 hs om
  replace hbG := hbG.tr1 hs om
  replace hbV := hbV.tr1 hs om
  replace ho := ho.tr1 hs (fun g hg => own_neA ho hb10 dE g hg)
  replace hrw := hrw.tr hs (fun g hg => by rw [List.mem_singleton.1 hg]; exact ⟨_, _, hb10, by decide⟩)
  replace hP := hP.tr hs (fun g hg => by rw [List.mem_singleton.1 hg]; exact ⟨_, _, hb10, by decide⟩)
  replace hbz := nLT hbz (Same.size hs)
  replace hC := hC.st hs (fun g hg => by rw [List.mem_singleton.1 hg]; first | exact .inl (.inl rfl) | exact .inr or_hC_b10)
  clear hs
  replace hb10 := hq
  refine x_nil (e_S (c_seq ?_))
  rw [ht] at hb10
  have hpl : p.length + 1 ≤ 1000 := by omega
  refine c_monoTO 13 [34, 35, 36, 37, 38, 39, 40, 41, 42, 43, 44, 45, 46] (fun _ => false) (fun ix v wv => match ix with | 0 => v = .func (.func 38) #[] #[.pointer (some ⟨bO, 0, none⟩), .pointer (some ⟨bM, 0, none⟩), .pointer (some ⟨bG, 0, none⟩), .pointer (some ⟨bV, 0, none⟩)] | 1 => v = .pointer (some ⟨b10, 1, none⟩) | 2 => v = .int .i64 ((t : Nat) : Int) | 3 => v = .slice PA p.length pc | 4 => v = .slice PA p.length pc | 5 => v = .int .i64 ((p.length : Nat) : Int) | 6 => v = .slice PA p.length pc | 7 => v = .int .i64 ((p.length : Nat) : Int) | 8 => v = .slice PA p.length p.length | 9 => v = .pointer (some ⟨b10, 0, none⟩) | 10 => v = .int .i64 ((gr[a]'ha).ln[j]'hjl).1 | 11 => ∃ b, v = .slice (some ⟨b, 0, none⟩) 1 1 ∧ w6.heap.size ≤ b ∧ Blk wv b 3 #[.int .i64 ((gr[a]'ha).ln[j]'hjl).1] | 12 => ∃ q c2, v = .slice (some ⟨q, 0, none⟩) (p ++ [((gr[a]'ha).ln[j]'hjl).1]).length c2 ∧ PthIn 0 wv (some ⟨q, 0, none⟩) (p ++ [((gr[a]'ha).ln[j]'hjl).1]) ∧ (p ++ [((gr[a]'ha).ln[j]'hjl).1]).length ≤ c2 | _ => True) kR kR ?_ ?_ ?_
  ·
   intro ix v wv wv2 h hs
   match ix, h with
   | 0, h => exact h
   | 1, h => exact h
   | 2, h => exact h
   | 3, h => exact h
   | 4, h => exact h
   | 5, h => exact h
   | 6, h => exact h
   | 7, h => exact h
   | 8, h => exact h
   | 9, h => exact h
   | 10, h => exact h
   | 11, h =>
    obtain ⟨b45, e45, lo45, hb45⟩ := (show ∃ b, v = .slice (some ⟨b, 0, none⟩) 1 1 ∧ w6.heap.size ≤ b ∧ Blk wv b 3 #[.int .i64 ((gr[a]'ha).ln[j]'hjl).1] from h)
    exact ⟨b45, e45, lo45, hb45.tr0 hs⟩
   | 12, h =>
    obtain ⟨q46, c46, e46, hp46, hc46⟩ := (show ∃ q c2, v = .slice (some ⟨q, 0, none⟩) (p ++ [((gr[a]'ha).ln[j]'hjl).1]).length c2 ∧ PthIn 0 wv (some ⟨q, 0, none⟩) (p ++ [((gr[a]'ha).ln[j]'hjl).1]) ∧ (p ++ [((gr[a]'ha).ln[j]'hjl).1]).length ≤ c2 from h)
    exact ⟨q46, c46, e46, hp46.tr hs (by simp), hc46⟩
   | _ + 13, h => exact trivial
  ·
   intro ix o hix hoq gg wx hs hd hdis
   match ix, hix, hoq with
   | 0, _, hoq =>
    obtain rfl := sI hoq
    have hs0 := hs
    replace hbV := hbV.tr0 hs
    clear hs
    refine os_rv (r_ld1 (v := .func _ _ _) Tryd.underlying79 rfl rfl (hbV.cell rfl)) ⟨Same.refl _ _, ?_, frsh_no⟩
    exact rfl
   | 1, _, hoq =>
    obtain rfl := sI hoq
    have hs0 := hs
    replace hb10 := hb10.tr0 hs
    clear hs
    refine os_rv (r_fa U30 sz3_GLoose dE rfl rfl rfl) ⟨Same.refl _ _, ?_, frsh_no⟩
    exact rfl
   | 2, _, hoq =>
    obtain rfl := sI hoq
    have hs0 := hs
    replace hb10 := hb10.tr0 hs
    clear hs
    have d1 : gg 35 = .pointer (some ⟨b10, 1, none⟩) := hd 1 (dep_of kR)
    have e35 := d1
    refine os_know 35 (.pointer (some ⟨b10, 1, none⟩)) e35 nu ?_
    refine os_rv (r_ld1 (v := .int _ _) U3 rfl rfl (hb10.cell rfl)) ⟨Same.refl _ _, ?_, frsh_no⟩
    exact rfl
   | 3, _, hoq =>
    obtain rfl := sI hoq
    have hs0 := hs
    clear hs
    refine os_rv (r_mv (v := .slice _ _ _) rfl) ⟨Same.refl _ _, ?_, frsh_no⟩
    exact rfl
   | 4, _, hoq =>
    obtain rfl := sI hoq
    have hs0 := hs
    clear hs
    refine os_rv (r_mv (v := .slice _ _ _) rfl) ⟨Same.refl _ _, ?_, frsh_no⟩
    exact rfl
   | 5, _, hoq =>
    obtain rfl := sI hoq
    have hs0 := hs
    clear hs
    have d4 : gg 38 = .slice PA p.length pc := hd 4 (dep_of kR)
    have e38 := d4
    refine os_know 38 (.slice PA p.length pc) e38 nu ?_
    refine os_rv (r_len U43 rfl) ⟨Same.refl _ _, ?_, frsh_no⟩
    exact rfl
   | 6, _, hoq =>
    obtain rfl := sI hoq
    have hs0 := hs
    clear hs
    refine os_rv (r_mv (v := .slice _ _ _) rfl) ⟨Same.refl _ _, ?_, frsh_no⟩
    exact rfl
   | 7, _, hoq =>
    obtain rfl := sI hoq
    have hs0 := hs
    clear hs
    have d6 : gg 40 = .slice PA p.length pc := hd 6 (dep_of kR)
    have e40 := d6
    refine os_know 40 (.slice PA p.length pc) e40 nu ?_
    refine os_rv (r_len U43 rfl) ⟨Same.refl _ _, ?_, frsh_no⟩
    exact rfl
   | 8, _, hoq =>
    obtain rfl := sI hoq
    have hs0 := hs
    clear hs
    have d3 : gg 37 = .slice PA p.length pc := hd 3 (dep_of kR)
    have e37 := d3
    have d5 : gg 39 = .int .i64 ((p.length : Nat) : Int) := hd 5 (dep_of kR)
    have e39 := d5
    have d7 : gg 41 = .int .i64 ((p.length : Nat) : Int) := hd 7 (dep_of kR)
    have e41 := d7
    refine os_know 37 (.slice PA p.length pc) e37 nu (os_know 39 (.int .i64 ((p.length : Nat) : Int)) e39 nu (os_know 41 (.int .i64 ((p.length : Nat) : Int)) e41 nu ?_))
    refine os_rv (r_slF U43 sz3_GLoose rfl rfl rfl om) ⟨Same.refl _ _, ?_, frsh_no⟩
    exact rfl
   | 9, _, hoq =>
    obtain rfl := sI hoq
    have hs0 := hs
    replace hb10 := hb10.tr0 hs
    clear hs
    refine os_rv (r_fa U30 sz3_GLoose dE rfl rfl rfl) ⟨Same.refl _ _, ?_, frsh_no⟩
    exact rfl
   | 10, _, hoq =>
    obtain rfl := sI hoq
    have hs0 := hs
    replace hb10 := hb10.tr0 hs
    clear hs
    have d9 : gg 43 = .pointer (some ⟨b10, 0, none⟩) := hd 9 (dep_of kR)
    have e43 := d9
    refine os_know 43 (.pointer (some ⟨b10, 0, none⟩)) e43 nu ?_
    refine os_rv (r_ld1 (v := .int _ _) U3 rfl rfl (hb10.cell rfl)) ⟨Same.refl _ _, ?_, frsh_no⟩
    exact rfl
   | 11, _, hoq =>
    obtain rfl := sI hoq
    have hs0 := hs
    clear hs
    have d10 : gg 44 = .int .i64 ((gr[a]'ha).ln[j]'hjl).1 := hd 10 (dep_of kR)
    have e44 := d10
    refine os_know 44 (.int .i64 ((gr[a]'ha).ln[j]'hjl).1) e44 nu ?_
    refine os_wl (fun ops Q K => ?_)
    refine wl_bs (cs := #[_]) [(0, .int _ _)] rfl U43 sz3_GLoose ze3_GUnr dE dE kR rfl (fun b45 w7 hb45 hs hr => ?_)
    exact K _ _ ⟨hs, ⟨_, rfl, nLT hs0.size hr, hb45⟩, fun _ g hg => by cases hg; exact ⟨hr, hb45.lt⟩⟩
   | 12, _, hoq =>
    obtain rfl := sI hoq
    have hs0 := hs
    replace hP := hP.tr hs (by simp)
    clear hs
    have d8 : gg 42 = .slice PA p.length p.length := hd 8 (dep_of kR)
    have e42 := d8
    have d11 : ∃ b, gg 45 = .slice (some ⟨b, 0, none⟩) 1 1 ∧ w6.heap.size ≤ b ∧ Blk wx b 3 #[.int .i64 ((gr[a]'ha).ln[j]'hjl).1] := hd 11 (dep_of kR)
    obtain ⟨b45, e45, lo45, hb45⟩ := d11
    refine os_know 42 (.slice PA p.length p.length) e42 nu (os_know 45 (.slice (some ⟨b45, 0, none⟩) 1 1) e45 nu ?_)
    refine os_wl (fun ops Q K => ?_)
    refine wl_appP U43 in3 rfl dE hP (Nat.zero_le _) hpl hb45 rfl rfl (fun q c2 w2 hq hc2 hs2 hr => ?_)
    exact K _ _ ⟨hs2, ⟨_, _, rfl, hq, hc2⟩, frsh_no⟩
   | _ + 13, hix, _ => exact absurd hix om
  intro gg w8 hs hR hdis
  have hs0 := hs
  replace hB := hB.tr0 hs
  replace hbO := hbO.tr0 hs
  replace hbM := hbM.tr0 hs
  replace hbG := hbG.tr0 hs
  replace hbV := hbV.tr0 hs
  replace ho := ho.tr0 hs
  replace hrw := hrw.tr hs (by simp)
  replace hP := hP.tr hs (by simp)
  replace hbz := nLT hbz (Same.size hs)
  replace hC := hC.st hs (by simp)
  replace hb10 := hb10.tr0 hs
  clear hs
  have d0 : gg 34 = .func (.func 38) #[] #[.pointer (some ⟨bO, 0, none⟩), .pointer (some ⟨bM, 0, none⟩), .pointer (some ⟨bG, 0, none⟩), .pointer (some ⟨bV, 0, none⟩)] := hR 0 dE
  have e34 := d0
  have d2 : gg 36 = .int .i64 ((t : Nat) : Int) := hR 2 dE
  have e36 := d2
  have d12 : ∃ q c2, gg 46 = .slice (some ⟨q, 0, none⟩) (p ++ [((gr[a]'ha).ln[j]'hjl).1]).length c2 ∧ PthIn 0 w8 (some ⟨q, 0, none⟩) (p ++ [((gr[a]'ha).ln[j]'hjl).1]) ∧ (p ++ [((gr[a]'ha).ln[j]'hjl).1]).length ≤ c2 := hR 12 dE
  obtain ⟨q46, c46, e46, hp46, hc46⟩ := d12
  refine wl_know 34 (.func (.func 38) #[] #[.pointer (some ⟨bO, 0, none⟩), .pointer (some ⟨bM, 0, none⟩), .pointer (some ⟨bG, 0, none⟩), .pointer (some ⟨bV, 0, none⟩)]) e34 nu (wl_know 36 (.int .i64 ((t : Nat) : Int)) e36 nu (wl_know 46 (.slice (some ⟨q46, 0, none⟩) (p ++ [((gr[a]'ha).ln[j]'hjl).1]).length c46) e46 nu ?_))
  refine wl_clv rfl fn38 (IH t (p ++ [((gr[a]'ha).ln[j]'hjl).1]) (some ⟨q46, 0, none⟩) c46 o2 A2 cap2 vs2 _ (by simp) (by rw [List.length_append]; simp only [List.length_cons, List.length_nil]; omega) htl ho32 hB hbz hbO hbM hbG hbV ho hrw hp46 hc46) rfl rfl (fun e' w9 hr => ?_)
  obtain ⟨b47, rfl, ht47, hf47, o3, A3, cap3, vs3, ho3e, ho33, hbO3, ho3w, hrw3, hC3, hA3⟩ := hr
  have hzt := zp_ty ho hbO dE
  have hA4 : ∀ g ∈ aL A3, g ∈ aL A ∨ w.heap.size ≤ g := fun g hg => (hA3 g hg).elim (fun h => hA g h) (fun h => .inr (nLT hC.size h))
  replace hP := hP.chG hC3 hzt
  replace hB := hB.chG hC3 (fun g hg => hg.elim (fun e => by rw [e]; exact l0O) (fun hm => nLT hlo (ho.lt g hm).1))
  replace hbM := hbM.chG hC3 (zp_no ho hbM dE nMO)
  replace hbG := hbG.chG hC3 (zp_no ho hbG dE nGO)
  replace hbV := hbV.chG hC3 (zp_no ho hbV dE nVO)
  replace hbz := nLT hbz hC3.size
  replace hC := hC.trans hC3 (fun g hg => hg.elim (fun e => .inl (.inl e)) (fun hm => (hA g hm).elim (fun h => .inl (.inr h)) .inr))
  clear hA
  have hA := hA4
  replace hbO := hbO3
  replace ho := ho3w
  replace hrw := hrw3
  have hmp : most - (p ++ [((gr[a]'ha).ln[j]'hjl).1]).length = m1 := by rw [List.length_append]; simp only [List.length_cons, List.length_nil]; omega
  rw [hmp] at ht47 hf47 ho3e
  have hl2 : o2.length = o.length + (pthsJ gr m1 a j).length := by rw [ho2, List.length_append, behind_len]
  have hlj : (pthsJ gr m1 a (j + 1)).length = (pthsJ gr m1 a j).length + (pthsN gr m1 t).length := by rw [hsj, List.length_append, List.length_map]
  refine ⟨_, rfl, ?_⟩
  refine wl (r_not rfl) (x_nil (e_S ?_))
  refine c_if rfl (fun c48 => ?_) (fun c48 => ?_)
  ·
   have hb47 : b47 = false := by simpa using c48
   have hbig : 300 < o.length + (pthsN gr (most - p.length) a).length := by
     have := hf47 hb47
     rw [hm1]; omega
   refine c_seq (c_region (waB rfl (x_nil (e_S (c_ret ?_)))))
   refine e_Br (e_Sr (e_LSr (e_Br (e_Sr (fin1 (.inl rfl) rfl rfl ?_)))))
   exact ⟨false, rfl, fun h => (by cases h), fun _ => hbig, o3, A3, cap3, vs3, fun h => (by cases h), ho33, hbO, ho, hrw, hC, hA⟩
  have hb47 : b47 = true := by simpa using c48
  have ho3q : o3 = o ++ behind p (pthsJ gr m1 a (j + 1)) := by
    rw [ho3e hb47, ho2, hsj, behind_app, behind_cons, List.append_assoc]
  refine c_skip (e_B (e_S (c_region (wl (r_add rfl rfl rfl om) (wmI rfl ?_)))))
  refine x_nil (e_LS ((gr[a]'ha).ln.length - (j + 1)) om agA ?_)
  exact ⟨j + 1, o3, A3, cap3, vs3, by omega, rfl, rfl, ho3q, ho33, hB, hbO, hbM, hbG, hbV, ho, hrw, hP, hC, hA, hbz⟩
 have hjx : j = (gr[a]'ha).ln.length := by omega
 have hall : pthsJ gr m1 a j = pthsN gr (m1 + 1) a := pthsJ_all (by rw [nd_eq ha]; omega)
 rw [hall, ← hm1] at ho2
 refine c_exit (e_Sx (e_LSx (e_Bx (e_S (c_seq ?_)))))
 refine c_region (waB rfl (x_nil (e_S (c_ret (fin1 (.inl rfl) rfl rfl ?_)))))
 exact ⟨true, rfl, fun _ => by rw [ho2, List.length_append, behind_len] at ho32; exact ho32, fun h => (by cases h), o2, A2, cap2, vs2, fun _ => ho2, ho32, hbO, ho, hrw, hC, hA⟩
theorem pwalk_any {w0 : World} {G : Option Addr} {cg nf bO bM bG bV base most : Nat} {gr : List Nd} (hG : NodesIn w0 G gr) (hk : GOk2 nf gr) (hmo : most ≤ 40) (hlo : w0.heap.size ≤ base) (l0O : w0.heap.size ≤ bO) (_l0M : w0.heap.size ≤ bM) (_l0G : w0.heap.size ≤ bG) (_l0V : w0.heap.size ≤ bV) (nMO : bM ≠ bO) (nGO : bG ≠ bO) (nVO : bV ≠ bO) : ∀ (m : Nat) (p : List Int) (PA : Option Addr) (pc : Nat) (o : List (List Int)) (A : Option Addr) (cap : Nat) (vs : List Value) (w : World) (a : Nat), most - p.length ≤ m → p.length ≤ most → a < gr.length → o.length ≤ 300 → Bel w0 w → base ≤ w.heap.size → Blk w bO 39 #[.slice A (o).length cap] → Blk w bM 3 #[.int .i64 ((most : Nat) : Int)] → Blk w bG 28 #[.slice G gr.length cg] → Blk w bV 79 #[.func (.func 38) #[] #[.pointer (some ⟨bO, 0, none⟩), .pointer (some ⟨bM, 0, none⟩), .pointer (some ⟨bG, 0, none⟩), .pointer (some ⟨bV, 0, none⟩)]] → Own w base 43 1 A (o).length cap vs → RowsI 0 w (o) vs → PthIn 0 w PA p → p.length ≤ pc → Calls Tryd.prog 38 #[.int .i64 (a : Nat), .slice PA (p).length pc, .pointer (some ⟨bO, 0, none⟩), .pointer (some ⟨bM, 0, none⟩), .pointer (some ⟨bG, 0, none⟩), .pointer (some ⟨bV, 0, none⟩)] w fun e w' => ∃ b, e = .returned (.bool b) ∧ (b = true → (o).length + (pthsN gr (most - (p).length) a).length ≤ 300) ∧ (b = false → 300 < (o).length + (pthsN gr (most - (p).length) a).length) ∧ ∃ o' A' cap' vs', (b = true → o' = o ++ behind p (pthsN gr (most - (p).length) a)) ∧ o'.length ≤ 300 ∧ Blk w' bO 39 #[.slice A' o'.length cap'] ∧ Own w' base 43 1 A' o'.length cap' vs' ∧ RowsI 0 w' o' vs' ∧ ChG (ZP bO A) w w' ∧ ∀ g ∈ aL A', g ∈ aL A ∨ w.heap.size ≤ g := by
  intro m
  induction m with
  | zero => intro p PA pc o A cap vs w a hm hpm ha ho3 hB hbz h1 h2 h3 h4 h5 h6 hP hpc; exact pwalk_step hG hk hmo hlo l0O _l0M _l0G _l0V nMO nGO nVO hB hbz h1 h2 h3 h4 h5 h6 hP hpc hpm ho3 ha (fun t p2 PA2 pc2 o2 A2 cap2 vs2 w2 hl hl2 => by omega)
  | succ m ih => intro p PA pc o A cap vs w a hm hpm ha ho3 hB hbz h1 h2 h3 h4 h5 h6 hP hpc; exact pwalk_step hG hk hmo hlo l0O _l0M _l0G _l0V nMO nGO nVO hB hbz h1 h2 h3 h4 h5 h6 hP hpc hpm ho3 ha (fun t p2 PA2 pc2 o2 A2 cap2 vs2 w2 hl hl2 => ih p2 PA2 pc2 o2 A2 cap2 vs2 w2 t om hl2)
end Go.Proofs.YtegngekpmpdngaaDoor
