/- What these functions of the program compute, at every world: slices.Equal[[]glosswright/api.Link,glosswright/api.Link], glosswright/glosswrightequal.Nodes. What these functions of the program compute, at every world: slices.Clone[[]int,int], glosswright/glosswrightref3.visit. -/
import Derived.Test.YtegngekpmpdngaaDoorU
import Derived.Test.YtegngekpmpdngaaDoorCanon
namespace Go.Proofs.YtegngekpmpdngaaDoor
open Go.RowKit
theorem FrSame.then {B B0 : Nat} {w0 w1 w2 : World} (h : FrSame B w0 w1) (k : FrSame B0 w1 w2) (hb : B0 ≤ B) : FrSame B w0 w2 :=
  ⟨nLT h.size k.size, fun i hi hl => (k.blk i (nLT hb hi) (nLL hl h.size)).trans (h.blk i hi hl)⟩
theorem fd30 : (Tryd.prog.fieldsOf 30).toList.map (fun f => (f.name == "_", f.type, f.offset)) = [(false, 3, 0), (false, 3, 1)] := by kernel_rfl
theorem fn59 : callable Tryd.prog 59 = true := by kernel_rfl
theorem ft30 : Tryd.prog.underlying 30 = some (.struct (Tryd.prog.fieldsOf 30)) := by kernel_rfl
theorem leq_any (A B : Option Addr) (c d : Nat) (xs ys : List (Int × Int)) (w : World) (hX : LinksIn w A xs) (hY : LinksIn w B ys) : Calls Tryd.prog 59 #[.slice A xs.length c, .slice B ys.length d] w fun e w' => e = .returned (.bool (decide (xs = ys))) ∧ Bel w w' := by
 have hmx := hX.1
 unfold maxI at hmx
 refine enter Tryd.func59 Tryd.ntmps59 rfl (Nat.le_of_ble_eq_true rfl) ?_
 have hB : Bel w w := Below.refl _ _
 refine c_seq (c_region (waB rfl (x_nil (e_S (c_seq ?_)))))
 refine c_seq (c_region (wmS rfl (wl (r_len U31 rfl) (wmS rfl (wl (r_len U31 rfl) ?_)))))
 refine wl (r_neq rfl rfl) (x_nil (e_S ?_))
 refine c_ifd rfl (fun c10 => ?_) (fun c10 => ?_)
 ·
  refine c_seq (c_region (waB rfl (x_nil (e_S (c_ret ?_)))))
  refine e_Sr (fin1 (.inl rfl) rfl rfl ?_)
  exact ⟨ret_bool (decide_eq_false (fun h => c10 (by rw [h]))), hB⟩
 refine c_skip (e_S (c_seq (c_seq (c_region (wmS rfl ?_)))))
 refine wl (r_len U31 rfl) (wmI rfl (x_nil (e_S (c_block ?_))))
 refine c_loopS [4, 5, 13, 14, 15, 16, 17, 18, 19, 20, 21, 22, 23, 24, 25] (fun m g w' => ∃ k : Nat, k ≤ xs.length ∧ m = xs.length - k ∧ g 13 = .int .i64 k ∧ Bel w w' ∧ xs.take k = ys.take k) (xs.length) ?_ (fun m g4 w1 hI => ?_)
 ·
  exact ⟨0, Nat.zero_le _, rfl, rfl, hB, rfl⟩
 obtain ⟨k, hk, hm, h13, hB, hE⟩ := hI
 refine c_know 13 (.int .i64 k) h13 nu (c_seq (c_region (wl (r_lss rfl rfl) (x_nil (e_S ?_)))))
 refine c_seq ?_
 refine c_ifd rfl (fun c14 => ?_) (fun c14 => ?_)
 ·
  have hlt : k < xs.length := by omega
  have hly : k < ys.length := by omega
  obtain ⟨pb, po, rfl, hpb, hpc⟩ := hX.at_ (Below.refl _ _ : Bel w w) hlt
  obtain ⟨qb, qo, rfl, hqb, hqc⟩ := hY.at_ (Below.refl _ _ : Bel w w) hly
  refine c_skip (e_S (c_seq (c_block (c_seq (c_region ?_)))))
  refine wmI rfl (waI rfl (x_nil (e_S (c_seq ?_))))
  refine c_still kR kR (fun w2 hs => ?_)
  replace hB := hB.tr0 hs
  clear hs
  refine ws (r_mv (v := .slice _ _ _) rfl) (ws (r_mv (v := .int _ _) rfl) (ws (r_ia (i := k) U31 sz30 rfl rfl om rfl) (ws (r_ldS U30 rfl rfl (hB.range hpb hpc) sz30) (ws (r_mv (v := .slice _ _ _) rfl) (ws (r_mv (v := .int _ _) rfl) ?_)))))
  refine ws (r_ia (i := k) U31 sz30 rfl rfl om rfl) (ws (r_ldS U30 rfl rfl (hB.range hqb hqc) sz30) (ws (r_neF Tryd.eqGuardType30 ft30 Tryd.stoodInHeld30 fd30 U3 rfl rfl) (s_nil (e_S ?_))))
  refine c_ifd rfl (fun c24 => ?_) (fun c24 => ?_)
  ·
   refine c_seq (c_region (waB rfl (x_nil (e_S (c_ret ?_)))))
   refine e_Br (e_Sr (e_LSr (e_Br (e_Sr (fin1 (.inl rfl) rfl rfl ?_)))))
   exact ⟨ret_bool (decide_eq_false (fun h => c24 (by subst h; exact ⟨rfl, rfl⟩))), hB⟩
  refine c_skip (e_B (e_S (c_region (wl (r_add rfl rfl rfl om) (wmI rfl ?_)))))
  refine x_nil (e_LS (xs.length - (k + 1)) om agA ?_)
  have hx : xs[k]'hlt = ys[k]'hly := by
    have h := Decidable.not_not.1 c24
    exact Prod.ext h.1 h.2
  exact ⟨k + 1, by omega, rfl, rfl, hB, by rw [List.take_succ_eq_append_getElem hlt, List.take_succ_eq_append_getElem hly, hE, hx]⟩
 have hek : k = xs.length := by omega
 have hfin : xs = ys := by
   rw [hek] at hE
   have e2 : ys.take xs.length = ys := List.take_of_length_le om
   rw [List.take_length, e2] at hE; exact hE
 refine c_exit (e_Sx (e_LSx (e_Bx (e_S (c_seq ?_)))))
 refine c_region (waB rfl (x_nil (e_S (c_ret (fin1 (.inl rfl) rfl rfl ?_)))))
 exact ⟨ret_bool (decide_eq_true hfin), hB⟩
set_option maxHeartbeats 1000000 in
theorem nodes_any (A B : Option Addr) (c d : Nat) (ga gb : List Nd) (w : World) (hA : NodesIn w A ga) (hBn : NodesIn w B gb) : Calls Tryd.prog 24 #[.agg #[.slice A ga.length c], .agg #[.slice B gb.length d]] w fun e w' => e = .returned (.bool (decide (ga = gb))) ∧ Bel w w' := by
 have hmx := hA.1
 unfold maxI at hmx
 refine enter Tryd.func24 Tryd.ntmps24 rfl (Nat.le_of_ble_eq_true rfl) ?_
 have hB : Bel w w := Below.refl _ _
 refine c_seq (c_region ?_)
 refine wl_bx (v := .agg #[_]) (cs := #[_]) rfl rfl (fun b2 w1 hb2 hs hr => ?_)
 have lo2 := nLT (Bel.size hB) hr
 replace hB := hB.tr0 hs
 clear hs
 clear hr
 refine wl_bx (v := .agg #[_]) (cs := #[_]) rfl rfl (fun b3 w2 hb3 hs hr => ?_)
 have or_b2_b3 : b2 < b3 := nLL hb2.lt hr
 have lo3 := nLT (Bel.size hB) hr
 replace hB := hB.tr0 hs
 replace hb2 := hb2.tr0 hs
 clear hs
 clear hr
 refine waB rfl (x_nil (e_S (c_seq (c_seq (c_region ?_)))))
 refine wl (r_fa U28 sz26 dE rfl rfl rfl) (wl (r_ld1 (v := .slice _ _ _) U26 rfl rfl (hb2.cell rfl)) (wl (r_len U26 rfl) (wl (r_fa U28 sz26 dE rfl rfl rfl) (wl (r_ld1 (v := .slice _ _ _) U26 rfl rfl (hb3.cell rfl)) (wl (r_len U26 rfl) ?_)))))
 refine wl (r_neq rfl rfl) (x_nil (e_S ?_))
 refine c_ifd rfl (fun c12 => ?_) (fun c12 => ?_)
 ·
  refine c_seq (c_region (waB rfl (x_nil (e_S (c_ret ?_)))))
  refine e_Sr (fin1 (.inl rfl) rfl rfl ?_)
  exact ⟨ret_bool (decide_eq_false (fun h => c12 (by rw [h]))), hB⟩
 refine c_skip (e_S (c_seq (c_seq (c_region (wl (r_fa U28 sz26 dE rfl rfl rfl) ?_)))))
 refine wl (r_ld1 (v := .slice _ _ _) U26 rfl rfl (hb2.cell rfl)) (wl (r_len U26 rfl) (wmI rfl (x_nil (e_S (c_block ?_)))))
 refine c_loopS [4, 5, 16, 17, 18, 19, 20, 21, 22, 23, 24, 25, 26, 27, 28, 29, 30, 31, 32, 33, 34, 35, 36, 37, 38, 39, 40, 41, 42, 43, 44, 45, 46, 47, 48] (fun m g w' => ∃ k : Nat, k ≤ ga.length ∧ m = ga.length - k ∧ g 16 = .int .i64 k ∧ Bel w w' ∧ Blk w' b2 28 #[.slice A ga.length c] ∧ Blk w' b3 28 #[.slice B gb.length d] ∧ ga.take k = gb.take k) (ga.length) ?_ (fun m g4 w3 hI => ?_)
 ·
  exact ⟨0, Nat.zero_le _, rfl, rfl, hB, hb2, hb3, rfl⟩
 obtain ⟨k, hk, hm, h16, hB, hb2, hb3, hE⟩ := hI
 refine c_know 16 (.int .i64 k) h16 nu (c_seq (c_region (wl (r_lss rfl rfl) (x_nil (e_S ?_)))))
 refine c_seq ?_
 refine c_ifd rfl (fun c17 => ?_) (fun c17 => ?_)
 ·
  have hlt : k < ga.length := by omega
  have hly : k < gb.length := by omega
  obtain ⟨ab, ao, LA, la, rfl, hab, har, haln⟩ := hA.at_ (Below.refl _ _ : Bel w w) hlt
  obtain ⟨bb, bo, LB, lb, rfl, hbb, hbr, hbln⟩ := hBn.at_ (Below.refl _ _ : Bel w w) hly
  refine c_skip (e_S (c_seq (c_block (c_seq (c_region ?_)))))
  refine wmI rfl (waI rfl (x_nil (e_S (c_seq ?_))))
  refine c_monoGO 29 [19, 20, 21, 22, 23, 24, 25, 26, 27, 28, 29, 30, 31, 32, 33, 34, 35, 36, 37, 38, 39, 40, 41, 42, 43, 44, 45, 46, 47] (fun _ => false) (fun ix v wv => match ix with | 0 => v = .pointer (some ⟨b2, 0, none⟩) | 1 => v = .slice (some ⟨ab, ao, none⟩) ga.length c | 2 => v = .int .i64 k | 3 => v = .pointer (some ⟨ab, ao + k * 2, none⟩) | 4 => v = .pointer (some ⟨ab, ao + k * 2 + 0, none⟩) | 5 => v = .int .i64 (ga[k]'hlt).ty | 6 => v = .pointer (some ⟨b3, 0, none⟩) | 7 => v = .slice (some ⟨bb, bo, none⟩) gb.length d | 8 => v = .int .i64 k | 9 => v = .pointer (some ⟨bb, bo + k * 2, none⟩) | 10 => v = .pointer (some ⟨bb, bo + k * 2 + 0, none⟩) | 11 => v = .int .i64 (gb[k]'hly).ty | 12 => v = .bool (decide (¬ (ga[k]'hlt).ty = (gb[k]'hly).ty)) | 13 => v = .bool (decide (¬ (ga[k]'hlt).ty = (gb[k]'hly).ty)) | 14 => (((decide (¬ (ga[k]'hlt).ty = (gb[k]'hly).ty))) = false → v = .pointer (some ⟨b2, 0, none⟩)) ∧ (((decide (¬ (ga[k]'hlt).ty = (gb[k]'hly).ty))) = true → v = undef) | 15 => (((decide (¬ (ga[k]'hlt).ty = (gb[k]'hly).ty))) = false → v = .slice (some ⟨ab, ao, none⟩) ga.length c) ∧ (((decide (¬ (ga[k]'hlt).ty = (gb[k]'hly).ty))) = true → v = undef) | 16 => (((decide (¬ (ga[k]'hlt).ty = (gb[k]'hly).ty))) = false → v = .int .i64 k) ∧ (((decide (¬ (ga[k]'hlt).ty = (gb[k]'hly).ty))) = true → v = undef) | 17 => (((decide (¬ (ga[k]'hlt).ty = (gb[k]'hly).ty))) = false → v = .pointer (some ⟨ab, ao + k * 2, none⟩)) ∧ (((decide (¬ (ga[k]'hlt).ty = (gb[k]'hly).ty))) = true → v = undef) | 18 => (((decide (¬ (ga[k]'hlt).ty = (gb[k]'hly).ty))) = false → v = .pointer (some ⟨ab, ao + k * 2 + 1, none⟩)) ∧ (((decide (¬ (ga[k]'hlt).ty = (gb[k]'hly).ty))) = true → v = undef) | 19 => (((decide (¬ (ga[k]'hlt).ty = (gb[k]'hly).ty))) = false → v = .slice LA (ga[k]'hlt).ln.length la) ∧ (((decide (¬ (ga[k]'hlt).ty = (gb[k]'hly).ty))) = true → v = undef) | 20 => (((decide (¬ (ga[k]'hlt).ty = (gb[k]'hly).ty))) = false → v = .pointer (some ⟨b3, 0, none⟩)) ∧ (((decide (¬ (ga[k]'hlt).ty = (gb[k]'hly).ty))) = true → v = undef) | 21 => (((decide (¬ (ga[k]'hlt).ty = (gb[k]'hly).ty))) = false → v = .slice (some ⟨bb, bo, none⟩) gb.length d) ∧ (((decide (¬ (ga[k]'hlt).ty = (gb[k]'hly).ty))) = true → v = undef) | 22 => (((decide (¬ (ga[k]'hlt).ty = (gb[k]'hly).ty))) = false → v = .int .i64 k) ∧ (((decide (¬ (ga[k]'hlt).ty = (gb[k]'hly).ty))) = true → v = undef) | 23 => (((decide (¬ (ga[k]'hlt).ty = (gb[k]'hly).ty))) = false → v = .pointer (some ⟨bb, bo + k * 2, none⟩)) ∧ (((decide (¬ (ga[k]'hlt).ty = (gb[k]'hly).ty))) = true → v = undef) | 24 => (((decide (¬ (ga[k]'hlt).ty = (gb[k]'hly).ty))) = false → v = .pointer (some ⟨bb, bo + k * 2 + 1, none⟩)) ∧ (((decide (¬ (ga[k]'hlt).ty = (gb[k]'hly).ty))) = true → v = undef) | 25 => (((decide (¬ (ga[k]'hlt).ty = (gb[k]'hly).ty))) = false → v = .slice LB (gb[k]'hly).ln.length lb) ∧ (((decide (¬ (ga[k]'hlt).ty = (gb[k]'hly).ty))) = true → v = undef) | 26 => (((decide (¬ (ga[k]'hlt).ty = (gb[k]'hly).ty))) = false → v = .bool (decide ((ga[k]'hlt).ln = (gb[k]'hly).ln))) ∧ (((decide (¬ (ga[k]'hlt).ty = (gb[k]'hly).ty))) = true → v = undef) | 27 => (((decide (¬ (ga[k]'hlt).ty = (gb[k]'hly).ty))) = false → v = .bool (!decide ((ga[k]'hlt).ln = (gb[k]'hly).ln))) ∧ (((decide (¬ (ga[k]'hlt).ty = (gb[k]'hly).ty))) = true → v = undef) | 28 => v = .bool (decide (¬ (ga[k]'hlt).ty = (gb[k]'hly).ty) || !decide ((ga[k]'hlt).ln = (gb[k]'hly).ln)) | _ => True) kR kR ?_ ?_ ?_
  ·
   intro ix v wv wv2 h hs
   match ix, h with
   | 0, h => exact h
   | 1, h => exact h
   | 2, h => exact h
   | 3, h => exact h
   | 4, h => exact h
   | 5, h => exact h
   | 6, h => exact h
   | 7, h => exact h
   | 8, h => exact h
   | 9, h => exact h
   | 10, h => exact h
   | 11, h => exact h
   | 12, h => exact h
   | 13, h => exact h
   | 14, h => exact h
   | 15, h => exact h
   | 16, h => exact h
   | 17, h => exact h
   | 18, h => exact h
   | 19, h => exact h
   | 20, h => exact h
   | 21, h => exact h
   | 22, h => exact h
   | 23, h => exact h
   | 24, h => exact h
   | 25, h => exact h
   | 26, h => exact h
   | 27, h => exact h
   | 28, h => exact h
   | _ + 29, h => exact trivial
  ·
   intro ix o hix hoq gg wx hs hd hdis
   match ix, hix, hoq with
   | 0, _, hoq =>
    obtain rfl := sI hoq
    have hs0 := hs
    replace hb2 := hb2.tr0 hs
    clear hs
    refine ⟨fun _ => ?_, fun hw => Bool.noConfusion (show true = false from hw)⟩
    refine os_rv (r_fa U28 sz26 dE rfl rfl rfl) ⟨Same.refl _ _, ?_, frsh_no⟩
    exact rfl
   | 1, _, hoq =>
    obtain rfl := sI hoq
    have hs0 := hs
    replace hb2 := hb2.tr0 hs
    clear hs
    have d0 : gg 19 = .pointer (some ⟨b2, 0, none⟩) := hd 0 (dep_of kR)
    have e19 := d0
    refine ⟨fun _ => ?_, fun hw => Bool.noConfusion (show true = false from hw)⟩
    refine os_know 19 (.pointer (some ⟨b2, 0, none⟩)) e19 nu ?_
    refine os_rv (r_ld1 (v := .slice _ _ _) U26 rfl rfl (hb2.cell rfl)) ⟨Same.refl _ _, ?_, frsh_no⟩
    exact rfl
   | 2, _, hoq =>
    obtain rfl := sI hoq
    have hs0 := hs
    clear hs
    refine ⟨fun _ => ?_, fun hw => Bool.noConfusion (show true = false from hw)⟩
    refine os_rv (r_mv (v := .int _ _) rfl) ⟨Same.refl _ _, ?_, frsh_no⟩
    exact rfl
   | 3, _, hoq =>
    obtain rfl := sI hoq
    have hs0 := hs
    clear hs
    have d1 : gg 20 = .slice (some ⟨ab, ao, none⟩) ga.length c := hd 1 (dep_of kR)
    have e20 := d1
    have d2 : gg 21 = .int .i64 k := hd 2 (dep_of kR)
    have e21 := d2
    refine ⟨fun _ => ?_, fun hw => Bool.noConfusion (show true = false from hw)⟩
    refine os_know 20 (.slice (some ⟨ab, ao, none⟩) ga.length c) e20 nu (os_know 21 (.int .i64 k) e21 nu ?_)
    refine os_rv (r_ia (i := k) U26 sz33 rfl rfl om rfl) ⟨Same.refl _ _, ?_, frsh_no⟩
    exact rfl
   | 4, _, hoq =>
    obtain rfl := sI hoq
    have hs0 := hs
    clear hs
    have d3 : gg 22 = .pointer (some ⟨ab, ao + k * 2, none⟩) := hd 3 (dep_of kR)
    have e22 := d3
    refine ⟨fun _ => ?_, fun hw => Bool.noConfusion (show true = false from hw)⟩
    refine os_know 22 (.pointer (some ⟨ab, ao + k * 2, none⟩)) e22 nu ?_
    refine os_rv (r_fa U33 sz3_GLoose dE rfl rfl rfl) ⟨Same.refl _ _, ?_, frsh_no⟩
    exact rfl
   | 5, _, hoq =>
    obtain rfl := sI hoq
    have hs0 := hs
    replace hB := hB.tr0 hs
    clear hs
    have d4 : gg 23 = .pointer (some ⟨ab, ao + k * 2 + 0, none⟩) := hd 4 (dep_of kR)
    have e23 := d4
    refine ⟨fun _ => ?_, fun hw => Bool.noConfusion (show true = false from hw)⟩
    refine os_know 23 (.pointer (some ⟨ab, ao + k * 2 + 0, none⟩)) e23 nu ?_
    refine os_rv (r_ld1 (v := .int _ _) U3 rfl rfl (hB.cell hab (har 0 _ rfl))) ⟨Same.refl _ _, ?_, frsh_no⟩
    exact rfl
   | 6, _, hoq =>
    obtain rfl := sI hoq
    have hs0 := hs
    replace hb3 := hb3.tr0 hs
    clear hs
    refine ⟨fun _ => ?_, fun hw => Bool.noConfusion (show true = false from hw)⟩
    refine os_rv (r_fa U28 sz26 dE rfl rfl rfl) ⟨Same.refl _ _, ?_, frsh_no⟩
    exact rfl
   | 7, _, hoq =>
    obtain rfl := sI hoq
    have hs0 := hs
    replace hb3 := hb3.tr0 hs
    clear hs
    have d6 : gg 25 = .pointer (some ⟨b3, 0, none⟩) := hd 6 (dep_of kR)
    have e25 := d6
    refine ⟨fun _ => ?_, fun hw => Bool.noConfusion (show true = false from hw)⟩
    refine os_know 25 (.pointer (some ⟨b3, 0, none⟩)) e25 nu ?_
    refine os_rv (r_ld1 (v := .slice _ _ _) U26 rfl rfl (hb3.cell rfl)) ⟨Same.refl _ _, ?_, frsh_no⟩
    exact rfl
   | 8, _, hoq =>
    obtain rfl := sI hoq
    have hs0 := hs
    clear hs
    refine ⟨fun _ => ?_, fun hw => Bool.noConfusion (show true = false from hw)⟩
    refine os_rv (r_mv (v := .int _ _) rfl) ⟨Same.refl _ _, ?_, frsh_no⟩
    exact rfl
   | 9, _, hoq =>
    obtain rfl := sI hoq
    have hs0 := hs
    clear hs
    have d7 : gg 26 = .slice (some ⟨bb, bo, none⟩) gb.length d := hd 7 (dep_of kR)
    have e26 := d7
    have d8 : gg 27 = .int .i64 k := hd 8 (dep_of kR)
    have e27 := d8
    refine ⟨fun _ => ?_, fun hw => Bool.noConfusion (show true = false from hw)⟩
    refine os_know 26 (.slice (some ⟨bb, bo, none⟩) gb.length d) e26 nu (os_know 27 (.int .i64 k) e27 nu ?_)
    refine os_rv (r_ia (i := k) U26 sz33 rfl rfl om rfl) ⟨Same.refl _ _, ?_, frsh_no⟩
    exact rfl
   | 10, _, hoq =>
    obtain rfl := sI hoq
    have hs0 := hs
    clear hs
    have d9 : gg 28 = .pointer (some ⟨bb, bo + k * 2, none⟩) := hd 9 (dep_of kR)
    have e28 := d9
    refine ⟨fun _ => ?_, fun hw => Bool.noConfusion (show true = false from hw)⟩
    refine os_know 28 (.pointer (some ⟨bb, bo + k * 2, none⟩)) e28 nu ?_
    refine os_rv (r_fa U33 sz3_GLoose dE rfl rfl rfl) ⟨Same.refl _ _, ?_, frsh_no⟩
    exact rfl
   | 11, _, hoq =>
    obtain rfl := sI hoq
    have hs0 := hs
    replace hB := hB.tr0 hs
    clear hs
    have d10 : gg 29 = .pointer (some ⟨bb, bo + k * 2 + 0, none⟩) := hd 10 (dep_of kR)
    have e29 := d10
    refine ⟨fun _ => ?_, fun hw => Bool.noConfusion (show true = false from hw)⟩
    refine os_know 29 (.pointer (some ⟨bb, bo + k * 2 + 0, none⟩)) e29 nu ?_
    refine os_rv (r_ld1 (v := .int _ _) U3 rfl rfl (hB.cell hbb (hbr 0 _ rfl))) ⟨Same.refl _ _, ?_, frsh_no⟩
    exact rfl
   | 12, _, hoq =>
    obtain rfl := sI hoq
    have hs0 := hs
    clear hs
    have d5 : gg 24 = .int .i64 (ga[k]'hlt).ty := hd 5 (dep_of kR)
    have e24 := d5
    have d11 : gg 30 = .int .i64 (gb[k]'hly).ty := hd 11 (dep_of kR)
    have e30 := d11
    refine ⟨fun _ => ?_, fun hw => Bool.noConfusion (show true = false from hw)⟩
    refine os_know 24 (.int .i64 (ga[k]'hlt).ty) e24 nu (os_know 30 (.int .i64 (gb[k]'hly).ty) e30 nu ?_)
    refine os_rv (r_neq rfl rfl) ⟨Same.refl _ _, ?_, frsh_no⟩
    exact rfl
   | 13, _, hoq =>
    obtain rfl := sI hoq
    have hs0 := hs
    clear hs
    have d12 : gg 31 = .bool (decide (¬ (ga[k]'hlt).ty = (gb[k]'hly).ty)) := hd 12 (dep_of kR)
    have e31 := d12
    refine ⟨fun _ => ?_, fun hw => Bool.noConfusion (show true = false from hw)⟩
    refine os_know 31 (.bool (decide (¬ (ga[k]'hlt).ty = (gb[k]'hly).ty))) e31 nu ?_
    refine os_rv (r_mv (v := .bool _) rfl) ⟨Same.refl _ _, ?_, frsh_no⟩
    exact rfl
   | 14, _, hoq =>
    obtain rfl := sI hoq
    have hs0 := hs
    replace hb2 := hb2.tr0 hs
    clear hs
    have d13 : gg 32 = .bool (decide (¬ (ga[k]'hlt).ty = (gb[k]'hly).ty)) := hd 13 (dep_of kR)
    have e32 := d13
    refine guard_case 32 ((decide (¬ (ga[k]'hlt).ty = (gb[k]'hly).ty))) rfl e32 (fun hgc => ?_) (fun hgc => ⟨fun h => absurd (h.symm.trans hgc) dE, fun _ => rfl⟩)
    refine os_know 32 (.bool (decide (¬ (ga[k]'hlt).ty = (gb[k]'hly).ty))) e32 nu ?_
    refine os_rv (r_fa U28 sz26 dE rfl rfl rfl) ⟨Same.refl _ _, ?_, frsh_no⟩
    exact ⟨fun _ => rfl, fun h => absurd (h.symm.trans hgc) dE⟩
   | 15, _, hoq =>
    obtain rfl := sI hoq
    have hs0 := hs
    replace hb2 := hb2.tr0 hs
    clear hs
    have d13 : gg 32 = .bool (decide (¬ (ga[k]'hlt).ty = (gb[k]'hly).ty)) := hd 13 (dep_of kR)
    have e32 := d13
    have d14 : (((decide (¬ (ga[k]'hlt).ty = (gb[k]'hly).ty))) = false → gg 33 = .pointer (some ⟨b2, 0, none⟩)) ∧ (((decide (¬ (ga[k]'hlt).ty = (gb[k]'hly).ty))) = true → gg 33 = undef) := hd 14 (dep_of kR)
    refine guard_case 32 ((decide (¬ (ga[k]'hlt).ty = (gb[k]'hly).ty))) rfl e32 (fun hgc => ?_) (fun hgc => ⟨fun h => absurd (h.symm.trans hgc) dE, fun _ => rfl⟩)
    have e33 := d14.1 hgc
    refine os_know 32 (.bool (decide (¬ (ga[k]'hlt).ty = (gb[k]'hly).ty))) e32 nu (os_know 33 (.pointer (some ⟨b2, 0, none⟩)) e33 nu ?_)
    refine os_rv (r_ld1 (v := .slice _ _ _) U26 rfl rfl (hb2.cell rfl)) ⟨Same.refl _ _, ?_, frsh_no⟩
    exact ⟨fun _ => rfl, fun h => absurd (h.symm.trans hgc) dE⟩
   | 16, _, hoq =>
    obtain rfl := sI hoq
    have hs0 := hs
    clear hs
    have d13 : gg 32 = .bool (decide (¬ (ga[k]'hlt).ty = (gb[k]'hly).ty)) := hd 13 (dep_of kR)
    have e32 := d13
    refine guard_case 32 ((decide (¬ (ga[k]'hlt).ty = (gb[k]'hly).ty))) rfl e32 (fun hgc => ?_) (fun hgc => ⟨fun h => absurd (h.symm.trans hgc) dE, fun _ => rfl⟩)
    refine os_know 32 (.bool (decide (¬ (ga[k]'hlt).ty = (gb[k]'hly).ty))) e32 nu ?_
    refine os_rv (r_mv (v := .int _ _) rfl) ⟨Same.refl _ _, ?_, frsh_no⟩
    exact ⟨fun _ => rfl, fun h => absurd (h.symm.trans hgc) dE⟩
   | 17, _, hoq =>
    obtain rfl := sI hoq
    have hs0 := hs
    clear hs
    have d13 : gg 32 = .bool (decide (¬ (ga[k]'hlt).ty = (gb[k]'hly).ty)) := hd 13 (dep_of kR)
    have e32 := d13
    have d15 : (((decide (¬ (ga[k]'hlt).ty = (gb[k]'hly).ty))) = false → gg 34 = .slice (some ⟨ab, ao, none⟩) ga.length c) ∧ (((decide (¬ (ga[k]'hlt).ty = (gb[k]'hly).ty))) = true → gg 34 = undef) := hd 15 (dep_of kR)
    have d16 : (((decide (¬ (ga[k]'hlt).ty = (gb[k]'hly).ty))) = false → gg 35 = .int .i64 k) ∧ (((decide (¬ (ga[k]'hlt).ty = (gb[k]'hly).ty))) = true → gg 35 = undef) := hd 16 (dep_of kR)
    refine guard_case 32 ((decide (¬ (ga[k]'hlt).ty = (gb[k]'hly).ty))) rfl e32 (fun hgc => ?_) (fun hgc => ⟨fun h => absurd (h.symm.trans hgc) dE, fun _ => rfl⟩)
    have e34 := d15.1 hgc
    have e35 := d16.1 hgc
    refine os_know 32 (.bool (decide (¬ (ga[k]'hlt).ty = (gb[k]'hly).ty))) e32 nu (os_know 34 (.slice (some ⟨ab, ao, none⟩) ga.length c) e34 nu (os_know 35 (.int .i64 k) e35 nu ?_))
    refine os_rv (r_ia (i := k) U26 sz33 rfl rfl om rfl) ⟨Same.refl _ _, ?_, frsh_no⟩
    exact ⟨fun _ => rfl, fun h => absurd (h.symm.trans hgc) dE⟩
   | 18, _, hoq =>
    obtain rfl := sI hoq
    have hs0 := hs
    clear hs
    have d13 : gg 32 = .bool (decide (¬ (ga[k]'hlt).ty = (gb[k]'hly).ty)) := hd 13 (dep_of kR)
    have e32 := d13
    have d17 : (((decide (¬ (ga[k]'hlt).ty = (gb[k]'hly).ty))) = false → gg 36 = .pointer (some ⟨ab, ao + k * 2, none⟩)) ∧ (((decide (¬ (ga[k]'hlt).ty = (gb[k]'hly).ty))) = true → gg 36 = undef) := hd 17 (dep_of kR)
    refine guard_case 32 ((decide (¬ (ga[k]'hlt).ty = (gb[k]'hly).ty))) rfl e32 (fun hgc => ?_) (fun hgc => ⟨fun h => absurd (h.symm.trans hgc) dE, fun _ => rfl⟩)
    have e36 := d17.1 hgc
    refine os_know 32 (.bool (decide (¬ (ga[k]'hlt).ty = (gb[k]'hly).ty))) e32 nu (os_know 36 (.pointer (some ⟨ab, ao + k * 2, none⟩)) e36 nu ?_)
    refine os_rv (r_fa U33 sz31 dE rfl rfl rfl) ⟨Same.refl _ _, ?_, frsh_no⟩
    exact ⟨fun _ => rfl, fun h => absurd (h.symm.trans hgc) dE⟩
   | 19, _, hoq =>
    obtain rfl := sI hoq
    have hs0 := hs
    replace hB := hB.tr0 hs
    clear hs
    have d13 : gg 32 = .bool (decide (¬ (ga[k]'hlt).ty = (gb[k]'hly).ty)) := hd 13 (dep_of kR)
    have e32 := d13
    have d18 : (((decide (¬ (ga[k]'hlt).ty = (gb[k]'hly).ty))) = false → gg 37 = .pointer (some ⟨ab, ao + k * 2 + 1, none⟩)) ∧ (((decide (¬ (ga[k]'hlt).ty = (gb[k]'hly).ty))) = true → gg 37 = undef) := hd 18 (dep_of kR)
    refine guard_case 32 ((decide (¬ (ga[k]'hlt).ty = (gb[k]'hly).ty))) rfl e32 (fun hgc => ?_) (fun hgc => ⟨fun h => absurd (h.symm.trans hgc) dE, fun _ => rfl⟩)
    have e37 := d18.1 hgc
    refine os_know 32 (.bool (decide (¬ (ga[k]'hlt).ty = (gb[k]'hly).ty))) e32 nu (os_know 37 (.pointer (some ⟨ab, ao + k * 2 + 1, none⟩)) e37 nu ?_)
    refine os_rv (r_ld1 (v := .slice _ _ _) U31 rfl rfl (hB.cell hab (har 1 _ rfl))) ⟨Same.refl _ _, ?_, frsh_no⟩
    exact ⟨fun _ => rfl, fun h => absurd (h.symm.trans hgc) dE⟩
   | 20, _, hoq =>
    obtain rfl := sI hoq
    have hs0 := hs
    replace hb3 := hb3.tr0 hs
    clear hs
    have d13 : gg 32 = .bool (decide (¬ (ga[k]'hlt).ty = (gb[k]'hly).ty)) := hd 13 (dep_of kR)
    have e32 := d13
    refine guard_case 32 ((decide (¬ (ga[k]'hlt).ty = (gb[k]'hly).ty))) rfl e32 (fun hgc => ?_) (fun hgc => ⟨fun h => absurd (h.symm.trans hgc) dE, fun _ => rfl⟩)
    refine os_know 32 (.bool (decide (¬ (ga[k]'hlt).ty = (gb[k]'hly).ty))) e32 nu ?_
    refine os_rv (r_fa U28 sz26 dE rfl rfl rfl) ⟨Same.refl _ _, ?_, frsh_no⟩
    exact ⟨fun _ => rfl, fun h => absurd (h.symm.trans hgc) dE⟩
   | 21, _, hoq =>
    obtain rfl := sI hoq
    have hs0 := hs
    replace hb3 := hb3.tr0 hs
    clear hs
    have d13 : gg 32 = .bool (decide (¬ (ga[k]'hlt).ty = (gb[k]'hly).ty)) := hd 13 (dep_of kR)
    have e32 := d13
    have d20 : (((decide (¬ (ga[k]'hlt).ty = (gb[k]'hly).ty))) = false → gg 39 = .pointer (some ⟨b3, 0, none⟩)) ∧ (((decide (¬ (ga[k]'hlt).ty = (gb[k]'hly).ty))) = true → gg 39 = undef) := hd 20 (dep_of kR)
    refine guard_case 32 ((decide (¬ (ga[k]'hlt).ty = (gb[k]'hly).ty))) rfl e32 (fun hgc => ?_) (fun hgc => ⟨fun h => absurd (h.symm.trans hgc) dE, fun _ => rfl⟩)
    have e39 := d20.1 hgc
    refine os_know 32 (.bool (decide (¬ (ga[k]'hlt).ty = (gb[k]'hly).ty))) e32 nu (os_know 39 (.pointer (some ⟨b3, 0, none⟩)) e39 nu ?_)
    refine os_rv (r_ld1 (v := .slice _ _ _) U26 rfl rfl (hb3.cell rfl)) ⟨Same.refl _ _, ?_, frsh_no⟩
    exact ⟨fun _ => rfl, fun h => absurd (h.symm.trans hgc) dE⟩
   | 22, _, hoq =>
    obtain rfl := sI hoq
    have hs0 := hs
    clear hs
    have d13 : gg 32 = .bool (decide (¬ (ga[k]'hlt).ty = (gb[k]'hly).ty)) := hd 13 (dep_of kR)
    have e32 := d13
    refine guard_case 32 ((decide (¬ (ga[k]'hlt).ty = (gb[k]'hly).ty))) rfl e32 (fun hgc => ?_) (fun hgc => ⟨fun h => absurd (h.symm.trans hgc) dE, fun _ => rfl⟩)
    refine os_know 32 (.bool (decide (¬ (ga[k]'hlt).ty = (gb[k]'hly).ty))) e32 nu ?_
    refine os_rv (r_mv (v := .int _ _) rfl) ⟨Same.refl _ _, ?_, frsh_no⟩
    exact ⟨fun _ => rfl, fun h => absurd (h.symm.trans hgc) dE⟩
   | 23, _, hoq =>
    obtain rfl := sI hoq
    have hs0 := hs
    clear hs
    have d13 : gg 32 = .bool (decide (¬ (ga[k]'hlt).ty = (gb[k]'hly).ty)) := hd 13 (dep_of kR)
    have e32 := d13
    have d21 : (((decide (¬ (ga[k]'hlt).ty = (gb[k]'hly).ty))) = false → gg 40 = .slice (some ⟨bb, bo, none⟩) gb.length d) ∧ (((decide (¬ (ga[k]'hlt).ty = (gb[k]'hly).ty))) = true → gg 40 = undef) := hd 21 (dep_of kR)
    have d22 : (((decide (¬ (ga[k]'hlt).ty = (gb[k]'hly).ty))) = false → gg 41 = .int .i64 k) ∧ (((decide (¬ (ga[k]'hlt).ty = (gb[k]'hly).ty))) = true → gg 41 = undef) := hd 22 (dep_of kR)
    refine guard_case 32 ((decide (¬ (ga[k]'hlt).ty = (gb[k]'hly).ty))) rfl e32 (fun hgc => ?_) (fun hgc => ⟨fun h => absurd (h.symm.trans hgc) dE, fun _ => rfl⟩)
    have e40 := d21.1 hgc
    have e41 := d22.1 hgc
    refine os_know 32 (.bool (decide (¬ (ga[k]'hlt).ty = (gb[k]'hly).ty))) e32 nu (os_know 40 (.slice (some ⟨bb, bo, none⟩) gb.length d) e40 nu (os_know 41 (.int .i64 k) e41 nu ?_))
    refine os_rv (r_ia (i := k) U26 sz33 rfl rfl om rfl) ⟨Same.refl _ _, ?_, frsh_no⟩
    exact ⟨fun _ => rfl, fun h => absurd (h.symm.trans hgc) dE⟩
   | 24, _, hoq =>
    obtain rfl := sI hoq
    have hs0 := hs
    clear hs
    have d13 : gg 32 = .bool (decide (¬ (ga[k]'hlt).ty = (gb[k]'hly).ty)) := hd 13 (dep_of kR)
    have e32 := d13
    have d23 : (((decide (¬ (ga[k]'hlt).ty = (gb[k]'hly).ty))) = false → gg 42 = .pointer (some ⟨bb, bo + k * 2, none⟩)) ∧ (((decide (¬ (ga[k]'hlt).ty = (gb[k]'hly).ty))) = true → gg 42 = undef) := hd 23 (dep_of kR)
    refine guard_case 32 ((decide (¬ (ga[k]'hlt).ty = (gb[k]'hly).ty))) rfl e32 (fun hgc => ?_) (fun hgc => ⟨fun h => absurd (h.symm.trans hgc) dE, fun _ => rfl⟩)
    have e42 := d23.1 hgc
    refine os_know 32 (.bool (decide (¬ (ga[k]'hlt).ty = (gb[k]'hly).ty))) e32 nu (os_know 42 (.pointer (some ⟨bb, bo + k * 2, none⟩)) e42 nu ?_)
    refine os_rv (r_fa U33 sz31 dE rfl rfl rfl) ⟨Same.refl _ _, ?_, frsh_no⟩
    exact ⟨fun _ => rfl, fun h => absurd (h.symm.trans hgc) dE⟩
   | 25, _, hoq =>
    obtain rfl := sI hoq
    have hs0 := hs
    replace hB := hB.tr0 hs
    clear hs
    have d13 : gg 32 = .bool (decide (¬ (ga[k]'hlt).ty = (gb[k]'hly).ty)) := hd 13 (dep_of kR)
    have e32 := d13
    have d24 : (((decide (¬ (ga[k]'hlt).ty = (gb[k]'hly).ty))) = false → gg 43 = .pointer (some ⟨bb, bo + k * 2 + 1, none⟩)) ∧ (((decide (¬ (ga[k]'hlt).ty = (gb[k]'hly).ty))) = true → gg 43 = undef) := hd 24 (dep_of kR)
    refine guard_case 32 ((decide (¬ (ga[k]'hlt).ty = (gb[k]'hly).ty))) rfl e32 (fun hgc => ?_) (fun hgc => ⟨fun h => absurd (h.symm.trans hgc) dE, fun _ => rfl⟩)
    have e43 := d24.1 hgc
    refine os_know 32 (.bool (decide (¬ (ga[k]'hlt).ty = (gb[k]'hly).ty))) e32 nu (os_know 43 (.pointer (some ⟨bb, bo + k * 2 + 1, none⟩)) e43 nu ?_)
    refine os_rv (r_ld1 (v := .slice _ _ _) U31 rfl rfl (hB.cell hbb (hbr 1 _ rfl))) ⟨Same.refl _ _, ?_, frsh_no⟩
    exact ⟨fun _ => rfl, fun h => absurd (h.symm.trans hgc) dE⟩
   | 26, _, hoq =>
    obtain rfl := sI hoq
    have hs0 := hs
    replace hB := hB.tr0 hs
    clear hs
    have d13 : gg 32 = .bool (decide (¬ (ga[k]'hlt).ty = (gb[k]'hly).ty)) := hd 13 (dep_of kR)
    have e32 := d13
    have d19 : (((decide (¬ (ga[k]'hlt).ty = (gb[k]'hly).ty))) = false → gg 38 = .slice LA (ga[k]'hlt).ln.length la) ∧ (((decide (¬ (ga[k]'hlt).ty = (gb[k]'hly).ty))) = true → gg 38 = undef) := hd 19 (dep_of kR)
    have d25 : (((decide (¬ (ga[k]'hlt).ty = (gb[k]'hly).ty))) = false → gg 44 = .slice LB (gb[k]'hly).ln.length lb) ∧ (((decide (¬ (ga[k]'hlt).ty = (gb[k]'hly).ty))) = true → gg 44 = undef) := hd 25 (dep_of kR)
    refine guard_case 32 ((decide (¬ (ga[k]'hlt).ty = (gb[k]'hly).ty))) rfl e32 (fun hgc => ?_) (fun hgc => ⟨fun h => absurd (h.symm.trans hgc) dE, fun _ => rfl⟩)
    have e38 := d19.1 hgc
    have e44 := d25.1 hgc
    refine os_know 32 (.bool (decide (¬ (ga[k]'hlt).ty = (gb[k]'hly).ty))) e32 nu (os_know 38 (.slice LA (ga[k]'hlt).ln.length la) e38 nu (os_know 44 (.slice LB (gb[k]'hly).ln.length lb) e44 nu ?_))
    refine os_cl fn59 (leq_any _ _ _ _ _ _ wx (haln.mono hB) (hbln.mono hB)) rfl (fun e' w2 hr => ?_)
    obtain ⟨rfl, hs⟩ := hr
    exact ⟨_, rfl, Same.of_bel hs, ⟨fun _ => rfl, fun h => absurd (h.symm.trans hgc) dE⟩, frsh_no⟩
   | 27, _, hoq =>
    obtain rfl := sI hoq
    have hs0 := hs
    clear hs
    have d13 : gg 32 = .bool (decide (¬ (ga[k]'hlt).ty = (gb[k]'hly).ty)) := hd 13 (dep_of kR)
    have e32 := d13
    have d26 : (((decide (¬ (ga[k]'hlt).ty = (gb[k]'hly).ty))) = false → gg 45 = .bool (decide ((ga[k]'hlt).ln = (gb[k]'hly).ln))) ∧ (((decide (¬ (ga[k]'hlt).ty = (gb[k]'hly).ty))) = true → gg 45 = undef) := hd 26 (dep_of kR)
    refine guard_case 32 ((decide (¬ (ga[k]'hlt).ty = (gb[k]'hly).ty))) rfl e32 (fun hgc => ?_) (fun hgc => ⟨fun h => absurd (h.symm.trans hgc) dE, fun _ => rfl⟩)
    have e45 := d26.1 hgc
    refine os_know 32 (.bool (decide (¬ (ga[k]'hlt).ty = (gb[k]'hly).ty))) e32 nu (os_know 45 (.bool (decide ((ga[k]'hlt).ln = (gb[k]'hly).ln))) e45 nu ?_)
    refine os_rv (r_not rfl) ⟨Same.refl _ _, ?_, frsh_no⟩
    exact ⟨fun _ => rfl, fun h => absurd (h.symm.trans hgc) dE⟩
   | 28, _, hoq =>
    obtain rfl := sI hoq
    have hs0 := hs
    clear hs
    have d13 : gg 32 = .bool (decide (¬ (ga[k]'hlt).ty = (gb[k]'hly).ty)) := hd 13 (dep_of kR)
    have e32 := d13
    have d27 : (((decide (¬ (ga[k]'hlt).ty = (gb[k]'hly).ty))) = false → gg 46 = .bool (!decide ((ga[k]'hlt).ln = (gb[k]'hly).ln))) ∧ (((decide (¬ (ga[k]'hlt).ty = (gb[k]'hly).ty))) = true → gg 46 = undef) := hd 27 (dep_of kR)
    refine ⟨fun _ => ?_, fun hw => Bool.noConfusion (show true = false from hw)⟩
    cases hcc : (decide (¬ (ga[k]'hlt).ty = (gb[k]'hly).ty)) with
    | true =>
     rw [hcc] at e32
     refine os_know 32 (.bool true) e32 nu ?_
     refine os_rv (r_pt (v := .bool _) rfl rfl) ⟨Same.refl _ _, ?_, frsh_no⟩
     exact rfl
    | false =>
     have e46 := d27.1 hcc
     rw [hcc] at e32
     refine os_know 32 (.bool false) e32 nu (os_know 46 (.bool (!decide ((ga[k]'hlt).ln = (gb[k]'hly).ln))) e46 nu ?_)
     refine os_rv (r_pf (v := .bool _) rfl rfl) ⟨Same.refl _ _, ?_, frsh_no⟩
     exact rfl
   | _ + 29, hix, _ => exact absurd hix om
  intro gg w4 hs hR hdis
  have hs0 := hs
  replace hB := hB.tr0 hs
  replace hb2 := hb2.tr0 hs
  replace hb3 := hb3.tr0 hs
  clear hs
  have d28 : gg 47 = .bool (decide (¬ (ga[k]'hlt).ty = (gb[k]'hly).ty) || !decide ((ga[k]'hlt).ln = (gb[k]'hly).ln)) := hR 28 dE
  have e47 := d28
  refine wl_know 47 (.bool (decide (¬ (ga[k]'hlt).ty = (gb[k]'hly).ty) || !decide ((ga[k]'hlt).ln = (gb[k]'hly).ln))) e47 nu (x_nil (e_S ?_))
  refine c_if rfl (fun c47 => ?_) (fun c47 => ?_)
  ·
   refine c_seq (c_region (waB rfl (x_nil (e_S (c_ret ?_)))))
   refine e_Br (e_Sr (e_LSr (e_Br (e_Sr (fin1 (.inl rfl) rfl rfl ?_)))))
   exact ⟨ret_bool (decide_eq_false (fun h => by
     subst h
     simp at c47)), hB⟩
  have hx : ga[k]'hlt = gb[k]'hly := by
    simp only [Bool.or_eq_false_iff, decide_eq_false_iff_not, Bool.not_eq_false', decide_eq_true_eq] at c47
    exact nd_ext (Decidable.not_not.1 c47.1) c47.2
  refine c_skip (e_B (e_S (c_region (wl (r_add rfl rfl rfl om) (wmI rfl ?_)))))
  refine x_nil (e_LS (ga.length - (k + 1)) om agA ?_)
  exact ⟨k + 1, by omega, rfl, rfl, hB, hb2, hb3, by rw [List.take_succ_eq_append_getElem hlt, List.take_succ_eq_append_getElem hly, hE, hx]⟩
 have hek : k = ga.length := by omega
 have hfin : ga = gb := by
   rw [hek] at hE
   have e2 : gb.take ga.length = gb := List.take_of_length_le om
   rw [List.take_length, e2] at hE; exact hE
 refine c_exit (e_Sx (e_LSx (e_Bx (e_S (c_seq ?_)))))
 refine c_region (waB rfl (x_nil (e_S (c_ret (fin1 (.inl rfl) rfl rfl ?_)))))
 exact ⟨ret_bool (decide_eq_true hfin), hB⟩
end Go.Proofs.YtegngekpmpdngaaDoor
namespace Go.Proofs.YtegngekpmpdngaaDoor
open Go.RowKit
theorem fn105 : callable Tryd.prog 105 = true := by kernel_rfl
theorem fn39 : callable Tryd.prog 39 = true := by kernel_rfl
theorem clone_any (A : Option Addr) (c bn bd : Nat) (o : List Nat) (w : World) (hO : OrdF w bn bd A o) (hl : o.length ≤ 1000000) : Calls Tryd.prog 39 #[.slice A o.length c] w fun e w' => (∃ A' cap', e = .returned (.slice A' o.length cap') ∧ Own w' w.heap.size 3 1 A' o.length cap' (oV o)) ∧ Bel w w' := by
 refine enter Tryd.func39 Tryd.ntmps39 rfl (Nat.le_of_ble_eq_true rfl) ?_
 have hB : Bel w w := Below.refl _ _
 refine c_seq (c_region (waS rfl (x_nil (e_S (c_seq ?_)))))
 refine c_seq (c_region (wmS rfl (wl (r_eqlNil U43 rfl rfl) (x_nil (e_S ?_)))))
 refine c_if rfl (fun c4 => ?_) (fun c4 => ?_)
 ·
  have hn : o = [] := by
    rcases hO with h | ⟨_, b, h, _⟩
    · exact h.1
    · rw [h] at c4; cases c4
  subst hn
  refine c_seq (c_region (waS rfl (x_nil (e_S (c_ret ?_)))))
  refine e_Sr (fin1 (.inl rfl) rfl rfl ?_)
  exact ⟨⟨none, 0, rfl, Own.nil _ _ _ _⟩, hB⟩
 obtain ⟨hne, b, rfl, hbn, hbd, hbl, hc⟩ : o ≠ [] ∧ ∃ b, A = some ⟨b, 0, none⟩ ∧ b ≠ bn ∧ b < bd ∧ b < w.heap.size ∧ ∀ k (hk : k < o.length), w.cell? ⟨b, 0 + k, none⟩ = some (.int .i64 (o[k] : Nat)) := by
   rcases hO with h | h
   · rw [h.2] at c4; cases c4
   · exact h
 have hpos := List.length_pos_iff.2 hne
 refine c_skip (e_S (c_seq (c_region ?_)))
 refine wl_bs0 U43 sz3_GLoose (fun b5 w1 hb5 hs hr => ?_)
 have lo5 := nLT (Bel.size hB) hr
 replace hB := hB.tr0 hs
 clear hs
 clear hr
 refine wmS rfl ?_
 have hown := own_blk (sz := 1) (m := 0) hb5 (Nat.le_refl b5) rfl dE
 refine wl_appC (b := b) (o' := 0) (news := oV o) U43 in3 rfl dE hown rfl rfl (fun j u hj => ?_) (by simp [oV]) (by simp [oV, List.all_eq_true]; intros; rfl) hpos om om (Nat.le_of_lt hb5.lt) (fun g7 cap7 w9 ho7 hs hg => ?_)
 · simp only [oV, List.getElem?_map, Option.map_eq_some_iff] at hj
   obtain ⟨x, hx, rfl⟩ := hj
   obtain ⟨hk, rfl⟩ := List.getElem?_eq_some_iff.1 hx
   exact hB.cell hbl (hc j hk)
 have hB9 : Bel w w9 := hB.tr hs (fun g hg => by cases List.mem_singleton.1 hg; exact lo5)
 refine waS rfl (x_nil (e_S (c_ret (fin1 (.inl rfl) rfl rfl ?_))))
 refine ⟨⟨some ⟨g7, 0, none⟩, cap7, ?_, ?_⟩, hB9⟩
 · show Ending.returned (.slice _ (0 + o.length) _) = _
   rw [Nat.zero_add]
 · have h := ho7.low lo5
   rw [Nat.zero_add] at h
   exact h
set_option maxHeartbeats 2000000 in
theorem visit2_step {w0 : World} {G : Option Addr} {cg nf bn : Nat} {gr : List Nd} (hG : NodesIn w0 G gr) (hk : GOk2 nf gr) (l0n : w0.heap.size ≤ bn) {o : List Nat} {A : Option Addr} {cap : Nat} {w : World} (hB : Bel w0 w) (hok : OOk gr.length o) (hbn : Blk w bn 3 (row gr.length (fun x => .int .i64 (numO o x)))) (hO : OrdF w bn w.heap.size A o) {i : Nat} (hin : i < gr.length) (IH : ∀ (t : Nat) (o2 : List Nat) (A2 : Option Addr) (cap2 : Nat) (w2 : World), lackN gr.length (memB o2) < lackN gr.length (memB o) → t < gr.length → Bel w0 w2 → OOk gr.length o2 → Blk w2 bn 3 (row gr.length (fun x => .int .i64 (numO o2 x))) → OrdF w2 bn w2.heap.size A2 o2 → Calls Tryd.prog 105 #[.agg #[.slice G gr.length cg], .int .i64 (t : Nat), .slice (some ⟨bn, 0, none⟩) gr.length gr.length, .slice A2 (o2).length cap2] w2 fun e w' => ∃ o' A' cap', DL gr [t] o2 o' ∧ e = .returned (.slice A' o'.length cap') ∧ Blk w' bn 3 (row gr.length (fun x => .int .i64 (numO o' x))) ∧ OrdF w' bn w'.heap.size A' o' ∧ Same [bn] w2 w') : Calls Tryd.prog 105 #[.agg #[.slice G gr.length cg], .int .i64 (i : Nat), .slice (some ⟨bn, 0, none⟩) gr.length gr.length, .slice A (o).length cap] w fun e w' => ∃ o' A' cap', DL gr [i] o o' ∧ e = .returned (.slice A' o'.length cap') ∧ Blk w' bn 3 (row gr.length (fun x => .int .i64 (numO o' x))) ∧ OrdF w' bn w'.heap.size A' o' ∧ Same [bn] w w' := by
 have hSm : Same [bn] w w ∧ w.heap.size ≤ w.heap.size := ⟨Same.refl _ _, Nat.le_refl _⟩
 obtain ⟨bd, hbde⟩ : ∃ b, b = w.heap.size := ⟨_, rfl⟩
 rw [← hbde] at hO
 have hbd : bd ≤ w.heap.size := Nat.le_of_eq hbde
 have hn6 := hk.le
 have hrg := succ_rng2 hk
 have hol := hok.cnt
 have hnl := hbn.lt
 refine enter Tryd.func105 Tryd.ntmps105 rfl (Nat.le_of_ble_eq_true rfl) (c_seq (c_region ?_))
 refine wl_bx (v := .agg #[_]) (cs := #[_]) rfl rfl (fun b4 w1 hb4 hs hr => ?_)
 have or_bn_b4 : bn < b4 := nLL hbn.lt hr
 have or_hSm_b4 := (nLT hSm.2 hr)
 have or_hbd_b4 := (nLT hbd hr)
 have lo4 := nLT (Bel.size hB) hr
 replace hB := hB.tr0 hs
 replace hbn := hbn.tr0 hs
 replace hO := hO.tr hs (by simp)
 replace hSm := And.intro (hSm.1.freshL hs (by simp)) (nLT hSm.2 (Same.size hs))
 replace hbd := nLT hbd (Same.size hs)
 clear hs
 clear hr
 refine waS rfl (x_nil (e_S (c_seq (c_seq (c_region ?_)))))
 refine wmS rfl (wmI rfl (wl (r_ia (i := i) U43 sz3_GLoose rfl rfl hin rfl) (wl (r_ld1 (v := .int _ _) U3 rfl rfl (hbn.cell (row_get hin))) (wl (r_geq rfl rfl) (x_nil ?_)))))
 refine e_S ?_
 refine c_ifd rfl (fun c15 => ?_) (fun c15 => ?_)
 ·
  refine c_seq (c_region (wmS rfl (waS rfl (x_nil (e_S ?_)))))
  refine c_ret (e_Sr (fin1 (.inl rfl) rfl rfl ?_))
  exact ⟨o, A, cap, .old (numO_pos c15) .nil, rfl, hbn, hO.up hbd, hSm.1⟩
 have hni := numO_neg c15
 have hok2 := hok.snoc hin hni
 have hol2 := hok2.cnt
 refine c_skip (e_S (c_seq (c_region (wmS rfl (wmI rfl ?_)))))
 refine wmS rfl (wl (r_len U43 rfl) (wl (r_ia (i := i) U43 sz3_GLoose rfl rfl hin rfl) ?_))
 refine wl_st1 (v := .int _ _) hbn rfl rfl sz3_GLoose (by rw [row_size]; omega) rfl row_set (fun w2 hq hs => ?_)
 replace hB := hB.tr1 hs l0n
 replace hO := hO.tr hs (fun g hg => by have h1 := List.mem_singleton.1 hg; omega)
 replace hSm := And.intro (hSm.1.freshL hs (fun g hg => by have h1 := List.mem_singleton.1 hg; first | (left; rw [h1]; simp; done) | (right; omega))) (nLT hSm.2 (Same.size hs))
 replace hbd := nLT hbd (Same.size hs)
 replace hb4 := hb4.tr1 hs om
 clear hs
 replace hbn := hq
 rw [row_num hni] at hbn
 refine x_nil (e_S (c_seq ?_))
 obtain ⟨bq, hbq⟩ : ∃ b, b = w2.heap.size := ⟨_, rfl⟩
 have hqz : bq ≤ w2.heap.size := Nat.le_of_eq hbq
 have lq4 : b4 < bq := by rw [hbq]; exact hb4.lt
 have lqn : bn < bq := by rw [hbq]; exact hbn.lt
 have hbd0 : bd ≤ bq := by rw [hbq]; exact hbd
 have hSz : w.heap.size ≤ bq := by rw [hbq]; exact hSm.2
 have hB0 : w0.heap.size ≤ bq := by rw [hbq]; exact Bel.size hB
 refine c_region (wmS rfl ?_)
 refine wl_cl fn39 (clone_any _ _ _ _ o _ hO om) rfl (fun e' w3 hr => ?_)
 obtain ⟨⟨AC, capC, rfl, hoC⟩, hs⟩ := hr
 replace hs := Same.of_bel hs
 replace hB := hB.tr0 hs
 replace hbn := hbn.tr0 hs
 replace hO := hO.tr hs (by simp)
 replace hSm := And.intro (hSm.1.freshL hs (by simp)) (nLT hSm.2 (Same.size hs))
 replace hbd := nLT hbd (Same.size hs)
 replace hb4 := hb4.tr0 hs
 replace hqz := nLT hqz (Same.size hs)
 clear hs
 rw [← hbq] at hoC
 refine ⟨_, rfl, ?_⟩
 refine wmI rfl ?_
 refine wl_bs (cs := #[_]) [(0, .int _ _)] rfl U43 sz3_GLoose ze3_GUnr dE dE kR rfl (fun b25 w4 hb25 hs hr => ?_)
 have or_bn_b25 : bn < b25 := nLL hbn.lt hr
 have or_hSm_b25 := (nLT hSm.2 hr)
 have or_hbd_b25 := (nLT hbd hr)
 have or_b4_b25 : b4 < b25 := nLL hb4.lt hr
 have or_hoC_b25 := fun g hg => nLL (hoC.lt g hg).2 hr
 have lo25 := nLT (Bel.size hB) hr
 replace hB := hB.tr0 hs
 replace hbn := hbn.tr0 hs
 replace hO := hO.tr hs (by simp)
 replace hSm := And.intro (hSm.1.freshL hs (by simp)) (nLT hSm.2 (Same.size hs))
 replace hbd := nLT hbd (Same.size hs)
 replace hb4 := hb4.tr0 hs
 replace hqz := nLT hqz (Same.size hs)
 replace hoC := hoC.tr0 hs
 clear hs
 clear hr
 refine wl_app U43 in3 rfl dE hoC hb25 rfl rfl rfl oneA dE om om hqz (fun g26 cap26 w5 ho26 hs hg => ?_)
 have ne_ho26_bn : g26 ≠ bn := fun e => by
  have hl := hbn.lt
  rcases hg with hg | hg
  · have h1 := hoC.lt g26 (by rw [hg]; exact List.mem_singleton.2 rfl)
    (try have := or_hoC_bn g26 (by rw [hg]; exact List.mem_singleton.2 rfl)); omega
  · omega
 have ne_ho26_b4 : g26 ≠ b4 := fun e => by
  have hl := hb4.lt
  rcases hg with hg | hg
  · have h1 := hoC.lt g26 (by rw [hg]; exact List.mem_singleton.2 rfl)
    (try have := or_hoC_b4 g26 (by rw [hg]; exact List.mem_singleton.2 rfl)); omega
  · omega
 replace hB := hB.tr hs (fun g hg => nLT hB0 (hoC.lt g hg).1)
 replace hbn := hbn.tr hs (fun hx => by have := (hoC.lt _ hx).1; (try have := or_hoC_bn _ hx); omega)
 replace hSm := And.intro (hSm.1.freshL hs (fun g hg => .inr (by have := ((hoC).lt g hg).1; omega))) (nLT hSm.2 (Same.size hs))
 replace hb4 := hb4.tr hs (fun hx => by have := (hoC.lt _ hx).1; (try have := or_hoC_b4 _ hx); omega)
 have hO2 := ord_own ho26 lqn
 obtain ⟨be, hbe⟩ : ∃ b, b = w5.heap.size := ⟨_, rfl⟩
 rw [← hbe] at hO2
 have hbe2 : be ≤ w5.heap.size := Nat.le_of_eq hbe
 refine waS rfl (x_nil (e_S (c_seq (c_seq ?_))))
 obtain ⟨nb, no, LA, lc, rfl, hnb, hnr, hln⟩ := hG.at_ hB hin
 have hmx := hln.1
 unfold maxI at hmx
 refine c_region (wl (r_fa U28 sz26 dE rfl rfl rfl) (wl (r_ld1 (v := .slice _ _ _) U26 rfl rfl (hb4.cell rfl)) (wmI rfl (wl (r_ia (i := i) U26 sz33 rfl rfl hin rfl) (wl (r_fa U33 sz31 dE rfl rfl rfl) ?_)))))
 refine wl (r_ld1 (v := .slice _ _ _) U31 rfl rfl (hnr 1 _ rfl)) (wl (r_len U31 rfl) (wmI rfl (x_nil (e_S (c_block ?_)))))
 refine c_loopS [3, 10, 34, 35, 36, 37, 38, 39, 40, 41, 42, 43, 44] (fun m g w' => ∃ (j : Nat) (o2 : List Nat) (A2 : Option Addr) (cap2 : Nat), j ≤ (gr[i]'hin).ln.length ∧ m = (gr[i]'hin).ln.length - j ∧ g 34 = .int .i64 j ∧ g 3 = .slice A2 o2.length cap2 ∧ DL gr ((succN gr i).take j) (o ++ [i]) o2 ∧ Bel w0 w' ∧ Blk w' b4 28 #[.slice (some ⟨nb, no, none⟩) gr.length cg] ∧ Blk w' bn 3 (row gr.length (fun x => .int .i64 (numO o2 x))) ∧ OrdF w' bn w'.heap.size A2 o2 ∧ (Same [bn] w w' ∧ w.heap.size ≤ w'.heap.size)) ((gr[i]'hin).ln.length) ?_ (fun m g6 w6 hI => ?_)
 ·
  exact ⟨0, _, _, _, Nat.zero_le _, rfl, rfl, sl_oV _ _ _ _, .nil, hB, hb4, hbn, hO2.up hbe2, hSm⟩
 obtain ⟨j, o2, A2, cap2, hj, hm, h34, h3, hD, hB, hb4, hbn, hO, hSm⟩ := hI
 obtain ⟨bd, hbde⟩ : ∃ b, b = w6.heap.size := ⟨_, rfl⟩
 rw [← hbde] at hO
 have hbd : bd ≤ w6.heap.size := Nat.le_of_eq hbde
 have hnl := hbn.lt
 refine c_know 34 (.int .i64 j) h34 nu (c_know 3 (.slice A2 o2.length cap2) h3 nu (c_seq (c_region (wl (r_lss rfl rfl) (x_nil ?_)))))
 refine e_S (c_seq ?_)
 refine c_ifd rfl (fun c35 => ?_) (fun c35 => ?_)
 ·
  have hjl : j < (gr[i]'hin).ln.length := by omega
  obtain ⟨lb, lof, rfl, hlb, hlr⟩ := hln.at_ hB hjl
  obtain ⟨t, ht, htl⟩ : ∃ t : Nat, ((gr[i]'hin).ln[j]'hjl).2 = (t : Int) ∧ t < gr.length := by
    have h1 := hk.ln i hin _ (List.getElem_mem hjl)
    exact ⟨(((gr[i]'hin).ln[j]'hjl).2).toNat, by omega, by omega⟩
  obtain ⟨hok3, s3, hs3⟩ := hD.ok hrg (fun x hx => hrg i hin x (List.mem_of_mem_take hx)) hok2
  have hlk : lackN gr.length (memB o2) < lackN gr.length (memB o) := by
    rw [hs3]; exact Nat.lt_of_le_of_lt (lack_more _ _ _) (lack_snoc hin hni)
  refine c_skip (e_S (c_seq (c_block (c_seq (c_region ?_)))))
  refine wl (r_ia (i := j) U31 sz30 rfl rfl om rfl) (wl (r_ldS U30 rfl rfl hlr sz30) ?_)
  refine wl_al (cs := #[.int .i64 0, .int .i64 0]) ze30 rfl (fun b10 w7 hb10 hs hr => ?_)
  have or_bn_b10 : bn < b10 := nLL hbn.lt hr
  have or_hSm_b10 := (nLT hSm.2 hr)
  have or_b4_b10 : b4 < b10 := nLL hb4.lt hr
  have or_hbd_b10 := (nLT hbd hr)
  have lo10 := nLT (Bel.size hB) hr
  replace hB := hB.tr0 hs
  replace hbn := hbn.tr0 hs
  replace hSm := And.intro (hSm.1.freshL hs (by simp)) (nLT hSm.2 (Same.size hs))
  replace hb4 := hb4.tr0 hs
  replace hO := hO.tr hs (by simp)
  replace hbd := nLT hbd (Same.size hs)
  clear hs
  clear hr
  refine wl_stW hb10 rfl rfl sz30 rfl oneA (fun w8 hq hs => ?_)
  replace hB := hB.tr1 hs lo10
  replace hbn := hbn.tr1 hs om
  replace hSm := And.intro (hSm.1.freshL hs (fun g hg => by have h1 := List.mem_singleton.1 hg; first | (left; rw [h1]; simp; done) | (right; omega))) (nLT hSm.2 (Same.size hs))
  replace hb4 := hb4.tr1 hs om
  replace hO := hO.tr hs (fun g hg => by have h1 := List.mem_singleton.1 hg; omega)
  replace hbd := nLT hbd (Same.size hs)
  clear hs
  replace hb10 := hq
  refine x_nil (e_S ?_)
  rw [ht] at hb10
  refine c_region (wl (r_ldS U28 rfl rfl hb4.range0 sz28) (wl (r_fa U30 sz3_GLoose dE rfl rfl rfl) (wl (r_ld1 (v := .int _ _) U3 rfl rfl (hb10.cell rfl)) (wmS rfl (wmS rfl ?_)))))
  have lb4 := hb4.lt
  have hO4 := hO.up hbd
  have or_b4 : b4 ≠ bn := fun e => absurd (blk_type (e ▸ hb4) hbn) dE
  refine wl_cl fn105 (IH t o2 A2 cap2 _ hlk htl hB hok3 hbn hO4) rfl (fun e' w9 hr => ?_)
  obtain ⟨o3, A3, cap3, hD3, rfl, hbn3, hO3, hS3⟩ := hr
  replace hB := hB.tr hS3 (by simpa using l0n)
  replace hb4 := hb4.tr hS3 (by simpa using or_b4)
  replace hbn := hbn3
  replace hO := hO3
  replace hSm := And.intro (hSm.1.trans hS3) (nLT hSm.2 hS3.size)
  refine ⟨_, rfl, ?_⟩
  refine waS rfl (x_nil (e_B (e_S (c_region (wl (r_add rfl rfl rfl om) ?_)))))
  refine wmI rfl (x_nil (e_LS ((gr[i]'hin).ln.length - (j + 1)) om agA ?_))
  exact ⟨j + 1, o3, A3, cap3, by omega, rfl, rfl, rfl, by rw [take_succN hin hjl ht]; exact hD.append hD3, hB, hb4, hbn, hO, hSm⟩
 have hjx : j = (gr[i]'hin).ln.length := by omega
 have hfin : DL gr (succN gr i) (o ++ [i]) o2 := by
   have e : (succN gr i).take j = succN gr i := List.take_of_length_le (by simp [succN, nd_eq hin, hjx])
   rw [e] at hD; exact hD
 refine c_exit (e_Sx (e_LSx (e_Bx (e_S (c_seq ?_)))))
 refine c_region (wmS rfl (waS rfl (x_nil (e_S (c_ret ?_)))))
 refine fin1 (.inl rfl) rfl rfl ?_
 exact ⟨o2, A2, cap2, .new hni hfin .nil, rfl, hbn, hO.up hbd, hSm.1⟩
theorem visit2_any {w0 : World} {G : Option Addr} {cg nf bn : Nat} {gr : List Nd} (hG : NodesIn w0 G gr) (hk : GOk2 nf gr) (l0n : w0.heap.size ≤ bn) : ∀ (m : Nat) (o : List Nat) (A : Option Addr) (cap : Nat) (w : World) (i : Nat), lackN gr.length (memB o) ≤ m → i < gr.length → Bel w0 w → OOk gr.length o → Blk w bn 3 (row gr.length (fun x => .int .i64 (numO o x))) → OrdF w bn w.heap.size A o → Calls Tryd.prog 105 #[.agg #[.slice G gr.length cg], .int .i64 (i : Nat), .slice (some ⟨bn, 0, none⟩) gr.length gr.length, .slice A (o).length cap] w fun e w' => ∃ o' A' cap', DL gr [i] o o' ∧ e = .returned (.slice A' o'.length cap') ∧ Blk w' bn 3 (row gr.length (fun x => .int .i64 (numO o' x))) ∧ OrdF w' bn w'.heap.size A' o' ∧ Same [bn] w w' := by
  intro m
  induction m with
  | zero => intro o A cap w i hm hin hB hok h1 h2; exact visit2_step hG hk l0n hB hok h1 h2 hin (fun t o2 A2 cap2 w2 hl => by omega)
  | succ m ih => intro o A cap w i hm hin hB hok h1 h2; exact visit2_step hG hk l0n hB hok h1 h2 hin (fun t o2 A2 cap2 w2 hl => ih o2 A2 cap2 w2 t om)
end Go.Proofs.YtegngekpmpdngaaDoor
