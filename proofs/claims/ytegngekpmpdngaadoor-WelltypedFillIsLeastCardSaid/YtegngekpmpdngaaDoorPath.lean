/- What these functions of the program compute, at every world: slices.Equal[[]glosswright/api.Link,glosswright/api.Link], glosswright/glosswrightequal.Nodes. What these functions of the program compute, at every world: . Targets of links, walks along paths, what At answers. No program in sight. -/
import Derived.Test.YtegngekpmpdngaaDoorU
import Derived.Test.YtegngekpmpdngaaDoorCanon
import Derived.Test.YtegngekpmpdngaaDoorGro
namespace Go.Proofs.YtegngekpmpdngaaDoor
open Go.RowKit
theorem FrSame.then {B B0 : Nat} {w0 w1 w2 : World} (h : FrSame B w0 w1) (k : FrSame B0 w1 w2) (hb : B0 ≤ B) : FrSame B w0 w2 :=
  ⟨nLT h.size k.size, fun i hi hl => (k.blk i (nLT hb hi) (nLL hl h.size)).trans (h.blk i hi hl)⟩
theorem fd30 : (Tryd.prog.fieldsOf 30).toList.map (fun f => (f.name == "_", f.type, f.offset)) = [(false, 3, 0), (false, 3, 1)] := by kernel_rfl
theorem fn59 : callable Tryd.prog 59 = true := by kernel_rfl
theorem ft30 : Tryd.prog.underlying 30 = some (.struct (Tryd.prog.fieldsOf 30)) := by kernel_rfl
theorem leq_any (A B : Option Addr) (c d : Nat) (xs ys : List (Int × Int)) (w : World) (hX : LinksIn w A xs) (hY : LinksIn w B ys) : Calls Tryd.prog 59 #[.slice A xs.length c, .slice B ys.length d] w fun e w' => e = .returned (.bool (decide (xs = ys))) ∧ Bel w w' := by
 have hmx := hX.1
 unfold maxI at hmx
 refine enter Tryd.func59 Tryd.ntmps59 rfl (Nat.le_of_ble_eq_true rfl) ?_
 have hB : Bel w w := Below.refl _ _
 refine c_seq (c_region (waB rfl (x_nil (e_S (c_seq ?_)))))
 refine c_seq (c_region (wmS rfl (wl (r_len U31 rfl) (wmS rfl (wl (r_len U31 rfl) ?_)))))
 refine wl (r_neq rfl rfl) (x_nil (e_S ?_))
 refine c_ifd rfl (fun c10 => ?_) (fun c10 => ?_)
 ·
  refine c_seq (c_region (waB rfl (x_nil (e_S (c_ret ?_)))))
  refine e_Sr (fin1 (.inl rfl) rfl rfl ?_)
  exact ⟨ret_bool (decide_eq_false (fun h => c10 (by rw [h]))), hB⟩
 refine c_skip (e_S (c_seq (c_seq (c_region (wmS rfl ?_)))))
 refine wl (r_len U31 rfl) (wmI rfl (x_nil (e_S (c_block ?_))))
 refine c_loopS [4, 5, 13, 14, 15, 16, 17, 18, 19, 20, 21, 22, 23, 24, 25] (fun m g w' => ∃ k : Nat, k ≤ xs.length ∧ m = xs.length - k ∧ g 13 = .int .i64 k ∧ Bel w w' ∧ xs.take k = ys.take k) (xs.length) ?_ (fun m g4 w1 hI => ?_)
 ·
  exact ⟨0, Nat.zero_le _, rfl, rfl, hB, rfl⟩
 obtain ⟨k, hk, hm, h13, hB, hE⟩ := hI
 refine c_know 13 (.int .i64 k) h13 nu (c_seq (c_region (wl (r_lss rfl rfl) (x_nil (e_S ?_)))))
 refine c_seq ?_
 refine c_ifd rfl (fun c14 => ?_) (fun c14 => ?_)
 ·
  have hlt : k < xs.length := by omega
  have hly : k < ys.length := by omega
  obtain ⟨pb, po, rfl, hpb, hpc⟩ := hX.at_ (Below.refl _ _ : Bel w w) hlt
  obtain ⟨qb, qo, rfl, hqb, hqc⟩ := hY.at_ (Below.refl _ _ : Bel w w) hly
  refine c_skip (e_S (c_seq (c_block (c_seq (c_region ?_)))))
  refine wmI rfl (waI rfl (x_nil (e_S (c_seq ?_))))
  refine c_still kR kR (fun w2 hs => ?_)
  replace hB := hB.tr0 hs
  clear hs
  refine ws (r_mv (v := .slice _ _ _) rfl) (ws (r_mv (v := .int _ _) rfl) (ws (r_ia (i := k) U31 sz30 rfl rfl om rfl) (ws (r_ldS U30 rfl rfl (hB.range hpb hpc) sz30) (ws (r_mv (v := .slice _ _ _) rfl) (ws (r_mv (v := .int _ _) rfl) ?_)))))
  refine ws (r_ia (i := k) U31 sz30 rfl rfl om rfl) (ws (r_ldS U30 rfl rfl (hB.range hqb hqc) sz30) (ws (r_neF Tryd.eqGuardType30 ft30 Tryd.stoodInHeld30 fd30 U3 rfl rfl) (s_nil (e_S ?_))))
  refine c_ifd rfl (fun c24 => ?_) (fun c24 => ?_)
  ·
   refine c_seq (c_region (waB rfl (x_nil (e_S (c_ret ?_)))))
   refine e_Br (e_Sr (e_LSr (e_Br (e_Sr (fin1 (.inl rfl) rfl rfl ?_)))))
   exact ⟨ret_bool (decide_eq_false (fun h => c24 (by subst h; exact ⟨rfl, rfl⟩))), hB⟩
  refine c_skip (e_B (e_S (c_region (wl (r_add rfl rfl rfl om) (wmI rfl ?_)))))
  refine x_nil (e_LS (xs.length - (k + 1)) om agA ?_)
  have hx : xs[k]'hlt = ys[k]'hly := by
    have h := Decidable.not_not.1 c24
    exact Prod.ext h.1 h.2
  exact ⟨k + 1, by omega, rfl, rfl, hB, by rw [List.take_succ_eq_append_getElem hlt, List.take_succ_eq_append_getElem hly, hE, hx]⟩
 have hek : k = xs.length := by omega
 have hfin : xs = ys := by
   rw [hek] at hE
   have e2 : ys.take xs.length = ys := List.take_of_length_le om
   rw [List.take_length, e2] at hE; exact hE
 refine c_exit (e_Sx (e_LSx (e_Bx (e_S (c_seq ?_)))))
 refine c_region (waB rfl (x_nil (e_S (c_ret (fin1 (.inl rfl) rfl rfl ?_)))))
 exact ⟨ret_bool (decide_eq_true hfin), hB⟩
set_option maxHeartbeats 1000000 in
theorem nodes_any (A B : Option Addr) (c d : Nat) (ga gb : List Nd) (w : World) (hA : NodesIn w A ga) (hBn : NodesIn w B gb) : Calls Tryd.prog 24 #[.agg #[.slice A ga.length c], .agg #[.slice B gb.length d]] w fun e w' => e = .returned (.bool (decide (ga = gb))) ∧ Bel w w' := by
 have hmx := hA.1
 unfold maxI at hmx
 refine enter Tryd.func24 Tryd.ntmps24 rfl (Nat.le_of_ble_eq_true rfl) ?_
 have hB : Bel w w := Below.refl _ _
 refine c_seq (c_region ?_)
 refine wl_bx (v := .agg #[_]) (cs := #[_]) rfl rfl (fun b2 w1 hb2 hs hr => ?_)
 have lo2 := nLT (Bel.size hB) hr
 replace hB := hB.tr0 hs
 clear hs
 clear hr
 refine wl_bx (v := .agg #[_]) (cs := #[_]) rfl rfl (fun b3 w2 hb3 hs hr => ?_)
 have or_b2_b3 : b2 < b3 := nLL hb2.lt hr
 have lo3 := nLT (Bel.size hB) hr
 replace hB := hB.tr0 hs
 replace hb2 := hb2.tr0 hs
 clear hs
 clear hr
 refine waB rfl (x_nil (e_S (c_seq (c_seq (c_region ?_)))))
 refine wl (r_fa U28 sz26 dE rfl rfl rfl) (wl (r_ld1 (v := .slice _ _ _) U26 rfl rfl (hb2.cell rfl)) (wl (r_len U26 rfl) (wl (r_fa U28 sz26 dE rfl rfl rfl) (wl (r_ld1 (v := .slice _ _ _) U26 rfl rfl (hb3.cell rfl)) (wl (r_len U26 rfl) ?_)))))
 refine wl (r_neq rfl rfl) (x_nil (e_S ?_))
 refine c_ifd rfl (fun c12 => ?_) (fun c12 => ?_)
 ·
  refine c_seq (c_region (waB rfl (x_nil (e_S (c_ret ?_)))))
  refine e_Sr (fin1 (.inl rfl) rfl rfl ?_)
  exact ⟨ret_bool (decide_eq_false (fun h => c12 (by rw [h]))), hB⟩
 refine c_skip (e_S (c_seq (c_seq (c_region (wl (r_fa U28 sz26 dE rfl rfl rfl) ?_)))))
 refine wl (r_ld1 (v := .slice _ _ _) U26 rfl rfl (hb2.cell rfl)) (wl (r_len U26 rfl) (wmI rfl (x_nil (e_S (c_block ?_)))))
 refine c_loopS [4, 5, 16, 17, 18, 19, 20, 21, 22, 23, 24, 25, 26, 27, 28, 29, 30, 31, 32, 33, 34, 35, 36, 37, 38, 39, 40, 41, 42, 43, 44, 45, 46, 47, 48] (fun m g w' => ∃ k : Nat, k ≤ ga.length ∧ m = ga.length - k ∧ g 16 = .int .i64 k ∧ Bel w w' ∧ Blk w' b2 28 #[.slice A ga.length c] ∧ Blk w' b3 28 #[.slice B gb.length d] ∧ ga.take k = gb.take k) (ga.length) ?_ (fun m g4 w3 hI => ?_)
 ·
  exact ⟨0, Nat.zero_le _, rfl, rfl, hB, hb2, hb3, rfl⟩
 obtain ⟨k, hk, hm, h16, hB, hb2, hb3, hE⟩ := hI
 refine c_know 16 (.int .i64 k) h16 nu (c_seq (c_region (wl (r_lss rfl rfl) (x_nil (e_S ?_)))))
 refine c_seq ?_
 refine c_ifd rfl (fun c17 => ?_) (fun c17 => ?_)
 ·
  have hlt : k < ga.length := by omega
  have hly : k < gb.length := by omega
  obtain ⟨ab, ao, LA, la, rfl, hab, har, haln⟩ := hA.at_ (Below.refl _ _ : Bel w w) hlt
  obtain ⟨bb, bo, LB, lb, rfl, hbb, hbr, hbln⟩ := hBn.at_ (Below.refl _ _ : Bel w w) hly
  refine c_skip (e_S (c_seq (c_block (c_seq (c_region ?_)))))
  refine wmI rfl (waI rfl (x_nil (e_S (c_seq ?_))))
  refine c_monoGO 29 [19, 20, 21, 22, 23, 24, 25, 26, 27, 28, 29, 30, 31, 32, 33, 34, 35, 36, 37, 38, 39, 40, 41, 42, 43, 44, 45, 46, 47] (fun _ => false) (fun ix v wv => match ix with | 0 => v = .pointer (some ⟨b2, 0, none⟩) | 1 => v = .slice (some ⟨ab, ao, none⟩) ga.length c | 2 => v = .int .i64 k | 3 => v = .pointer (some ⟨ab, ao + k * 2, none⟩) | 4 => v = .pointer (some ⟨ab, ao + k * 2 + 0, none⟩) | 5 => v = .int .i64 (ga[k]'hlt).ty | 6 => v = .pointer (some ⟨b3, 0, none⟩) | 7 => v = .slice (some ⟨bb, bo, none⟩) gb.length d | 8 => v = .int .i64 k | 9 => v = .pointer (some ⟨bb, bo + k * 2, none⟩) | 10 => v = .pointer (some ⟨bb, bo + k * 2 + 0, none⟩) | 11 => v = .int .i64 (gb[k]'hly).ty | 12 => v = .bool (decide (¬ (ga[k]'hlt).ty = (gb[k]'hly).ty)) | 13 => v = .bool (decide (¬ (ga[k]'hlt).ty = (gb[k]'hly).ty)) | 14 => (((decide (¬ (ga[k]'hlt).ty = (gb[k]'hly).ty))) = false → v = .pointer (some ⟨b2, 0, none⟩)) ∧ (((decide (¬ (ga[k]'hlt).ty = (gb[k]'hly).ty))) = true → v = undef) | 15 => (((decide (¬ (ga[k]'hlt).ty = (gb[k]'hly).ty))) = false → v = .slice (some ⟨ab, ao, none⟩) ga.length c) ∧ (((decide (¬ (ga[k]'hlt).ty = (gb[k]'hly).ty))) = true → v = undef) | 16 => (((decide (¬ (ga[k]'hlt).ty = (gb[k]'hly).ty))) = false → v = .int .i64 k) ∧ (((decide (¬ (ga[k]'hlt).ty = (gb[k]'hly).ty))) = true → v = undef) | 17 => (((decide (¬ (ga[k]'hlt).ty = (gb[k]'hly).ty))) = false → v = .pointer (some ⟨ab, ao + k * 2, none⟩)) ∧ (((decide (¬ (ga[k]'hlt).ty = (gb[k]'hly).ty))) = true → v = undef) | 18 => (((decide (¬ (ga[k]'hlt).ty = (gb[k]'hly).ty))) = false → v = .pointer (some ⟨ab, ao + k * 2 + 1, none⟩)) ∧ (((decide (¬ (ga[k]'hlt).ty = (gb[k]'hly).ty))) = true → v = undef) | 19 => (((decide (¬ (ga[k]'hlt).ty = (gb[k]'hly).ty))) = false → v = .slice LA (ga[k]'hlt).ln.length la) ∧ (((decide (¬ (ga[k]'hlt).ty = (gb[k]'hly).ty))) = true → v = undef) | 20 => (((decide (¬ (ga[k]'hlt).ty = (gb[k]'hly).ty))) = false → v = .pointer (some ⟨b3, 0, none⟩)) ∧ (((decide (¬ (ga[k]'hlt).ty = (gb[k]'hly).ty))) = true → v = undef) | 21 => (((decide (¬ (ga[k]'hlt).ty = (gb[k]'hly).ty))) = false → v = .slice (some ⟨bb, bo, none⟩) gb.length d) ∧ (((decide (¬ (ga[k]'hlt).ty = (gb[k]'hly).ty))) = true → v = undef) | 22 => (((decide (¬ (ga[k]'hlt).ty = (gb[k]'hly).ty))) = false → v = .int .i64 k) ∧ (((decide (¬ (ga[k]'hlt).ty = (gb[k]'hly).ty))) = true → v = undef) | 23 => (((decide (¬ (ga[k]'hlt).ty = (gb[k]'hly).ty))) = false → v = .pointer (some ⟨bb, bo + k * 2, none⟩)) ∧ (((decide (¬ (ga[k]'hlt).ty = (gb[k]'hly).ty))) = true → v = undef) | 24 => (((decide (¬ (ga[k]'hlt).ty = (gb[k]'hly).ty))) = false → v = .pointer (some ⟨bb, bo + k * 2 + 1, none⟩)) ∧ (((decide (¬ (ga[k]'hlt).ty = (gb[k]'hly).ty))) = true → v = undef) | 25 => (((decide (¬ (ga[k]'hlt).ty = (gb[k]'hly).ty))) = false → v = .slice LB (gb[k]'hly).ln.length lb) ∧ (((decide (¬ (ga[k]'hlt).ty = (gb[k]'hly).ty))) = true → v = undef) | 26 => (((decide (¬ (ga[k]'hlt).ty = (gb[k]'hly).ty))) = false → v = .bool (decide ((ga[k]'hlt).ln = (gb[k]'hly).ln))) ∧ (((decide (¬ (ga[k]'hlt).ty = (gb[k]'hly).ty))) = true → v = undef) | 27 => (((decide (¬ (ga[k]'hlt).ty = (gb[k]'hly).ty))) = false → v = .bool (!decide ((ga[k]'hlt).ln = (gb[k]'hly).ln))) ∧ (((decide (¬ (ga[k]'hlt).ty = (gb[k]'hly).ty))) = true → v = undef) | 28 => v = .bool (decide (¬ (ga[k]'hlt).ty = (gb[k]'hly).ty) || !decide ((ga[k]'hlt).ln = (gb[k]'hly).ln)) | _ => True) kR kR ?_ ?_ ?_
  ·
   intro ix v wv wv2 h hs
   match ix, h with
   | 0, h => exact h
   | 1, h => exact h
   | 2, h => exact h
   | 3, h => exact h
   | 4, h => exact h
   | 5, h => exact h
   | 6, h => exact h
   | 7, h => exact h
   | 8, h => exact h
   | 9, h => exact h
   | 10, h => exact h
   | 11, h => exact h
   | 12, h => exact h
   | 13, h => exact h
   | 14, h => exact h
   | 15, h => exact h
   | 16, h => exact h
   | 17, h => exact h
   | 18, h => exact h
   | 19, h => exact h
   | 20, h => exact h
   | 21, h => exact h
   | 22, h => exact h
   | 23, h => exact h
   | 24, h => exact h
   | 25, h => exact h
   | 26, h => exact h
   | 27, h => exact h
   | 28, h => exact h
   | _ + 29, h => exact trivial
  ·
   intro ix o hix hoq gg wx hs hd hdis
   match ix, hix, hoq with
   | 0, _, hoq =>
    obtain rfl := sI hoq
    have hs0 := hs
    replace hb2 := hb2.tr0 hs
    clear hs
    refine ⟨fun _ => ?_, fun hw => Bool.noConfusion (show true = false from hw)⟩
    refine os_rv (r_fa U28 sz26 dE rfl rfl rfl) ⟨Same.refl _ _, ?_, frsh_no⟩
    exact rfl
   | 1, _, hoq =>
    obtain rfl := sI hoq
    have hs0 := hs
    replace hb2 := hb2.tr0 hs
    clear hs
    have d0 : gg 19 = .pointer (some ⟨b2, 0, none⟩) := hd 0 (dep_of kR)
    have e19 := d0
    refine ⟨fun _ => ?_, fun hw => Bool.noConfusion (show true = false from hw)⟩
    refine os_know 19 (.pointer (some ⟨b2, 0, none⟩)) e19 nu ?_
    refine os_rv (r_ld1 (v := .slice _ _ _) U26 rfl rfl (hb2.cell rfl)) ⟨Same.refl _ _, ?_, frsh_no⟩
    exact rfl
   | 2, _, hoq =>
    obtain rfl := sI hoq
    have hs0 := hs
    clear hs
    refine ⟨fun _ => ?_, fun hw => Bool.noConfusion (show true = false from hw)⟩
    refine os_rv (r_mv (v := .int _ _) rfl) ⟨Same.refl _ _, ?_, frsh_no⟩
    exact rfl
   | 3, _, hoq =>
    obtain rfl := sI hoq
    have hs0 := hs
    clear hs
    have d1 : gg 20 = .slice (some ⟨ab, ao, none⟩) ga.length c := hd 1 (dep_of kR)
    have e20 := d1
    have d2 : gg 21 = .int .i64 k := hd 2 (dep_of kR)
    have e21 := d2
    refine ⟨fun _ => ?_, fun hw => Bool.noConfusion (show true = false from hw)⟩
    refine os_know 20 (.slice (some ⟨ab, ao, none⟩) ga.length c) e20 nu (os_know 21 (.int .i64 k) e21 nu ?_)
    refine os_rv (r_ia (i := k) U26 sz33 rfl rfl om rfl) ⟨Same.refl _ _, ?_, frsh_no⟩
    exact rfl
   | 4, _, hoq =>
    obtain rfl := sI hoq
    have hs0 := hs
    clear hs
    have d3 : gg 22 = .pointer (some ⟨ab, ao + k * 2, none⟩) := hd 3 (dep_of kR)
    have e22 := d3
    refine ⟨fun _ => ?_, fun hw => Bool.noConfusion (show true = false from hw)⟩
    refine os_know 22 (.pointer (some ⟨ab, ao + k * 2, none⟩)) e22 nu ?_
    refine os_rv (r_fa U33 sz3_GLoose dE rfl rfl rfl) ⟨Same.refl _ _, ?_, frsh_no⟩
    exact rfl
   | 5, _, hoq =>
    obtain rfl := sI hoq
    have hs0 := hs
    replace hB := hB.tr0 hs
    clear hs
    have d4 : gg 23 = .pointer (some ⟨ab, ao + k * 2 + 0, none⟩) := hd 4 (dep_of kR)
    have e23 := d4
    refine ⟨fun _ => ?_, fun hw => Bool.noConfusion (show true = false from hw)⟩
    refine os_know 23 (.pointer (some ⟨ab, ao + k * 2 + 0, none⟩)) e23 nu ?_
    refine os_rv (r_ld1 (v := .int _ _) U3 rfl rfl (hB.cell hab (har 0 _ rfl))) ⟨Same.refl _ _, ?_, frsh_no⟩
    exact rfl
   | 6, _, hoq =>
    obtain rfl := sI hoq
    have hs0 := hs
    replace hb3 := hb3.tr0 hs
    clear hs
    refine ⟨fun _ => ?_, fun hw => Bool.noConfusion (show true = false from hw)⟩
    refine os_rv (r_fa U28 sz26 dE rfl rfl rfl) ⟨Same.refl _ _, ?_, frsh_no⟩
    exact rfl
   | 7, _, hoq =>
    obtain rfl := sI hoq
    have hs0 := hs
    replace hb3 := hb3.tr0 hs
    clear hs
    have d6 : gg 25 = .pointer (some ⟨b3, 0, none⟩) := hd 6 (dep_of kR)
    have e25 := d6
    refine ⟨fun _ => ?_, fun hw => Bool.noConfusion (show true = false from hw)⟩
    refine os_know 25 (.pointer (some ⟨b3, 0, none⟩)) e25 nu ?_
    refine os_rv (r_ld1 (v := .slice _ _ _) U26 rfl rfl (hb3.cell rfl)) ⟨Same.refl _ _, ?_, frsh_no⟩
    exact rfl
   | 8, _, hoq =>
    obtain rfl := sI hoq
    have hs0 := hs
    clear hs
    refine ⟨fun _ => ?_, fun hw => Bool.noConfusion (show true = false from hw)⟩
    refine os_rv (r_mv (v := .int _ _) rfl) ⟨Same.refl _ _, ?_, frsh_no⟩
    exact rfl
   | 9, _, hoq =>
    obtain rfl := sI hoq
    have hs0 := hs
    clear hs
    have d7 : gg 26 = .slice (some ⟨bb, bo, none⟩) gb.length d := hd 7 (dep_of kR)
    have e26 := d7
    have d8 : gg 27 = .int .i64 k := hd 8 (dep_of kR)
    have e27 := d8
    refine ⟨fun _ => ?_, fun hw => Bool.noConfusion (show true = false from hw)⟩
    refine os_know 26 (.slice (some ⟨bb, bo, none⟩) gb.length d) e26 nu (os_know 27 (.int .i64 k) e27 nu ?_)
    refine os_rv (r_ia (i := k) U26 sz33 rfl rfl om rfl) ⟨Same.refl _ _, ?_, frsh_no⟩
    exact rfl
   | 10, _, hoq =>
    obtain rfl := sI hoq
    have hs0 := hs
    clear hs
    have d9 : gg 28 = .pointer (some ⟨bb, bo + k * 2, none⟩) := hd 9 (dep_of kR)
    have e28 := d9
    refine ⟨fun _ => ?_, fun hw => Bool.noConfusion (show true = false from hw)⟩
    refine os_know 28 (.pointer (some ⟨bb, bo + k * 2, none⟩)) e28 nu ?_
    refine os_rv (r_fa U33 sz3_GLoose dE rfl rfl rfl) ⟨Same.refl _ _, ?_, frsh_no⟩
    exact rfl
   | 11, _, hoq =>
    obtain rfl := sI hoq
    have hs0 := hs
    replace hB := hB.tr0 hs
    clear hs
    have d10 : gg 29 = .pointer (some ⟨bb, bo + k * 2 + 0, none⟩) := hd 10 (dep_of kR)
    have e29 := d10
    refine ⟨fun _ => ?_, fun hw => Bool.noConfusion (show true = false from hw)⟩
    refine os_know 29 (.pointer (some ⟨bb, bo + k * 2 + 0, none⟩)) e29 nu ?_
    refine os_rv (r_ld1 (v := .int _ _) U3 rfl rfl (hB.cell hbb (hbr 0 _ rfl))) ⟨Same.refl _ _, ?_, frsh_no⟩
    exact rfl
   | 12, _, hoq =>
    obtain rfl := sI hoq
    have hs0 := hs
    clear hs
    have d5 : gg 24 = .int .i64 (ga[k]'hlt).ty := hd 5 (dep_of kR)
    have e24 := d5
    have d11 : gg 30 = .int .i64 (gb[k]'hly).ty := hd 11 (dep_of kR)
    have e30 := d11
    refine ⟨fun _ => ?_, fun hw => Bool.noConfusion (show true = false from hw)⟩
    refine os_know 24 (.int .i64 (ga[k]'hlt).ty) e24 nu (os_know 30 (.int .i64 (gb[k]'hly).ty) e30 nu ?_)
    refine os_rv (r_neq rfl rfl) ⟨Same.refl _ _, ?_, frsh_no⟩
    exact rfl
   | 13, _, hoq =>
    obtain rfl := sI hoq
    have hs0 := hs
    clear hs
    have d12 : gg 31 = .bool (decide (¬ (ga[k]'hlt).ty = (gb[k]'hly).ty)) := hd 12 (dep_of kR)
    have e31 := d12
    refine ⟨fun _ => ?_, fun hw => Bool.noConfusion (show true = false from hw)⟩
    refine os_know 31 (.bool (decide (¬ (ga[k]'hlt).ty = (gb[k]'hly).ty))) e31 nu ?_
    refine os_rv (r_mv (v := .bool _) rfl) ⟨Same.refl _ _, ?_, frsh_no⟩
    exact rfl
   | 14, _, hoq =>
    obtain rfl := sI hoq
    have hs0 := hs
    replace hb2 := hb2.tr0 hs
    clear hs
    have d13 : gg 32 = .bool (decide (¬ (ga[k]'hlt).ty = (gb[k]'hly).ty)) := hd 13 (dep_of kR)
    have e32 := d13
    refine guard_case 32 ((decide (¬ (ga[k]'hlt).ty = (gb[k]'hly).ty))) rfl e32 (fun hgc => ?_) (fun hgc => ⟨fun h => absurd (h.symm.trans hgc) dE, fun _ => rfl⟩)
    refine os_know 32 (.bool (decide (¬ (ga[k]'hlt).ty = (gb[k]'hly).ty))) e32 nu ?_
    refine os_rv (r_fa U28 sz26 dE rfl rfl rfl) ⟨Same.refl _ _, ?_, frsh_no⟩
    exact ⟨fun _ => rfl, fun h => absurd (h.symm.trans hgc) dE⟩
   | 15, _, hoq =>
    obtain rfl := sI hoq
    have hs0 := hs
    replace hb2 := hb2.tr0 hs
    clear hs
    have d13 : gg 32 = .bool (decide (¬ (ga[k]'hlt).ty = (gb[k]'hly).ty)) := hd 13 (dep_of kR)
    have e32 := d13
    have d14 : (((decide (¬ (ga[k]'hlt).ty = (gb[k]'hly).ty))) = false → gg 33 = .pointer (some ⟨b2, 0, none⟩)) ∧ (((decide (¬ (ga[k]'hlt).ty = (gb[k]'hly).ty))) = true → gg 33 = undef) := hd 14 (dep_of kR)
    refine guard_case 32 ((decide (¬ (ga[k]'hlt).ty = (gb[k]'hly).ty))) rfl e32 (fun hgc => ?_) (fun hgc => ⟨fun h => absurd (h.symm.trans hgc) dE, fun _ => rfl⟩)
    have e33 := d14.1 hgc
    refine os_know 32 (.bool (decide (¬ (ga[k]'hlt).ty = (gb[k]'hly).ty))) e32 nu (os_know 33 (.pointer (some ⟨b2, 0, none⟩)) e33 nu ?_)
    refine os_rv (r_ld1 (v := .slice _ _ _) U26 rfl rfl (hb2.cell rfl)) ⟨Same.refl _ _, ?_, frsh_no⟩
    exact ⟨fun _ => rfl, fun h => absurd (h.symm.trans hgc) dE⟩
   | 16, _, hoq =>
    obtain rfl := sI hoq
    have hs0 := hs
    clear hs
    have d13 : gg 32 = .bool (decide (¬ (ga[k]'hlt).ty = (gb[k]'hly).ty)) := hd 13 (dep_of kR)
    have e32 := d13
    refine guard_case 32 ((decide (¬ (ga[k]'hlt).ty = (gb[k]'hly).ty))) rfl e32 (fun hgc => ?_) (fun hgc => ⟨fun h => absurd (h.symm.trans hgc) dE, fun _ => rfl⟩)
    refine os_know 32 (.bool (decide (¬ (ga[k]'hlt).ty = (gb[k]'hly).ty))) e32 nu ?_
    refine os_rv (r_mv (v := .int _ _) rfl) ⟨Same.refl _ _, ?_, frsh_no⟩
    exact ⟨fun _ => rfl, fun h => absurd (h.symm.trans hgc) dE⟩
   | 17, _, hoq =>
    obtain rfl := sI hoq
    have hs0 := hs
    clear hs
    have d13 : gg 32 = .bool (decide (¬ (ga[k]'hlt).ty = (gb[k]'hly).ty)) := hd 13 (dep_of kR)
    have e32 := d13
    have d15 : (((decide (¬ (ga[k]'hlt).ty = (gb[k]'hly).ty))) = false → gg 34 = .slice (some ⟨ab, ao, none⟩) ga.length c) ∧ (((decide (¬ (ga[k]'hlt).ty = (gb[k]'hly).ty))) = true → gg 34 = undef) := hd 15 (dep_of kR)
    have d16 : (((decide (¬ (ga[k]'hlt).ty = (gb[k]'hly).ty))) = false → gg 35 = .int .i64 k) ∧ (((decide (¬ (ga[k]'hlt).ty = (gb[k]'hly).ty))) = true → gg 35 = undef) := hd 16 (dep_of kR)
    refine guard_case 32 ((decide (¬ (ga[k]'hlt).ty = (gb[k]'hly).ty))) rfl e32 (fun hgc => ?_) (fun hgc => ⟨fun h => absurd (h.symm.trans hgc) dE, fun _ => rfl⟩)
    have e34 := d15.1 hgc
    have e35 := d16.1 hgc
    refine os_know 32 (.bool (decide (¬ (ga[k]'hlt).ty = (gb[k]'hly).ty))) e32 nu (os_know 34 (.slice (some ⟨ab, ao, none⟩) ga.length c) e34 nu (os_know 35 (.int .i64 k) e35 nu ?_))
    refine os_rv (r_ia (i := k) U26 sz33 rfl rfl om rfl) ⟨Same.refl _ _, ?_, frsh_no⟩
    exact ⟨fun _ => rfl, fun h => absurd (h.symm.trans hgc) dE⟩
   | 18, _, hoq =>
    obtain rfl := sI hoq
    have hs0 := hs
    clear hs
    have d13 : gg 32 = .bool (decide (¬ (ga[k]'hlt).ty = (gb[k]'hly).ty)) := hd 13 (dep_of kR)
    have e32 := d13
    have d17 : (((decide (¬ (ga[k]'hlt).ty = (gb[k]'hly).ty))) = false → gg 36 = .pointer (some ⟨ab, ao + k * 2, none⟩)) ∧ (((decide (¬ (ga[k]'hlt).ty = (gb[k]'hly).ty))) = true → gg 36 = undef) := hd 17 (dep_of kR)
    refine guard_case 32 ((decide (¬ (ga[k]'hlt).ty = (gb[k]'hly).ty))) rfl e32 (fun hgc => ?_) (fun hgc => ⟨fun h => absurd (h.symm.trans hgc) dE, fun _ => rfl⟩)
    have e36 := d17.1 hgc
    refine os_know 32 (.bool (decide (¬ (ga[k]'hlt).ty = (gb[k]'hly).ty))) e32 nu (os_know 36 (.pointer (some ⟨ab, ao + k * 2, none⟩)) e36 nu ?_)
    refine os_rv (r_fa U33 sz31 dE rfl rfl rfl) ⟨Same.refl _ _, ?_, frsh_no⟩
    exact ⟨fun _ => rfl, fun h => absurd (h.symm.trans hgc) dE⟩
   | 19, _, hoq =>
    obtain rfl := sI hoq
    have hs0 := hs
    replace hB := hB.tr0 hs
    clear hs
    have d13 : gg 32 = .bool (decide (¬ (ga[k]'hlt).ty = (gb[k]'hly).ty)) := hd 13 (dep_of kR)
    have e32 := d13
    have d18 : (((decide (¬ (ga[k]'hlt).ty = (gb[k]'hly).ty))) = false → gg 37 = .pointer (some ⟨ab, ao + k * 2 + 1, none⟩)) ∧ (((decide (¬ (ga[k]'hlt).ty = (gb[k]'hly).ty))) = true → gg 37 = undef) := hd 18 (dep_of kR)
    refine guard_case 32 ((decide (¬ (ga[k]'hlt).ty = (gb[k]'hly).ty))) rfl e32 (fun hgc => ?_) (fun hgc => ⟨fun h => absurd (h.symm.trans hgc) dE, fun _ => rfl⟩)
    have e37 := d18.1 hgc
    refine os_know 32 (.bool (decide (¬ (ga[k]'hlt).ty = (gb[k]'hly).ty))) e32 nu (os_know 37 (.pointer (some ⟨ab, ao + k * 2 + 1, none⟩)) e37 nu ?_)
    refine os_rv (r_ld1 (v := .slice _ _ _) U31 rfl rfl (hB.cell hab (har 1 _ rfl))) ⟨Same.refl _ _, ?_, frsh_no⟩
    exact ⟨fun _ => rfl, fun h => absurd (h.symm.trans hgc) dE⟩
   | 20, _, hoq =>
    obtain rfl := sI hoq
    have hs0 := hs
    replace hb3 := hb3.tr0 hs
    clear hs
    have d13 : gg 32 = .bool (decide (¬ (ga[k]'hlt).ty = (gb[k]'hly).ty)) := hd 13 (dep_of kR)
    have e32 := d13
    refine guard_case 32 ((decide (¬ (ga[k]'hlt).ty = (gb[k]'hly).ty))) rfl e32 (fun hgc => ?_) (fun hgc => ⟨fun h => absurd (h.symm.trans hgc) dE, fun _ => rfl⟩)
    refine os_know 32 (.bool (decide (¬ (ga[k]'hlt).ty = (gb[k]'hly).ty))) e32 nu ?_
    refine os_rv (r_fa U28 sz26 dE rfl rfl rfl) ⟨Same.refl _ _, ?_, frsh_no⟩
    exact ⟨fun _ => rfl, fun h => absurd (h.symm.trans hgc) dE⟩
   | 21, _, hoq =>
    obtain rfl := sI hoq
    have hs0 := hs
    replace hb3 := hb3.tr0 hs
    clear hs
    have d13 : gg 32 = .bool (decide (¬ (ga[k]'hlt).ty = (gb[k]'hly).ty)) := hd 13 (dep_of kR)
    have e32 := d13
    have d20 : (((decide (¬ (ga[k]'hlt).ty = (gb[k]'hly).ty))) = false → gg 39 = .pointer (some ⟨b3, 0, none⟩)) ∧ (((decide (¬ (ga[k]'hlt).ty = (gb[k]'hly).ty))) = true → gg 39 = undef) := hd 20 (dep_of kR)
    refine guard_case 32 ((decide (¬ (ga[k]'hlt).ty = (gb[k]'hly).ty))) rfl e32 (fun hgc => ?_) (fun hgc => ⟨fun h => absurd (h.symm.trans hgc) dE, fun _ => rfl⟩)
    have e39 := d20.1 hgc
    refine os_know 32 (.bool (decide (¬ (ga[k]'hlt).ty = (gb[k]'hly).ty))) e32 nu (os_know 39 (.pointer (some ⟨b3, 0, none⟩)) e39 nu ?_)
    refine os_rv (r_ld1 (v := .slice _ _ _) U26 rfl rfl (hb3.cell rfl)) ⟨Same.refl _ _, ?_, frsh_no⟩
    exact ⟨fun _ => rfl, fun h => absurd (h.symm.trans hgc) dE⟩
   | 22, _, hoq =>
    obtain rfl := sI hoq
    have hs0 := hs
    clear hs
    have d13 : gg 32 = .bool (decide (¬ (ga[k]'hlt).ty = (gb[k]'hly).ty)) := hd 13 (dep_of kR)
    have e32 := d13
    refine guard_case 32 ((decide (¬ (ga[k]'hlt).ty = (gb[k]'hly).ty))) rfl e32 (fun hgc => ?_) (fun hgc => ⟨fun h => absurd (h.symm.trans hgc) dE, fun _ => rfl⟩)
    refine os_know 32 (.bool (decide (¬ (ga[k]'hlt).ty = (gb[k]'hly).ty))) e32 nu ?_
    refine os_rv (r_mv (v := .int _ _) rfl) ⟨Same.refl _ _, ?_, frsh_no⟩
    exact ⟨fun _ => rfl, fun h => absurd (h.symm.trans hgc) dE⟩
   | 23, _, hoq =>
    obtain rfl := sI hoq
    have hs0 := hs
    clear hs
    have d13 : gg 32 = .bool (decide (¬ (ga[k]'hlt).ty = (gb[k]'hly).ty)) := hd 13 (dep_of kR)
    have e32 := d13
    have d21 : (((decide (¬ (ga[k]'hlt).ty = (gb[k]'hly).ty))) = false → gg 40 = .slice (some ⟨bb, bo, none⟩) gb.length d) ∧ (((decide (¬ (ga[k]'hlt).ty = (gb[k]'hly).ty))) = true → gg 40 = undef) := hd 21 (dep_of kR)
    have d22 : (((decide (¬ (ga[k]'hlt).ty = (gb[k]'hly).ty))) = false → gg 41 = .int .i64 k) ∧ (((decide (¬ (ga[k]'hlt).ty = (gb[k]'hly).ty))) = true → gg 41 = undef) := hd 22 (dep_of kR)
    refine guard_case 32 ((decide (¬ (ga[k]'hlt).ty = (gb[k]'hly).ty))) rfl e32 (fun hgc => ?_) (fun hgc => ⟨fun h => absurd (h.symm.trans hgc) dE, fun _ => rfl⟩)
    have e40 := d21.1 hgc
    have e41 := d22.1 hgc
    refine os_know 32 (.bool (decide (¬ (ga[k]'hlt).ty = (gb[k]'hly).ty))) e32 nu (os_know 40 (.slice (some ⟨bb, bo, none⟩) gb.length d) e40 nu (os_know 41 (.int .i64 k) e41 nu ?_))
    refine os_rv (r_ia (i := k) U26 sz33 rfl rfl om rfl) ⟨Same.refl _ _, ?_, frsh_no⟩
    exact ⟨fun _ => rfl, fun h => absurd (h.symm.trans hgc) dE⟩
   | 24, _, hoq =>
    obtain rfl := sI hoq
    have hs0 := hs
    clear hs
    have d13 : gg 32 = .bool (decide (¬ (ga[k]'hlt).ty = (gb[k]'hly).ty)) := hd 13 (dep_of kR)
    have e32 := d13
    have d23 : (((decide (¬ (ga[k]'hlt).ty = (gb[k]'hly).ty))) = false → gg 42 = .pointer (some ⟨bb, bo + k * 2, none⟩)) ∧ (((decide (¬ (ga[k]'hlt).ty = (gb[k]'hly).ty))) = true → gg 42 = undef) := hd 23 (dep_of kR)
    refine guard_case 32 ((decide (¬ (ga[k]'hlt).ty = (gb[k]'hly).ty))) rfl e32 (fun hgc => ?_) (fun hgc => ⟨fun h => absurd (h.symm.trans hgc) dE, fun _ => rfl⟩)
    have e42 := d23.1 hgc
    refine os_know 32 (.bool (decide (¬ (ga[k]'hlt).ty = (gb[k]'hly).ty))) e32 nu (os_know 42 (.pointer (some ⟨bb, bo + k * 2, none⟩)) e42 nu ?_)
    refine os_rv (r_fa U33 sz31 dE rfl rfl rfl) ⟨Same.refl _ _, ?_, frsh_no⟩
    exact ⟨fun _ => rfl, fun h => absurd (h.symm.trans hgc) dE⟩
   | 25, _, hoq =>
    obtain rfl := sI hoq
    have hs0 := hs
    replace hB := hB.tr0 hs
    clear hs
    have d13 : gg 32 = .bool (decide (¬ (ga[k]'hlt).ty = (gb[k]'hly).ty)) := hd 13 (dep_of kR)
    have e32 := d13
    have d24 : (((decide (¬ (ga[k]'hlt).ty = (gb[k]'hly).ty))) = false → gg 43 = .pointer (some ⟨bb, bo + k * 2 + 1, none⟩)) ∧ (((decide (¬ (ga[k]'hlt).ty = (gb[k]'hly).ty))) = true → gg 43 = undef) := hd 24 (dep_of kR)
    refine guard_case 32 ((decide (¬ (ga[k]'hlt).ty = (gb[k]'hly).ty))) rfl e32 (fun hgc => ?_) (fun hgc => ⟨fun h => absurd (h.symm.trans hgc) dE, fun _ => rfl⟩)
    have e43 := d24.1 hgc
    refine os_know 32 (.bool (decide (¬ (ga[k]'hlt).ty = (gb[k]'hly).ty))) e32 nu (os_know 43 (.pointer (some ⟨bb, bo + k * 2 + 1, none⟩)) e43 nu ?_)
    refine os_rv (r_ld1 (v := .slice _ _ _) U31 rfl rfl (hB.cell hbb (hbr 1 _ rfl))) ⟨Same.refl _ _, ?_, frsh_no⟩
    exact ⟨fun _ => rfl, fun h => absurd (h.symm.trans hgc) dE⟩
   | 26, _, hoq =>
    obtain rfl := sI hoq
    have hs0 := hs
    replace hB := hB.tr0 hs
    clear hs
    have d13 : gg 32 = .bool (decide (¬ (ga[k]'hlt).ty = (gb[k]'hly).ty)) := hd 13 (dep_of kR)
    have e32 := d13
    have d19 : (((decide (¬ (ga[k]'hlt).ty = (gb[k]'hly).ty))) = false → gg 38 = .slice LA (ga[k]'hlt).ln.length la) ∧ (((decide (¬ (ga[k]'hlt).ty = (gb[k]'hly).ty))) = true → gg 38 = undef) := hd 19 (dep_of kR)
    have d25 : (((decide (¬ (ga[k]'hlt).ty = (gb[k]'hly).ty))) = false → gg 44 = .slice LB (gb[k]'hly).ln.length lb) ∧ (((decide (¬ (ga[k]'hlt).ty = (gb[k]'hly).ty))) = true → gg 44 = undef) := hd 25 (dep_of kR)
    refine guard_case 32 ((decide (¬ (ga[k]'hlt).ty = (gb[k]'hly).ty))) rfl e32 (fun hgc => ?_) (fun hgc => ⟨fun h => absurd (h.symm.trans hgc) dE, fun _ => rfl⟩)
    have e38 := d19.1 hgc
    have e44 := d25.1 hgc
    refine os_know 32 (.bool (decide (¬ (ga[k]'hlt).ty = (gb[k]'hly).ty))) e32 nu (os_know 38 (.slice LA (ga[k]'hlt).ln.length la) e38 nu (os_know 44 (.slice LB (gb[k]'hly).ln.length lb) e44 nu ?_))
    refine os_cl fn59 (leq_any _ _ _ _ _ _ wx (haln.mono hB) (hbln.mono hB)) rfl (fun e' w2 hr => ?_)
    obtain ⟨rfl, hs⟩ := hr
    exact ⟨_, rfl, Same.of_bel hs, ⟨fun _ => rfl, fun h => absurd (h.symm.trans hgc) dE⟩, frsh_no⟩
   | 27, _, hoq =>
    obtain rfl := sI hoq
    have hs0 := hs
    clear hs
    have d13 : gg 32 = .bool (decide (¬ (ga[k]'hlt).ty = (gb[k]'hly).ty)) := hd 13 (dep_of kR)
    have e32 := d13
    have d26 : (((decide (¬ (ga[k]'hlt).ty = (gb[k]'hly).ty))) = false → gg 45 = .bool (decide ((ga[k]'hlt).ln = (gb[k]'hly).ln))) ∧ (((decide (¬ (ga[k]'hlt).ty = (gb[k]'hly).ty))) = true → gg 45 = undef) := hd 26 (dep_of kR)
    refine guard_case 32 ((decide (¬ (ga[k]'hlt).ty = (gb[k]'hly).ty))) rfl e32 (fun hgc => ?_) (fun hgc => ⟨fun h => absurd (h.symm.trans hgc) dE, fun _ => rfl⟩)
    have e45 := d26.1 hgc
    refine os_know 32 (.bool (decide (¬ (ga[k]'hlt).ty = (gb[k]'hly).ty))) e32 nu (os_know 45 (.bool (decide ((ga[k]'hlt).ln = (gb[k]'hly).ln))) e45 nu ?_)
    refine os_rv (r_not rfl) ⟨Same.refl _ _, ?_, frsh_no⟩
    exact ⟨fun _ => rfl, fun h => absurd (h.symm.trans hgc) dE⟩
   | 28, _, hoq =>
    obtain rfl := sI hoq
    have hs0 := hs
    clear hs
    have d13 : gg 32 = .bool (decide (¬ (ga[k]'hlt).ty = (gb[k]'hly).ty)) := hd 13 (dep_of kR)
    have e32 := d13
    have d27 : (((decide (¬ (ga[k]'hlt).ty = (gb[k]'hly).ty))) = false → gg 46 = .bool (!decide ((ga[k]'hlt).ln = (gb[k]'hly).ln))) ∧ (((decide (¬ (ga[k]'hlt).ty = (gb[k]'hly).ty))) = true → gg 46 = undef) := hd 27 (dep_of kR)
    refine ⟨fun _ => ?_, fun hw => Bool.noConfusion (show true = false from hw)⟩
    cases hcc : (decide (¬ (ga[k]'hlt).ty = (gb[k]'hly).ty)) with
    | true =>
     rw [hcc] at e32
     refine os_know 32 (.bool true) e32 nu ?_
     refine os_rv (r_pt (v := .bool _) rfl rfl) ⟨Same.refl _ _, ?_, frsh_no⟩
     exact rfl
    | false =>
     have e46 := d27.1 hcc
     rw [hcc] at e32
     refine os_know 32 (.bool false) e32 nu (os_know 46 (.bool (!decide ((ga[k]'hlt).ln = (gb[k]'hly).ln))) e46 nu ?_)
     refine os_rv (r_pf (v := .bool _) rfl rfl) ⟨Same.refl _ _, ?_, frsh_no⟩
     exact rfl
   | _ + 29, hix, _ => exact absurd hix om
  intro gg w4 hs hR hdis
  have hs0 := hs
  replace hB := hB.tr0 hs
  replace hb2 := hb2.tr0 hs
  replace hb3 := hb3.tr0 hs
  clear hs
  have d28 : gg 47 = .bool (decide (¬ (ga[k]'hlt).ty = (gb[k]'hly).ty) || !decide ((ga[k]'hlt).ln = (gb[k]'hly).ln)) := hR 28 dE
  have e47 := d28
  refine wl_know 47 (.bool (decide (¬ (ga[k]'hlt).ty = (gb[k]'hly).ty) || !decide ((ga[k]'hlt).ln = (gb[k]'hly).ln))) e47 nu (x_nil (e_S ?_))
  refine c_if rfl (fun c47 => ?_) (fun c47 => ?_)
  ·
   refine c_seq (c_region (waB rfl (x_nil (e_S (c_ret ?_)))))
   refine e_Br (e_Sr (e_LSr (e_Br (e_Sr (fin1 (.inl rfl) rfl rfl ?_)))))
   exact ⟨ret_bool (decide_eq_false (fun h => by
     subst h
     simp at c47)), hB⟩
  have hx : ga[k]'hlt = gb[k]'hly := by
    simp only [Bool.or_eq_false_iff, decide_eq_false_iff_not, Bool.not_eq_false', decide_eq_true_eq] at c47
    exact nd_ext (Decidable.not_not.1 c47.1) c47.2
  refine c_skip (e_B (e_S (c_region (wl (r_add rfl rfl rfl om) (wmI rfl ?_)))))
  refine x_nil (e_LS (ga.length - (k + 1)) om agA ?_)
  exact ⟨k + 1, by omega, rfl, rfl, hB, hb2, hb3, by rw [List.take_succ_eq_append_getElem hlt, List.take_succ_eq_append_getElem hly, hE, hx]⟩
 have hek : k = ga.length := by omega
 have hfin : ga = gb := by
   rw [hek] at hE
   have e2 : gb.take ga.length = gb := List.take_of_length_le om
   rw [List.take_length, e2] at hE; exact hE
 refine c_exit (e_Sx (e_LSx (e_Bx (e_S (c_seq ?_)))))
 refine c_region (waB rfl (x_nil (e_S (c_ret (fin1 (.inl rfl) rfl rfl ?_)))))
 exact ⟨ret_bool (decide_eq_true hfin), hB⟩
end Go.Proofs.YtegngekpmpdngaaDoor
namespace Go.Proofs.YtegngekpmpdngaaDoor
open Go.RowKit
theorem links_of_blk {w : World} {b t : Nat} {cs : Array Value} (xs : List (Int × Int)) (h : Blk w b t cs) (he : cs = (lnV xs).toArray) (hl : xs.length ≤ maxI) : LinksIn w (some ⟨b, 0, none⟩) xs := by
  subst he
  refine ⟨hl, fun _ => ⟨b, 0, rfl, h.lt, fun k hk j v hj => ?_⟩⟩
  have h2 := lnV_get xs k hk
  match j, hj with
  | 0, hj => cases hj; exact h.cell (by simpa using h2.1)
  | 1, hj => cases hj; exact h.cell (by simpa using h2.2)
  | _ + 2, hj => cases hj
theorem links_nil (w : World) (A : Option Addr) : LinksIn w A [] := ⟨Nat.zero_le _, fun h => absurd rfl h⟩
inductive NdVs (w : World) : List Nd → List Value → Prop
  | nil : NdVs w [] []
  | cons {x : Nd} {l : List Nd} {vs : List Value} {A : Option Addr} {c : Nat} (h : LinksIn w A x.ln) (r : NdVs w l vs) : NdVs w (x :: l) (.int .i64 x.ty :: .slice A x.ln.length c :: vs)
theorem NdVs.get {w : World} {l : List Nd} {vs : List Value} (h : NdVs w l vs) : ∀ k (hk : k < l.length), ∃ A c, vs[k * 2]? = some (.int .i64 (l[k]).ty) ∧ vs[k * 2 + 1]? = some (.slice A (l[k]).ln.length c) ∧ LinksIn w A (l[k]).ln := by
  induction h with
  | nil => intro k hk; simp at hk
  | cons h r ih =>
    intro k hk
    match k, hk with
    | 0, _ => exact ⟨_, _, rfl, rfl, h⟩
    | k + 1, hk =>
      obtain ⟨A, c, h1, h2, h3⟩ := ih k (by simpa using hk)
      refine ⟨A, c, ?_, ?_, h3⟩
      · rw [show (k + 1) * 2 = k * 2 + 1 + 1 from by omega]; simpa using h1
      · rw [show (k + 1) * 2 + 1 = k * 2 + 1 + 1 + 1 from by omega]; simpa using h2
theorem nodes_of_blk {w : World} {b t : Nat} {l : List Nd} {vs : List Value} (h : Blk w b t vs.toArray) (hv : NdVs w l vs) (hl : l.length ≤ maxI) : NodesIn w (some ⟨b, 0, none⟩) l :=
  ⟨hl, fun _ => ⟨b, 0, rfl, h.lt, fun k hk => by
    obtain ⟨A, c, h1, h2, h3⟩ := hv.get k hk
    refine ⟨A, c, fun j v hj => ?_, h3⟩
    match j, hj with
    | 0, hj => cases hj; exact h.cell (by simpa using h1)
    | 1, hj => cases hj; exact h.cell (by simpa using h2)
    | _ + 2, hj => cases hj⟩⟩
end Go.Proofs.YtegngekpmpdngaaDoor
namespace Go.Proofs.YtegngekpmpdngaaDoor
open Go.RowKit
def tgt (xs : List (Int × Int)) (f : Int) : Int := match xs.find? (fun y => decide (y.1 = f)) with
  | some y => y.2
  | none => -1
theorem tgt_at {f : Int} : ∀ {xs : List (Int × Int)} {i : Nat} (hi : i < xs.length), (xs[i]).1 = f → (∀ j (hj : j < xs.length), j < i → ¬ (xs[j]).1 = f) → tgt xs f = (xs[i]).2
  | [], _, hi, _, _ => absurd hi (by simp)
  | x :: xs, 0, _, h, _ => by
    have h1 : x.1 = f := h
    unfold tgt
    rw [List.find?_cons, decide_eq_true h1]
    rfl
  | x :: xs, i + 1, hi, h, hb => by
    have h0 : ¬ x.1 = f := hb 0 (by simp) om
    have ih := tgt_at (xs := xs) (i := i) (by simpa using hi) h (fun j hj hji => hb (j + 1) (by simpa using hj) om)
    unfold tgt at ih ⊢
    rw [List.find?_cons, decide_eq_false h0]
    exact ih
theorem tgt_no {f : Int} : ∀ {xs : List (Int × Int)}, (∀ j (hj : j < xs.length), ¬ (xs[j]).1 = f) → tgt xs f = -1
  | [], _ => rfl
  | x :: xs, h => by
    have h0 : ¬ x.1 = f := h 0 (by simp)
    have ih := tgt_no (xs := xs) (f := f) (fun j hj => h (j + 1) (by simpa using hj))
    unfold tgt at ih ⊢
    rw [List.find?_cons, decide_eq_false h0]
    exact ih
theorem ln_sorted {nf n : Nat} : ∀ {xs : List (Int × Int)} {last : Int}, lnFault nf n last xs = 0 → (∀ j (hj : j < xs.length), last < (xs[j]).1) ∧ ∀ i j (hi : i < xs.length) (hj : j < xs.length), i < j → (xs[i]).1 < (xs[j]).1
  | [], _, _ => ⟨fun j hj => absurd hj (by simp), fun i j hi => absurd hi (by simp)⟩
  | y :: ys, last, h => by
    unfold lnFault at h
    by_cases h1 : lnBad nf n y
    · rw [if_pos h1] at h; cases h
    rw [if_neg h1] at h
    by_cases h2 : y.1 ≤ last
    · rw [if_pos h2] at h; cases h
    rw [if_neg h2] at h
    obtain ⟨ih1, ih2⟩ := ln_sorted h
    refine ⟨fun j hj => ?_, fun i j hi hj hij => ?_⟩
    · match j, hj with
      | 0, _ => show last < y.1; omega
      | j + 1, hj =>
        have := ih1 j (by simpa using hj)
        show last < (ys[j]'(by simpa using hj)).1
        omega
    · match i, j, hi, hj, hij with
      | 0, j + 1, _, hj, _ => exact ih1 j (by simpa using hj)
      | i + 1, j + 1, hi, hj, hij => exact ih2 i j (by simpa using hi) (by simpa using hj) om
theorem tgt_bs {nf n : Nat} {xs : List (Int × Int)} {last f : Int} {i : Nat} (hs : lnFault nf n last xs = 0) (hlo : ∀ j (hj : j < xs.length), j < i → (xs[j]).1 < f) (hhi : ∀ j (hj : j < xs.length), i ≤ j → f ≤ (xs[j]).1) :
    (∀ h : i < xs.length, (xs[i]).1 = f → tgt xs f = (xs[i]).2) ∧ ((¬ ∃ h : i < xs.length, (xs[i]).1 = f) → tgt xs f = -1) := by
  refine ⟨fun h e => tgt_at h e (fun j hj hji => by have := hlo j hj hji; omega), fun hn => tgt_no (fun j hj e => ?_)⟩
  by_cases h1 : j < i
  · have := hlo j hj h1; omega
  · by_cases h2 : j = i
    · subst h2; exact hn ⟨hj, e⟩
    · have h3 := (ln_sorted hs).2 i j om hj om
      have h4 := hhi i om (Nat.le_refl _)
      omega
theorem tgt_mem {xs : List (Int × Int)} {f : Int} : tgt xs f = -1 ∨ ∃ y ∈ xs, y.1 = f ∧ tgt xs f = y.2 := by
  unfold tgt
  cases h : xs.find? (fun y => decide (y.1 = f)) with
  | none => exact .inl rfl
  | some y => exact .inr ⟨y, List.mem_of_find?_eq_some h, by simpa using List.find?_some h, rfl⟩
theorem tgt_rng {nt nf : Nat} {g : List Nd} (hk : GOk nt nf g) {i : Nat} (hi : i < g.length) (f : Int) : -1 ≤ tgt (g[i]).ln f ∧ tgt (g[i]).ln f < g.length := by
  rcases tgt_mem (xs := (g[i]).ln) (f := f) with h | ⟨y, hy, _, h⟩
  · rw [h]; omega
  · have := hk.ln i hi y hy
    rw [h]; omega
def walkT (g : List Nd) : List Int → Int → Int
  | [], a => a
  | f :: p, a => if a < 0 then a else walkT g p (tgt (nd g a.toNat).ln f)
def pF (nf : Nat) (p : List Int) (i : Nat) : Int := match p[i]? with
  | none => 0
  | some x => if x < 0 ∨ (nf : Int) ≤ x then 3 else 0
noncomputable def atF (l : List Ty) (fs : List Ft) (g : List Nd) (p : List Int) : Fl := if ¬ (graphF l fs g).1 = 0 then graphF l fs g else if 300 < p.length then (2, -3) else firstF (pF fs.length p) 0 p.length
def AtOk (l : List Ty) (fs : List Ft) (g : List Nd) (p : List Int) : Prop := (atF l fs g p).1 = 0 ∧ 0 ≤ walkT g p 0
noncomputable instance (l : List Ty) (fs : List Ft) (g : List Nd) (p : List Int) : Decidable (AtOk l fs g p) := Classical.propDecidable _
end Go.Proofs.YtegngekpmpdngaaDoor
