/- What these functions of the program compute, at every world: slices.Equal[[]glosswright/api.Feat,glosswright/api.Feat], glosswright/glosswrightequal.Types, glosswright/glosswrightequal.Hierarchies. The depth-first traversal of a graph as a relation, the numbers that it gives, and worlds that change in few blocks. The engine's fourth part: a check of a pointer, a slice that owns its cells opened and closed again, rows of cells told by a list. A graph in memory that nobody else can reach: its nodes may be written in place. Types and links apart. No program in sight. -/
import Derived.Test.YtegngekpmpdngaaDoorU
import Derived.Test.YtegngekpmpdngaaDoorName
import Derived.Test.YtegngekpmpdngaaDoorNIeq
import Derived.Test.YtegngekpmpdngaaDoorEng2
import Derived.Lib.AppendZerosOnto
namespace Go.Proofs.YtegngekpmpdngaaDoor
open Go.RowKit
theorem fd63 : (Tryd.prog.fieldsOf 63).toList.map (fun f => (f.name == "_", f.type, f.offset)) = [(false, 9, 0), (false, 3, 1), (false, 3, 2)] := by kernel_rfl
theorem fn12 : callable Tryd.prog 12 = true := by kernel_rfl
theorem fn46 : callable Tryd.prog 46 = true := by kernel_rfl
theorem fn47 : callable Tryd.prog 47 = true := by kernel_rfl
theorem ft63 : Tryd.prog.underlying 63 = some (.struct (Tryd.prog.fieldsOf 63)) := by kernel_rfl
theorem sz43_HEq : (Tryd.prog.info? 43).map (·.size) = some 1 := by kernel_rfl
theorem sz9_HEq : (Tryd.prog.info? 9).map (·.size) = some 1 := by kernel_rfl
theorem feq_any (A B : Option Addr) (c d : Nat) (xs ys : List Ft) (w : World) (hX : FeatsIn w A xs) (hY : FeatsIn w B ys) : Calls Tryd.prog 47 #[.slice A xs.length c, .slice B ys.length d] w fun e w' => (∃ b, e = .returned (.bool b) ∧ (b = true ↔ xs = ys)) ∧ Bel w w' := by
 have hmx := hX.1
 unfold maxI at hmx
 refine enter Tryd.func47 Tryd.ntmps47 rfl (Nat.le_of_ble_eq_true rfl) ?_
 have hB : Bel w w := Below.refl _ _
 refine c_seq (c_region (waB rfl (x_nil (e_S (c_seq ?_)))))
 refine c_seq (c_region (wmS rfl (wl (r_len U23 rfl) (wmS rfl (wl (r_len U23 rfl) ?_)))))
 refine wl (r_neq rfl rfl) (x_nil (e_S ?_))
 refine c_ifd rfl (fun c10 => ?_) (fun c10 => ?_)
 ·
  refine c_seq (c_region (waB rfl (x_nil (e_S (c_ret ?_)))))
  refine e_Sr (fin1 (.inl rfl) rfl rfl ?_)
  exact ⟨⟨false, rfl, ⟨fun h => Bool.noConfusion h, fun h => absurd (by rw [h]) c10⟩⟩, hB⟩
 refine c_skip (e_S (c_seq (c_seq (c_region (wmS rfl ?_)))))
 refine wl (r_len U23 rfl) (wmI rfl (x_nil (e_S (c_block ?_))))
 refine c_loopS [4, 5, 13, 14, 15, 16, 17, 18, 19, 20, 21, 22, 23, 24, 25] (fun m g w' => ∃ k : Nat, k ≤ xs.length ∧ m = xs.length - k ∧ g 13 = .int .i64 k ∧ Bel w w' ∧ xs.take k = ys.take k) (xs.length) ?_ (fun m g4 w1 hI => ?_)
 ·
  exact ⟨0, Nat.zero_le _, rfl, rfl, hB, rfl⟩
 obtain ⟨k, hk, hm, h13, hB, hE⟩ := hI
 refine c_know 13 (.int .i64 k) h13 nu (c_seq (c_region (wl (r_lss rfl rfl) (x_nil (e_S ?_)))))
 refine c_seq ?_
 refine c_ifd rfl (fun c14 => ?_) (fun c14 => ?_)
 ·
  have hlt : k < xs.length := by omega
  have hly : k < ys.length := by omega
  obtain ⟨pb, po, rfl, hpb, hpc⟩ := hX.at_ (Below.refl _ _ : Bel w w) hlt
  obtain ⟨qb, qo, rfl, hqb, hqc⟩ := hY.at_ (Below.refl _ _ : Bel w w) hly
  refine c_skip (e_S (c_seq (c_block (c_seq (c_region ?_)))))
  refine wmI rfl (waI rfl (x_nil (e_S (c_seq ?_))))
  refine c_still kR kR (fun w2 hs => ?_)
  replace hB := hB.tr0 hs
  clear hs
  refine ws (r_mv (v := .slice _ _ _) rfl) (ws (r_mv (v := .int _ _) rfl) (ws (r_ia (i := k) U23 sz63_GVal rfl rfl om rfl) (ws (r_ldS U63 rfl rfl (hB.range hpb hpc) sz63_GVal) (ws (r_mv (v := .slice _ _ _) rfl) (ws (r_mv (v := .int _ _) rfl) ?_)))))
  refine ws (r_ia (i := k) U23 sz63_GVal rfl rfl om rfl) (ws (r_ldS U63 rfl rfl (hB.range hqb hqc) sz63_GVal) (ws (r_ne3 Tryd.eqGuardType63 ft63 Tryd.stoodInHeld63 fd63 U9 U3 rfl rfl) (s_nil (e_S ?_))))
  refine c_ifd rfl (fun c24 => ?_) (fun c24 => ?_)
  ·
   refine c_seq (c_region (waB rfl (x_nil (e_S (c_ret ?_)))))
   refine e_Br (e_Sr (e_LSr (e_Br (e_Sr (fin1 (.inl rfl) rfl rfl ?_)))))
   exact ⟨⟨false, rfl, ⟨fun h => Bool.noConfusion h, fun h => absurd (by subst h; exact ⟨rfl, rfl, rfl⟩) c24⟩⟩, hB⟩
  have hx : xs[k]'hlt = ys[k]'hly := ft_ext (Decidable.not_not.1 c24)
  refine c_skip (e_B (e_S (c_region (wl (r_add rfl rfl rfl om) (wmI rfl ?_)))))
  refine x_nil (e_LS (xs.length - (k + 1)) om agA ?_)
  exact ⟨k + 1, by omega, rfl, rfl, hB, by rw [List.take_succ_eq_append_getElem hlt, List.take_succ_eq_append_getElem hly, hE, hx]⟩
 have hek : k = xs.length := by omega
 have hfin : xs = ys := by
   rw [hek] at hE
   have e2 : ys.take xs.length = ys := List.take_of_length_le om
   rw [List.take_length, e2] at hE; exact hE
 refine c_exit (e_Sx (e_LSx (e_Bx (e_S (c_seq ?_)))))
 refine c_region (waB rfl (x_nil (e_S (c_ret (fin1 (.inl rfl) rfl rfl ?_)))))
 exact ⟨⟨true, rfl, ⟨fun _ => hfin, fun _ => rfl⟩⟩, hB⟩
set_option maxHeartbeats 1000000 in
theorem teq_any (A B : Option Addr) (c d : Nat) (xs ys : List Ty) (w : World) (hX : TypesIn w A xs) (hY : TypesIn w B ys) : Calls Tryd.prog 46 #[.slice A xs.length c, .slice B ys.length d] w fun e w' => (∃ b, e = .returned (.bool b) ∧ (b = true ↔ xs = ys)) ∧ Bel w w' := by
 have hmx := hX.1
 unfold maxI at hmx
 refine enter Tryd.func46 Tryd.ntmps46 rfl (Nat.le_of_ble_eq_true rfl) ?_
 have hB : Bel w w := Below.refl _ _
 refine c_seq (c_region (waB rfl (x_nil (e_S (c_seq ?_)))))
 refine c_seq (c_region (wmS rfl (wl (r_len U22 rfl) (wmS rfl (wl (r_len U22 rfl) ?_)))))
 refine wl (r_neq rfl rfl) (x_nil (e_S ?_))
 refine c_ifd rfl (fun c10 => ?_) (fun c10 => ?_)
 ·
  refine c_seq (c_region (waB rfl (x_nil (e_S (c_ret ?_)))))
  refine e_Sr (fin1 (.inl rfl) rfl rfl ?_)
  exact ⟨⟨false, rfl, ⟨fun h => Bool.noConfusion h, fun h => absurd (by rw [h]) c10⟩⟩, hB⟩
 refine c_skip (e_S (c_seq (c_seq (c_region (wmS rfl ?_)))))
 refine wl (r_len U22 rfl) (wmI rfl (x_nil (e_S (c_block ?_))))
 refine c_loopS [4, 5, 13, 14, 15, 16, 17, 18, 19, 20, 21, 22, 23, 24, 25, 26, 27, 28, 29, 30, 31, 32, 33, 34, 35, 36, 37, 38, 39, 40, 41] (fun m g w' => ∃ k : Nat, k ≤ xs.length ∧ m = xs.length - k ∧ g 13 = .int .i64 k ∧ Bel w w' ∧ xs.take k = ys.take k) (xs.length) ?_ (fun m g4 w1 hI => ?_)
 ·
  exact ⟨0, Nat.zero_le _, rfl, rfl, hB, rfl⟩
 obtain ⟨k, hk, hm, h13, hB, hE⟩ := hI
 refine c_know 13 (.int .i64 k) h13 nu (c_seq (c_region (wl (r_lss rfl rfl) (x_nil (e_S ?_)))))
 refine c_seq ?_
 refine c_ifd rfl (fun c14 => ?_) (fun c14 => ?_)
 ·
  have hlt : k < xs.length := by omega
  have hly : k < ys.length := by omega
  obtain ⟨ab, ao, LA, la, rfl, hab, har, haln⟩ := hX.at_ (Below.refl _ _ : Bel w w) hlt
  obtain ⟨bb, bo, LB, lb, rfl, hbb, hbr, hbln⟩ := hY.at_ (Below.refl _ _ : Bel w w) hly
  refine c_skip (e_S (c_seq (c_block (c_seq (c_region ?_)))))
  refine wmI rfl (waI rfl (x_nil (e_S (c_seq ?_))))
  refine c_monoGO 25 [16, 17, 18, 19, 20, 21, 22, 23, 24, 25, 26, 27, 28, 29, 30, 31, 32, 33, 34, 35, 36, 37, 38, 39, 40] (fun _ => false) (fun ix v wv => match ix with | 0 => v = .slice (some ⟨ab, ao, none⟩) xs.length c | 1 => v = .int .i64 k | 2 => v = .pointer (some ⟨ab, ao + k * 2, none⟩) | 3 => v = .pointer (some ⟨ab, ao + k * 2 + 0, none⟩) | 4 => v = .string (xs[k]'hlt).name | 5 => v = .slice (some ⟨bb, bo, none⟩) ys.length d | 6 => v = .int .i64 k | 7 => v = .pointer (some ⟨bb, bo + k * 2, none⟩) | 8 => v = .pointer (some ⟨bb, bo + k * 2 + 0, none⟩) | 9 => v = .string (ys[k]'hly).name | 10 => v = .bool (decide ((xs[k]'hlt).name ≠ (ys[k]'hly).name)) | 11 => v = .bool (decide ((xs[k]'hlt).name ≠ (ys[k]'hly).name)) | 12 => (((decide ((xs[k]'hlt).name ≠ (ys[k]'hly).name))) = false → v = .slice (some ⟨ab, ao, none⟩) xs.length c) ∧ (((decide ((xs[k]'hlt).name ≠ (ys[k]'hly).name))) = true → v = undef) | 13 => (((decide ((xs[k]'hlt).name ≠ (ys[k]'hly).name))) = false → v = .int .i64 k) ∧ (((decide ((xs[k]'hlt).name ≠ (ys[k]'hly).name))) = true → v = undef) | 14 => (((decide ((xs[k]'hlt).name ≠ (ys[k]'hly).name))) = false → v = .pointer (some ⟨ab, ao + k * 2, none⟩)) ∧ (((decide ((xs[k]'hlt).name ≠ (ys[k]'hly).name))) = true → v = undef) | 15 => (((decide ((xs[k]'hlt).name ≠ (ys[k]'hly).name))) = false → v = .pointer (some ⟨ab, ao + k * 2 + 1, none⟩)) ∧ (((decide ((xs[k]'hlt).name ≠ (ys[k]'hly).name))) = true → v = undef) | 16 => (((decide ((xs[k]'hlt).name ≠ (ys[k]'hly).name))) = false → v = .slice LA (xs[k]'hlt).par.length la) ∧ (((decide ((xs[k]'hlt).name ≠ (ys[k]'hly).name))) = true → v = undef) | 17 => (((decide ((xs[k]'hlt).name ≠ (ys[k]'hly).name))) = false → v = .slice (some ⟨bb, bo, none⟩) ys.length d) ∧ (((decide ((xs[k]'hlt).name ≠ (ys[k]'hly).name))) = true → v = undef) | 18 => (((decide ((xs[k]'hlt).name ≠ (ys[k]'hly).name))) = false → v = .int .i64 k) ∧ (((decide ((xs[k]'hlt).name ≠ (ys[k]'hly).name))) = true → v = undef) | 19 => (((decide ((xs[k]'hlt).name ≠ (ys[k]'hly).name))) = false → v = .pointer (some ⟨bb, bo + k * 2, none⟩)) ∧ (((decide ((xs[k]'hlt).name ≠ (ys[k]'hly).name))) = true → v = undef) | 20 => (((decide ((xs[k]'hlt).name ≠ (ys[k]'hly).name))) = false → v = .pointer (some ⟨bb, bo + k * 2 + 1, none⟩)) ∧ (((decide ((xs[k]'hlt).name ≠ (ys[k]'hly).name))) = true → v = undef) | 21 => (((decide ((xs[k]'hlt).name ≠ (ys[k]'hly).name))) = false → v = .slice LB (ys[k]'hly).par.length lb) ∧ (((decide ((xs[k]'hlt).name ≠ (ys[k]'hly).name))) = true → v = undef) | 22 => (((decide ((xs[k]'hlt).name ≠ (ys[k]'hly).name))) = false → v = .bool (decide ((xs[k]'hlt).par = (ys[k]'hly).par))) ∧ (((decide ((xs[k]'hlt).name ≠ (ys[k]'hly).name))) = true → v = undef) | 23 => (((decide ((xs[k]'hlt).name ≠ (ys[k]'hly).name))) = false → v = .bool (!decide ((xs[k]'hlt).par = (ys[k]'hly).par))) ∧ (((decide ((xs[k]'hlt).name ≠ (ys[k]'hly).name))) = true → v = undef) | 24 => v = .bool (decide ((xs[k]'hlt).name ≠ (ys[k]'hly).name) || !decide ((xs[k]'hlt).par = (ys[k]'hly).par)) | _ => True) kR kR ?_ ?_ ?_
  ·
   intro ix v wv wv2 h hs
   match ix, h with
   | 0, h => exact h
   | 1, h => exact h
   | 2, h => exact h
   | 3, h => exact h
   | 4, h => exact h
   | 5, h => exact h
   | 6, h => exact h
   | 7, h => exact h
   | 8, h => exact h
   | 9, h => exact h
   | 10, h => exact h
   | 11, h => exact h
   | 12, h => exact h
   | 13, h => exact h
   | 14, h => exact h
   | 15, h => exact h
   | 16, h => exact h
   | 17, h => exact h
   | 18, h => exact h
   | 19, h => exact h
   | 20, h => exact h
   | 21, h => exact h
   | 22, h => exact h
   | 23, h => exact h
   | 24, h => exact h
   | _ + 25, h => exact trivial
  ·
   intro ix o hix hoq gg wx hs hd hdis
   match ix, hix, hoq with
   | 0, _, hoq =>
    obtain rfl := sI hoq
    have hs0 := hs
    clear hs
    refine ⟨fun _ => ?_, fun hw => Bool.noConfusion (show true = false from hw)⟩
    refine os_rv (r_mv (v := .slice _ _ _) rfl) ⟨Same.refl _ _, ?_, frsh_no⟩
    exact rfl
   | 1, _, hoq =>
    obtain rfl := sI hoq
    have hs0 := hs
    clear hs
    refine ⟨fun _ => ?_, fun hw => Bool.noConfusion (show true = false from hw)⟩
    refine os_rv (r_mv (v := .int _ _) rfl) ⟨Same.refl _ _, ?_, frsh_no⟩
    exact rfl
   | 2, _, hoq =>
    obtain rfl := sI hoq
    have hs0 := hs
    clear hs
    have d0 : gg 16 = .slice (some ⟨ab, ao, none⟩) xs.length c := hd 0 (dep_of kR)
    have e16 := d0
    have d1 : gg 17 = .int .i64 k := hd 1 (dep_of kR)
    have e17 := d1
    refine ⟨fun _ => ?_, fun hw => Bool.noConfusion (show true = false from hw)⟩
    refine os_know 16 (.slice (some ⟨ab, ao, none⟩) xs.length c) e16 nu (os_know 17 (.int .i64 k) e17 nu ?_)
    refine os_rv (r_ia (i := k) U22 sz77_GLaw rfl rfl om rfl) ⟨Same.refl _ _, ?_, frsh_no⟩
    exact rfl
   | 3, _, hoq =>
    obtain rfl := sI hoq
    have hs0 := hs
    clear hs
    have d2 : gg 18 = .pointer (some ⟨ab, ao + k * 2, none⟩) := hd 2 (dep_of kR)
    have e18 := d2
    refine ⟨fun _ => ?_, fun hw => Bool.noConfusion (show true = false from hw)⟩
    refine os_know 18 (.pointer (some ⟨ab, ao + k * 2, none⟩)) e18 nu ?_
    refine os_rv (r_fa U77 sz9_HEq dE rfl rfl rfl) ⟨Same.refl _ _, ?_, frsh_no⟩
    exact rfl
   | 4, _, hoq =>
    obtain rfl := sI hoq
    have hs0 := hs
    replace hB := hB.tr0 hs
    clear hs
    have d3 : gg 19 = .pointer (some ⟨ab, ao + k * 2 + 0, none⟩) := hd 3 (dep_of kR)
    have e19 := d3
    refine ⟨fun _ => ?_, fun hw => Bool.noConfusion (show true = false from hw)⟩
    refine os_know 19 (.pointer (some ⟨ab, ao + k * 2 + 0, none⟩)) e19 nu ?_
    refine os_rv (r_ld1 (v := .string _) U9 rfl rfl (hB.cell hab (har 0 _ rfl))) ⟨Same.refl _ _, ?_, frsh_no⟩
    exact rfl
   | 5, _, hoq =>
    obtain rfl := sI hoq
    have hs0 := hs
    clear hs
    refine ⟨fun _ => ?_, fun hw => Bool.noConfusion (show true = false from hw)⟩
    refine os_rv (r_mv (v := .slice _ _ _) rfl) ⟨Same.refl _ _, ?_, frsh_no⟩
    exact rfl
   | 6, _, hoq =>
    obtain rfl := sI hoq
    have hs0 := hs
    clear hs
    refine ⟨fun _ => ?_, fun hw => Bool.noConfusion (show true = false from hw)⟩
    refine os_rv (r_mv (v := .int _ _) rfl) ⟨Same.refl _ _, ?_, frsh_no⟩
    exact rfl
   | 7, _, hoq =>
    obtain rfl := sI hoq
    have hs0 := hs
    clear hs
    have d5 : gg 21 = .slice (some ⟨bb, bo, none⟩) ys.length d := hd 5 (dep_of kR)
    have e21 := d5
    have d6 : gg 22 = .int .i64 k := hd 6 (dep_of kR)
    have e22 := d6
    refine ⟨fun _ => ?_, fun hw => Bool.noConfusion (show true = false from hw)⟩
    refine os_know 21 (.slice (some ⟨bb, bo, none⟩) ys.length d) e21 nu (os_know 22 (.int .i64 k) e22 nu ?_)
    refine os_rv (r_ia (i := k) U22 sz77_GLaw rfl rfl om rfl) ⟨Same.refl _ _, ?_, frsh_no⟩
    exact rfl
   | 8, _, hoq =>
    obtain rfl := sI hoq
    have hs0 := hs
    clear hs
    have d7 : gg 23 = .pointer (some ⟨bb, bo + k * 2, none⟩) := hd 7 (dep_of kR)
    have e23 := d7
    refine ⟨fun _ => ?_, fun hw => Bool.noConfusion (show true = false from hw)⟩
    refine os_know 23 (.pointer (some ⟨bb, bo + k * 2, none⟩)) e23 nu ?_
    refine os_rv (r_fa U77 sz9_HEq dE rfl rfl rfl) ⟨Same.refl _ _, ?_, frsh_no⟩
    exact rfl
   | 9, _, hoq =>
    obtain rfl := sI hoq
    have hs0 := hs
    replace hB := hB.tr0 hs
    clear hs
    have d8 : gg 24 = .pointer (some ⟨bb, bo + k * 2 + 0, none⟩) := hd 8 (dep_of kR)
    have e24 := d8
    refine ⟨fun _ => ?_, fun hw => Bool.noConfusion (show true = false from hw)⟩
    refine os_know 24 (.pointer (some ⟨bb, bo + k * 2 + 0, none⟩)) e24 nu ?_
    refine os_rv (r_ld1 (v := .string _) U9 rfl rfl (hB.cell hbb (hbr 0 _ rfl))) ⟨Same.refl _ _, ?_, frsh_no⟩
    exact rfl
   | 10, _, hoq =>
    obtain rfl := sI hoq
    have hs0 := hs
    clear hs
    have d4 : gg 20 = .string (xs[k]'hlt).name := hd 4 (dep_of kR)
    have e20 := d4
    have d9 : gg 25 = .string (ys[k]'hly).name := hd 9 (dep_of kR)
    have e25 := d9
    refine ⟨fun _ => ?_, fun hw => Bool.noConfusion (show true = false from hw)⟩
    refine os_know 20 (.string (xs[k]'hlt).name) e20 nu (os_know 25 (.string (ys[k]'hly).name) e25 nu ?_)
    refine os_rv (r_neqS rfl rfl) ⟨Same.refl _ _, ?_, frsh_no⟩
    exact rfl
   | 11, _, hoq =>
    obtain rfl := sI hoq
    have hs0 := hs
    clear hs
    have d10 : gg 26 = .bool (decide ((xs[k]'hlt).name ≠ (ys[k]'hly).name)) := hd 10 (dep_of kR)
    have e26 := d10
    refine ⟨fun _ => ?_, fun hw => Bool.noConfusion (show true = false from hw)⟩
    refine os_know 26 (.bool (decide ((xs[k]'hlt).name ≠ (ys[k]'hly).name))) e26 nu ?_
    refine os_rv (r_mv (v := .bool _) rfl) ⟨Same.refl _ _, ?_, frsh_no⟩
    exact rfl
   | 12, _, hoq =>
    obtain rfl := sI hoq
    have hs0 := hs
    clear hs
    have d11 : gg 27 = .bool (decide ((xs[k]'hlt).name ≠ (ys[k]'hly).name)) := hd 11 (dep_of kR)
    have e27 := d11
    refine guard_case 27 ((decide ((xs[k]'hlt).name ≠ (ys[k]'hly).name))) rfl e27 (fun hgc => ?_) (fun hgc => ⟨fun h => absurd (h.symm.trans hgc) dE, fun _ => rfl⟩)
    refine os_know 27 (.bool (decide ((xs[k]'hlt).name ≠ (ys[k]'hly).name))) e27 nu ?_
    refine os_rv (r_mv (v := .slice _ _ _) rfl) ⟨Same.refl _ _, ?_, frsh_no⟩
    exact ⟨fun _ => rfl, fun h => absurd (h.symm.trans hgc) dE⟩
   | 13, _, hoq =>
    obtain rfl := sI hoq
    have hs0 := hs
    clear hs
    have d11 : gg 27 = .bool (decide ((xs[k]'hlt).name ≠ (ys[k]'hly).name)) := hd 11 (dep_of kR)
    have e27 := d11
    refine guard_case 27 ((decide ((xs[k]'hlt).name ≠ (ys[k]'hly).name))) rfl e27 (fun hgc => ?_) (fun hgc => ⟨fun h => absurd (h.symm.trans hgc) dE, fun _ => rfl⟩)
    refine os_know 27 (.bool (decide ((xs[k]'hlt).name ≠ (ys[k]'hly).name))) e27 nu ?_
    refine os_rv (r_mv (v := .int _ _) rfl) ⟨Same.refl _ _, ?_, frsh_no⟩
    exact ⟨fun _ => rfl, fun h => absurd (h.symm.trans hgc) dE⟩
   | 14, _, hoq =>
    obtain rfl := sI hoq
    have hs0 := hs
    clear hs
    have d11 : gg 27 = .bool (decide ((xs[k]'hlt).name ≠ (ys[k]'hly).name)) := hd 11 (dep_of kR)
    have e27 := d11
    have d12 : (((decide ((xs[k]'hlt).name ≠ (ys[k]'hly).name))) = false → gg 28 = .slice (some ⟨ab, ao, none⟩) xs.length c) ∧ (((decide ((xs[k]'hlt).name ≠ (ys[k]'hly).name))) = true → gg 28 = undef) := hd 12 (dep_of kR)
    have d13 : (((decide ((xs[k]'hlt).name ≠ (ys[k]'hly).name))) = false → gg 29 = .int .i64 k) ∧ (((decide ((xs[k]'hlt).name ≠ (ys[k]'hly).name))) = true → gg 29 = undef) := hd 13 (dep_of kR)
    refine guard_case 27 ((decide ((xs[k]'hlt).name ≠ (ys[k]'hly).name))) rfl e27 (fun hgc => ?_) (fun hgc => ⟨fun h => absurd (h.symm.trans hgc) dE, fun _ => rfl⟩)
    have e28 := d12.1 hgc
    have e29 := d13.1 hgc
    refine os_know 27 (.bool (decide ((xs[k]'hlt).name ≠ (ys[k]'hly).name))) e27 nu (os_know 28 (.slice (some ⟨ab, ao, none⟩) xs.length c) e28 nu (os_know 29 (.int .i64 k) e29 nu ?_))
    refine os_rv (r_ia (i := k) U22 sz77_GLaw rfl rfl om rfl) ⟨Same.refl _ _, ?_, frsh_no⟩
    exact ⟨fun _ => rfl, fun h => absurd (h.symm.trans hgc) dE⟩
   | 15, _, hoq =>
    obtain rfl := sI hoq
    have hs0 := hs
    clear hs
    have d11 : gg 27 = .bool (decide ((xs[k]'hlt).name ≠ (ys[k]'hly).name)) := hd 11 (dep_of kR)
    have e27 := d11
    have d14 : (((decide ((xs[k]'hlt).name ≠ (ys[k]'hly).name))) = false → gg 30 = .pointer (some ⟨ab, ao + k * 2, none⟩)) ∧ (((decide ((xs[k]'hlt).name ≠ (ys[k]'hly).name))) = true → gg 30 = undef) := hd 14 (dep_of kR)
    refine guard_case 27 ((decide ((xs[k]'hlt).name ≠ (ys[k]'hly).name))) rfl e27 (fun hgc => ?_) (fun hgc => ⟨fun h => absurd (h.symm.trans hgc) dE, fun _ => rfl⟩)
    have e30 := d14.1 hgc
    refine os_know 27 (.bool (decide ((xs[k]'hlt).name ≠ (ys[k]'hly).name))) e27 nu (os_know 30 (.pointer (some ⟨ab, ao + k * 2, none⟩)) e30 nu ?_)
    refine os_rv (r_fa U77 sz43_HEq dE rfl rfl rfl) ⟨Same.refl _ _, ?_, frsh_no⟩
    exact ⟨fun _ => rfl, fun h => absurd (h.symm.trans hgc) dE⟩
   | 16, _, hoq =>
    obtain rfl := sI hoq
    have hs0 := hs
    replace hB := hB.tr0 hs
    clear hs
    have d11 : gg 27 = .bool (decide ((xs[k]'hlt).name ≠ (ys[k]'hly).name)) := hd 11 (dep_of kR)
    have e27 := d11
    have d15 : (((decide ((xs[k]'hlt).name ≠ (ys[k]'hly).name))) = false → gg 31 = .pointer (some ⟨ab, ao + k * 2 + 1, none⟩)) ∧ (((decide ((xs[k]'hlt).name ≠ (ys[k]'hly).name))) = true → gg 31 = undef) := hd 15 (dep_of kR)
    refine guard_case 27 ((decide ((xs[k]'hlt).name ≠ (ys[k]'hly).name))) rfl e27 (fun hgc => ?_) (fun hgc => ⟨fun h => absurd (h.symm.trans hgc) dE, fun _ => rfl⟩)
    have e31 := d15.1 hgc
    refine os_know 27 (.bool (decide ((xs[k]'hlt).name ≠ (ys[k]'hly).name))) e27 nu (os_know 31 (.pointer (some ⟨ab, ao + k * 2 + 1, none⟩)) e31 nu ?_)
    refine os_rv (r_ld1 (v := .slice _ _ _) U43 rfl rfl (hB.cell hab (har 1 _ rfl))) ⟨Same.refl _ _, ?_, frsh_no⟩
    exact ⟨fun _ => rfl, fun h => absurd (h.symm.trans hgc) dE⟩
   | 17, _, hoq =>
    obtain rfl := sI hoq
    have hs0 := hs
    clear hs
    have d11 : gg 27 = .bool (decide ((xs[k]'hlt).name ≠ (ys[k]'hly).name)) := hd 11 (dep_of kR)
    have e27 := d11
    refine guard_case 27 ((decide ((xs[k]'hlt).name ≠ (ys[k]'hly).name))) rfl e27 (fun hgc => ?_) (fun hgc => ⟨fun h => absurd (h.symm.trans hgc) dE, fun _ => rfl⟩)
    refine os_know 27 (.bool (decide ((xs[k]'hlt).name ≠ (ys[k]'hly).name))) e27 nu ?_
    refine os_rv (r_mv (v := .slice _ _ _) rfl) ⟨Same.refl _ _, ?_, frsh_no⟩
    exact ⟨fun _ => rfl, fun h => absurd (h.symm.trans hgc) dE⟩
   | 18, _, hoq =>
    obtain rfl := sI hoq
    have hs0 := hs
    clear hs
    have d11 : gg 27 = .bool (decide ((xs[k]'hlt).name ≠ (ys[k]'hly).name)) := hd 11 (dep_of kR)
    have e27 := d11
    refine guard_case 27 ((decide ((xs[k]'hlt).name ≠ (ys[k]'hly).name))) rfl e27 (fun hgc => ?_) (fun hgc => ⟨fun h => absurd (h.symm.trans hgc) dE, fun _ => rfl⟩)
    refine os_know 27 (.bool (decide ((xs[k]'hlt).name ≠ (ys[k]'hly).name))) e27 nu ?_
    refine os_rv (r_mv (v := .int _ _) rfl) ⟨Same.refl _ _, ?_, frsh_no⟩
    exact ⟨fun _ => rfl, fun h => absurd (h.symm.trans hgc) dE⟩
   | 19, _, hoq =>
    obtain rfl := sI hoq
    have hs0 := hs
    clear hs
    have d11 : gg 27 = .bool (decide ((xs[k]'hlt).name ≠ (ys[k]'hly).name)) := hd 11 (dep_of kR)
    have e27 := d11
    have d17 : (((decide ((xs[k]'hlt).name ≠ (ys[k]'hly).name))) = false → gg 33 = .slice (some ⟨bb, bo, none⟩) ys.length d) ∧ (((decide ((xs[k]'hlt).name ≠ (ys[k]'hly).name))) = true → gg 33 = undef) := hd 17 (dep_of kR)
    have d18 : (((decide ((xs[k]'hlt).name ≠ (ys[k]'hly).name))) = false → gg 34 = .int .i64 k) ∧ (((decide ((xs[k]'hlt).name ≠ (ys[k]'hly).name))) = true → gg 34 = undef) := hd 18 (dep_of kR)
    refine guard_case 27 ((decide ((xs[k]'hlt).name ≠ (ys[k]'hly).name))) rfl e27 (fun hgc => ?_) (fun hgc => ⟨fun h => absurd (h.symm.trans hgc) dE, fun _ => rfl⟩)
    have e33 := d17.1 hgc
    have e34 := d18.1 hgc
    refine os_know 27 (.bool (decide ((xs[k]'hlt).name ≠ (ys[k]'hly).name))) e27 nu (os_know 33 (.slice (some ⟨bb, bo, none⟩) ys.length d) e33 nu (os_know 34 (.int .i64 k) e34 nu ?_))
    refine os_rv (r_ia (i := k) U22 sz77_GLaw rfl rfl om rfl) ⟨Same.refl _ _, ?_, frsh_no⟩
    exact ⟨fun _ => rfl, fun h => absurd (h.symm.trans hgc) dE⟩
   | 20, _, hoq =>
    obtain rfl := sI hoq
    have hs0 := hs
    clear hs
    have d11 : gg 27 = .bool (decide ((xs[k]'hlt).name ≠ (ys[k]'hly).name)) := hd 11 (dep_of kR)
    have e27 := d11
    have d19 : (((decide ((xs[k]'hlt).name ≠ (ys[k]'hly).name))) = false → gg 35 = .pointer (some ⟨bb, bo + k * 2, none⟩)) ∧ (((decide ((xs[k]'hlt).name ≠ (ys[k]'hly).name))) = true → gg 35 = undef) := hd 19 (dep_of kR)
    refine guard_case 27 ((decide ((xs[k]'hlt).name ≠ (ys[k]'hly).name))) rfl e27 (fun hgc => ?_) (fun hgc => ⟨fun h => absurd (h.symm.trans hgc) dE, fun _ => rfl⟩)
    have e35 := d19.1 hgc
    refine os_know 27 (.bool (decide ((xs[k]'hlt).name ≠ (ys[k]'hly).name))) e27 nu (os_know 35 (.pointer (some ⟨bb, bo + k * 2, none⟩)) e35 nu ?_)
    refine os_rv (r_fa U77 sz43_HEq dE rfl rfl rfl) ⟨Same.refl _ _, ?_, frsh_no⟩
    exact ⟨fun _ => rfl, fun h => absurd (h.symm.trans hgc) dE⟩
   | 21, _, hoq =>
    obtain rfl := sI hoq
    have hs0 := hs
    replace hB := hB.tr0 hs
    clear hs
    have d11 : gg 27 = .bool (decide ((xs[k]'hlt).name ≠ (ys[k]'hly).name)) := hd 11 (dep_of kR)
    have e27 := d11
    have d20 : (((decide ((xs[k]'hlt).name ≠ (ys[k]'hly).name))) = false → gg 36 = .pointer (some ⟨bb, bo + k * 2 + 1, none⟩)) ∧ (((decide ((xs[k]'hlt).name ≠ (ys[k]'hly).name))) = true → gg 36 = undef) := hd 20 (dep_of kR)
    refine guard_case 27 ((decide ((xs[k]'hlt).name ≠ (ys[k]'hly).name))) rfl e27 (fun hgc => ?_) (fun hgc => ⟨fun h => absurd (h.symm.trans hgc) dE, fun _ => rfl⟩)
    have e36 := d20.1 hgc
    refine os_know 27 (.bool (decide ((xs[k]'hlt).name ≠ (ys[k]'hly).name))) e27 nu (os_know 36 (.pointer (some ⟨bb, bo + k * 2 + 1, none⟩)) e36 nu ?_)
    refine os_rv (r_ld1 (v := .slice _ _ _) U43 rfl rfl (hB.cell hbb (hbr 1 _ rfl))) ⟨Same.refl _ _, ?_, frsh_no⟩
    exact ⟨fun _ => rfl, fun h => absurd (h.symm.trans hgc) dE⟩
   | 22, _, hoq =>
    obtain rfl := sI hoq
    have hs0 := hs
    replace hB := hB.tr0 hs
    clear hs
    have d11 : gg 27 = .bool (decide ((xs[k]'hlt).name ≠ (ys[k]'hly).name)) := hd 11 (dep_of kR)
    have e27 := d11
    have d16 : (((decide ((xs[k]'hlt).name ≠ (ys[k]'hly).name))) = false → gg 32 = .slice LA (xs[k]'hlt).par.length la) ∧ (((decide ((xs[k]'hlt).name ≠ (ys[k]'hly).name))) = true → gg 32 = undef) := hd 16 (dep_of kR)
    have d21 : (((decide ((xs[k]'hlt).name ≠ (ys[k]'hly).name))) = false → gg 37 = .slice LB (ys[k]'hly).par.length lb) ∧ (((decide ((xs[k]'hlt).name ≠ (ys[k]'hly).name))) = true → gg 37 = undef) := hd 21 (dep_of kR)
    refine guard_case 27 ((decide ((xs[k]'hlt).name ≠ (ys[k]'hly).name))) rfl e27 (fun hgc => ?_) (fun hgc => ⟨fun h => absurd (h.symm.trans hgc) dE, fun _ => rfl⟩)
    have e32 := d16.1 hgc
    have e37 := d21.1 hgc
    refine os_know 27 (.bool (decide ((xs[k]'hlt).name ≠ (ys[k]'hly).name))) e27 nu (os_know 32 (.slice LA (xs[k]'hlt).par.length la) e32 nu (os_know 37 (.slice LB (ys[k]'hly).par.length lb) e37 nu ?_))
    refine os_cl fn12 (ieq_any _ _ _ _ _ _ wx (haln.mono hB) (hbln.mono hB)) rfl (fun e' w2 hr => ?_)
    obtain ⟨rfl, hs⟩ := hr
    exact ⟨_, rfl, Same.of_bel hs, ⟨fun _ => rfl, fun h => absurd (h.symm.trans hgc) dE⟩, frsh_no⟩
   | 23, _, hoq =>
    obtain rfl := sI hoq
    have hs0 := hs
    clear hs
    have d11 : gg 27 = .bool (decide ((xs[k]'hlt).name ≠ (ys[k]'hly).name)) := hd 11 (dep_of kR)
    have e27 := d11
    have d22 : (((decide ((xs[k]'hlt).name ≠ (ys[k]'hly).name))) = false → gg 38 = .bool (decide ((xs[k]'hlt).par = (ys[k]'hly).par))) ∧ (((decide ((xs[k]'hlt).name ≠ (ys[k]'hly).name))) = true → gg 38 = undef) := hd 22 (dep_of kR)
    refine guard_case 27 ((decide ((xs[k]'hlt).name ≠ (ys[k]'hly).name))) rfl e27 (fun hgc => ?_) (fun hgc => ⟨fun h => absurd (h.symm.trans hgc) dE, fun _ => rfl⟩)
    have e38 := d22.1 hgc
    refine os_know 27 (.bool (decide ((xs[k]'hlt).name ≠ (ys[k]'hly).name))) e27 nu (os_know 38 (.bool (decide ((xs[k]'hlt).par = (ys[k]'hly).par))) e38 nu ?_)
    refine os_rv (r_not rfl) ⟨Same.refl _ _, ?_, frsh_no⟩
    exact ⟨fun _ => rfl, fun h => absurd (h.symm.trans hgc) dE⟩
   | 24, _, hoq =>
    obtain rfl := sI hoq
    have hs0 := hs
    clear hs
    have d11 : gg 27 = .bool (decide ((xs[k]'hlt).name ≠ (ys[k]'hly).name)) := hd 11 (dep_of kR)
    have e27 := d11
    have d23 : (((decide ((xs[k]'hlt).name ≠ (ys[k]'hly).name))) = false → gg 39 = .bool (!decide ((xs[k]'hlt).par = (ys[k]'hly).par))) ∧ (((decide ((xs[k]'hlt).name ≠ (ys[k]'hly).name))) = true → gg 39 = undef) := hd 23 (dep_of kR)
    refine ⟨fun _ => ?_, fun hw => Bool.noConfusion (show true = false from hw)⟩
    cases hcc : (decide ((xs[k]'hlt).name ≠ (ys[k]'hly).name)) with
    | true =>
     rw [hcc] at e27
     refine os_know 27 (.bool true) e27 nu ?_
     refine os_rv (r_pt (v := .bool _) rfl rfl) ⟨Same.refl _ _, ?_, frsh_no⟩
     exact rfl
    | false =>
     have e39 := d23.1 hcc
     rw [hcc] at e27
     refine os_know 27 (.bool false) e27 nu (os_know 39 (.bool (!decide ((xs[k]'hlt).par = (ys[k]'hly).par))) e39 nu ?_)
     refine os_rv (r_pf (v := .bool _) rfl rfl) ⟨Same.refl _ _, ?_, frsh_no⟩
     exact rfl
   | _ + 25, hix, _ => exact absurd hix om
  intro gg w2 hs hR hdis
  have hs0 := hs
  replace hB := hB.tr0 hs
  clear hs
  have d24 : gg 40 = .bool (decide ((xs[k]'hlt).name ≠ (ys[k]'hly).name) || !decide ((xs[k]'hlt).par = (ys[k]'hly).par)) := hR 24 dE
  have e40 := d24
  refine wl_know 40 (.bool (decide ((xs[k]'hlt).name ≠ (ys[k]'hly).name) || !decide ((xs[k]'hlt).par = (ys[k]'hly).par))) e40 nu (x_nil (e_S ?_))
  refine c_if rfl (fun c40 => ?_) (fun c40 => ?_)
  ·
   refine c_seq (c_region (waB rfl (x_nil (e_S (c_ret ?_)))))
   refine e_Br (e_Sr (e_LSr (e_Br (e_Sr (fin1 (.inl rfl) rfl rfl ?_)))))
   exact ⟨⟨false, rfl, ⟨fun h => Bool.noConfusion h, fun h => by
     subst h
     simp at c40⟩⟩, hB⟩
  have hx : xs[k]'hlt = ys[k]'hly := by
    simp only [Bool.or_eq_false_iff, decide_eq_false_iff_not, Bool.not_eq_false', decide_eq_true_eq] at c40
    exact ty_ext (Decidable.not_not.1 c40.1) c40.2
  refine c_skip (e_B (e_S (c_region (wl (r_add rfl rfl rfl om) (wmI rfl ?_)))))
  refine x_nil (e_LS (xs.length - (k + 1)) om agA ?_)
  exact ⟨k + 1, by omega, rfl, rfl, hB, by rw [List.take_succ_eq_append_getElem hlt, List.take_succ_eq_append_getElem hly, hE, hx]⟩
 have hek : k = xs.length := by omega
 have hfin : xs = ys := by
   rw [hek] at hE
   have e2 : ys.take xs.length = ys := List.take_of_length_le om
   rw [List.take_length, e2] at hE; exact hE
 refine c_exit (e_Sx (e_LSx (e_Bx (e_S (c_seq ?_)))))
 refine c_region (waB rfl (x_nil (e_S (c_ret (fin1 (.inl rfl) rfl rfl ?_)))))
 exact ⟨⟨true, rfl, ⟨fun _ => hfin, fun _ => rfl⟩⟩, hB⟩
set_option maxHeartbeats 1000000 in
theorem hieq_any (A B A' B' : Option Addr) (c d c' d' : Nat) (l l' : List Ty) (fs fs' : List Ft) (w : World) (hT : TypesIn w A l) (hF : FeatsIn w B fs) (hT' : TypesIn w A' l') (hF' : FeatsIn w B' fs') : Calls Tryd.prog 18 #[.agg #[.slice A l.length c, .slice B fs.length d], .agg #[.slice A' l'.length c', .slice B' fs'.length d']] w fun e w' => (∃ b, e = .returned (.bool b) ∧ (b = true ↔ l = l' ∧ fs = fs')) ∧ Bel w w' := by
 refine enter Tryd.func18 Tryd.ntmps18 rfl (Nat.le_of_ble_eq_true rfl) ?_
 have hB : Bel w w := Below.refl _ _
 refine c_seq (c_region ?_)
 refine wl_bx (v := .agg #[_, _]) (cs := #[_, _]) rfl rfl (fun b2 w1 hb2 hs hr => ?_)
 have lo2 := nLT (Bel.size hB) hr
 replace hB := hB.tr0 hs
 clear hs
 clear hr
 refine wl_bx (v := .agg #[_, _]) (cs := #[_, _]) rfl rfl (fun b3 w2 hb3 hs hr => ?_)
 have or_b2_b3 : b2 < b3 := nLL hb2.lt hr
 have lo3 := nLT (Bel.size hB) hr
 replace hB := hB.tr0 hs
 replace hb2 := hb2.tr0 hs
 clear hs
 clear hr
 refine waB rfl (x_nil (e_S (c_seq (c_region (wl (r_fa U25 sz22_GLoose dE rfl rfl rfl) ?_)))))
 refine wl (r_ld1 (v := .slice _ _ _) U22 rfl rfl (hb2.cell rfl)) (wl (r_fa U25 sz22_GLoose dE rfl rfl rfl) (wl (r_ld1 (v := .slice _ _ _) U22 rfl rfl (hb3.cell rfl)) ?_))
 refine wl_cl fn46 (teq_any A A' c c' l l' _ (hT.mono hB) (hT'.mono hB)) rfl (fun e' w3 hr => ?_)
 obtain ⟨⟨b1, rfl, hb1⟩, hs⟩ := hr
 replace hs := Same.of_bel hs
 replace hB := hB.tr0 hs
 replace hb2 := hb2.tr0 hs
 replace hb3 := hb3.tr0 hs
 clear hs
 refine ⟨_, rfl, ?_⟩
 refine wmB rfl ?_
 refine wl_cases 10 rfl (fun g10 => ?_) (fun g10 => ?_)
 ·
  refine wl_gd 10 rfl rfl (wl (r_fa U25 sz23_GLoose dE rfl rfl rfl) (wl_gd 10 rfl rfl (wl (r_ld1 (v := .slice _ _ _) U23 rfl rfl (hb2.cell rfl)) (wl_gd 10 rfl rfl (wl (r_fa U25 sz23_GLoose dE rfl rfl rfl) ?_)))))
  refine wl_gd 10 rfl rfl (wl (r_ld1 (v := .slice _ _ _) U23 rfl rfl (hb3.cell rfl)) (wl_gd 10 rfl rfl ?_))
  refine wl_cl fn47 (feq_any B B' d d' fs fs' _ (hF.mono hB) (hF'.mono hB)) rfl (fun e' w4 hr => ?_)
  obtain ⟨⟨bF, rfl, hbF⟩, hs⟩ := hr
  replace hs := Same.of_bel hs
  replace hB := hB.tr0 hs
  replace hb2 := hb2.tr0 hs
  replace hb3 := hb3.tr0 hs
  clear hs
  refine ⟨_, rfl, ?_⟩
  refine wl (r_pt (v := .bool _) rfl rfl) (waB rfl (x_nil (e_S (c_ret (fin1 (.inl rfl) rfl rfl ?_)))))
  first
    | exact ⟨⟨_, rfl, ⟨fun h => ⟨hb1.1 g10, hbF.1 h⟩, fun h => hbF.2 h.2⟩⟩, hB⟩
    | exact ⟨⟨false, rfl, ⟨fun h => Bool.noConfusion h, fun h => by rw [hb1.2 h.1] at g10; exact Bool.noConfusion g10⟩⟩, hB⟩
 refine wlgn 10 rfl rfl rfl (wlgn 10 rfl rfl rfl (wlgn 10 rfl rfl rfl (wlgn 10 rfl rfl rfl (wlgn 10 rfl rfl rfl (wl (r_pf (v := .bool _) rfl rfl) ?_)))))
 refine waB rfl (x_nil (e_S (c_ret (fin1 (.inl rfl) rfl rfl ?_))))
 first
   | exact ⟨⟨_, rfl, ⟨fun h => ⟨hb1.1 g10, hbF.1 h⟩, fun h => hbF.2 h.2⟩⟩, hB⟩
   | exact ⟨⟨false, rfl, ⟨fun h => Bool.noConfusion h, fun h => by rw [hb1.2 h.1] at g10; exact Bool.noConfusion g10⟩⟩, hB⟩
end Go.Proofs.YtegngekpmpdngaaDoor
namespace Go.Proofs.YtegngekpmpdngaaDoor
open Go.RowKit
def nd (g : List Nd) (i : Nat) : Nd := g.getD i ⟨0, []⟩
theorem nd_eq {g : List Nd} {i : Nat} (hi : i < g.length) : nd g i = g[i] := by simp [nd, List.getD, hi]
def succN (g : List Nd) (i : Nat) : List Nat := (nd g i).ln.map (fun x => x.2.toNat)
inductive DL (g : List Nd) : List Nat → List Nat → List Nat → Prop
  | nil {o : List Nat} : DL g [] o o
  | old {i : Nat} {is o o' : List Nat} (h : i ∈ o) (t : DL g is o o') : DL g (i :: is) o o'
  | new {i : Nat} {is o o1 o' : List Nat} (h : ¬ i ∈ o) (s : DL g (succN g i) (o ++ [i]) o1) (t : DL g is o1 o') : DL g (i :: is) o o'
theorem DL.append {g : List Nd} {xs a b : List Nat} (h : DL g xs a b) : ∀ {ys c : List Nat}, DL g ys b c → DL g (xs ++ ys) a c := by
  induction h with
  | nil => intro ys c k; exact k
  | old h t ih => intro ys c k; exact .old h (ih k)
  | new h s t ihs iht => intro ys c k; exact .new h s (iht k)
def memB (o : List Nat) (x : Nat) : Bool := decide (x ∈ o)
structure OOk (n : Nat) (o : List Nat) : Prop where
  lt : ∀ x ∈ o, x < n
  cnt : o.length + lackN n (memB o) ≤ n
theorem OOk.nil (n : Nat) : OOk n [] := ⟨fun x hx => by simp at hx, by have := lack_le n (memB []); simpa using this⟩
theorem lack_snoc {n i : Nat} {o : List Nat} (hi : i < n) (h : ¬ i ∈ o) : lackN n (memB (o ++ [i])) < lackN n (memB o) :=
  countP_lt (fun x hx => by
    simp only [memB, Bool.not_eq_true', decide_eq_false_iff_not, List.mem_append, not_or] at hx ⊢
    exact hx.1) (List.range n) i (List.mem_range.2 hi) (by simp [memB, h]) (by simp [memB])
theorem OOk.snoc {n i : Nat} {o : List Nat} (h : OOk n o) (hi : i < n) (hn : ¬ i ∈ o) : OOk n (o ++ [i]) :=
  ⟨fun x hx => by
    rcases List.mem_append.1 hx with hx | hx
    · exact h.lt x hx
    · rw [List.mem_singleton.1 hx]; exact hi, by
    have h1 := lack_snoc hi hn
    have h2 := h.cnt
    simp only [List.length_append, List.length_cons, List.length_nil]
    omega⟩
theorem DL.ok {g : List Nd} (hr : ∀ i, i < g.length → ∀ t ∈ succN g i, t < g.length) {is o o' : List Nat} (h : DL g is o o') : (∀ i ∈ is, i < g.length) → OOk g.length o → OOk g.length o' ∧ ∃ s, o' = o ++ s := by
  induction h with
  | nil => intro _ k; exact ⟨k, [], by simp⟩
  | old h t ih => intro hi k; exact ih (fun i h => hi i (List.mem_cons_of_mem _ h)) k
  | new h s t ihs iht =>
    intro hi k
    have hlt := hi _ (List.mem_cons_self ..)
    obtain ⟨h1, s1, e1⟩ := ihs (hr _ hlt) (k.snoc hlt h)
    obtain ⟨h2, s2, e2⟩ := iht (fun i h => hi i (List.mem_cons_of_mem _ h)) h1
    exact ⟨h2, _, by rw [e2, e1, List.append_assoc, List.append_assoc]⟩
def numO (o : List Nat) (x : Nat) : Int := if x ∈ o then (o.idxOf x : Nat) else -1
structure Chg (base : Nat) (X : List Nat) (w w' : World) : Prop where
  os : w'.os = w.os
  tape : w'.tape = w.tape
  output : w'.output = w.output
  size : w.heap.size ≤ w'.heap.size
  blk : ∀ k, k < base → ¬ k ∈ X → w'.heap[k]? = w.heap[k]?
theorem Chg.refl (base : Nat) (X : List Nat) (w : World) : Chg base X w w := ⟨rfl, rfl, rfl, Nat.le_refl _, fun _ _ _ => rfl⟩
theorem Chg.trans {base : Nat} {X : List Nat} {a b c : World} (h : Chg base X a b) (k : Chg base X b c) : Chg base X a c :=
  ⟨k.os.trans h.os, k.tape.trans h.tape, k.output.trans h.output, nLT h.size k.size, fun i hi hx => (k.blk i hi hx).trans (h.blk i hi hx)⟩
theorem Chg.st {base : Nat} {X Y : List Nat} {a b c : World} (h : Chg base X a b) (k : Same Y b c) (hb : base ≤ b.heap.size) (hy : ∀ g ∈ Y, g ∈ X ∨ base ≤ g) : Chg base X a c :=
  h.trans ⟨k.os, k.tape, k.output, k.size, fun i hi hx => k.blk i (nLL hi hb) (fun hm => by
    rcases hy i hm with h1 | h1
    · exact hx h1
    · omega)⟩
def canL (o : List Nat) (x : Int × Int) : Int × Int := (x.1, numO o x.2.toNat)
def canN (g : List Nd) (o : List Nat) (i : Nat) : Nd := ⟨(nd g i).ty, (nd g i).ln.map (canL o)⟩
def canG (g : List Nd) (o : List Nat) : List Nd := o.map (canN g o)
def lnV (xs : List (Int × Int)) : List Value := xs.flatMap (fun x => [Value.int .i64 x.1, Value.int .i64 x.2])
structure FrSame (B : Nat) (w w2 : World) : Prop where
  size : w.heap.size ≤ w2.heap.size
  blk : ∀ k, B ≤ k → k < w.heap.size → w2.heap[k]? = w.heap[k]?
theorem FrSame.of {B : Nat} {w0 w w' : World} {X : List Nat} (h : FrSame B w0 w) (hs : Same X w w') (hx : ∀ g ∈ X, g < B ∨ w0.heap.size ≤ g) : FrSame B w0 w' :=
  ⟨nLT h.size hs.size, fun k hk hk2 => by
    rw [hs.blk k (nLL hk2 h.size) (fun hm => by have := hx k hm; omega)]
    exact h.blk k hk hk2⟩
theorem FrSame.refl (B : Nat) (w : World) : FrSame B w w := ⟨Nat.le_refl _, fun _ _ _ => rfl⟩
theorem FrSame.at_ {B b t : Nat} {w w2 : World} {cs : Array Value} (h : FrSame B w w2) (hb : Blk w b t cs) (hl : B ≤ b) : Blk w2 b t cs := (h.blk b hl hb.lt).trans hb
def RowO (w : World) (lo bs : Nat) (v : Value) (xs : List (Int × Int)) : Prop := ∃ A c, v = .slice A xs.length c ∧ Own w lo 30 2 A xs.length c (lnV xs) ∧ ∀ g ∈ aL A, g < bs
theorem Own.typ {w : World} {base : Nat} {e : TypeId} {sz : Nat} {A : Option Addr} {k cap : Nat} {xs : List Value} (h : Own w base e sz A k cap xs) : ∀ g ∈ aL A, ∃ cs, Blk w g e cs := fun g hg => by
  rcases h.2 with ⟨hn, _⟩ | ⟨g', c, cur, hv, hb, hgg, r⟩
  · cases hn; cases hg
  · cases hv
    simp only [aL, List.mem_singleton] at hg
    subst hg; exact ⟨cur, hgg⟩
theorem RowO.tr {w w' : World} {lo bs : Nat} {v : Value} {xs : List (Int × Int)} {X : List Nat} (h : RowO w lo bs v xs) (hs : Same X w w') (hx : ∀ g ∈ X, bs ≤ g ∨ ∃ cs t, Blk w g t cs ∧ t ≠ 30) : RowO w' lo bs v xs := by
  obtain ⟨A, c, h1, h2, h3⟩ := h
  refine ⟨A, c, h1, h2.tr hs (fun g hg hm => ?_), h3⟩
  rcases hx g hm with h4 | ⟨cs, t, h4, h5⟩
  · have := h3 g hg; omega
  · obtain ⟨cs2, h6⟩ := h2.typ g hg
    exact h5 (blk_type h4 h6)
theorem RowO.up {w : World} {lo bs bs' : Nat} {v : Value} {xs : List (Int × Int)} (h : RowO w lo bs v xs) (hb : bs ≤ bs') : RowO w lo bs' v xs := by
  obtain ⟨A, c, h1, h2, h3⟩ := h
  exact ⟨A, c, h1, h2, fun g hg => nLL (h3 g hg) hb⟩
theorem RowO.of {w : World} {lo base : Nat} {A : Option Addr} {cap : Nat} {xs : List (Int × Int)} (hl : lo ≤ base) (h : Own w base 30 2 A xs.length cap (lnV xs)) : RowO w lo w.heap.size (.slice A xs.length cap) xs := ⟨A, cap, rfl, h.low hl, fun g hg => (h.lt g hg).2⟩
theorem RowO.fr {w w2 : World} {lo bs : Nat} {v : Value} {xs : List (Int × Int)} (h : RowO w lo bs v xs) (hf : FrSame lo w w2) : RowO w2 lo bs v xs := by
  obtain ⟨A, c, h1, h2, h3⟩ := h
  refine ⟨A, c, h1, ⟨h2.1, ?_⟩, h3⟩
  rcases h2.2 with hn | ⟨g, c, cur, hv, hb, hg, r⟩
  · exact .inl hn
  · exact .inr ⟨g, c, cur, hv, hb, (hf.blk g hb (lt_of_heap hg)).trans hg, r⟩
def OrdF (w : World) (bn bd : Nat) (A : Option Addr) (o : List Nat) : Prop :=
  (o = [] ∧ A = none) ∨ (o ≠ [] ∧ ∃ b, A = some ⟨b, 0, none⟩ ∧ b ≠ bn ∧ b < bd ∧ b < w.heap.size ∧ ∀ k (hk : k < o.length), w.cell? ⟨b, 0 + k, none⟩ = some (.int .i64 (o[k] : Nat)))
theorem OrdF.nil (w : World) (bn bd : Nat) : OrdF w bn bd none [] := .inl ⟨rfl, rfl⟩
theorem OrdF.tr {w w' : World} {bn bd : Nat} {A : Option Addr} {o : List Nat} {X : List Nat} (h : OrdF w bn bd A o) (hs : Same X w w') (hx : ∀ g ∈ X, g = bn ∨ bd ≤ g) : OrdF w' bn bd A o := by
  rcases h with h | ⟨h1, b, h2, h3, h4, h5, h6⟩
  · exact .inl h
  · refine .inr ⟨h1, b, h2, h3, h4, nLL h5 hs.size, fun k hk => ?_⟩
    rw [World.cell?_of_block (hs.blk b h5 (fun hm => by rcases hx b hm with h | h <;> omega))]
    exact h6 k hk
theorem OrdF.up {w : World} {bn bd bd' : Nat} {A : Option Addr} {o : List Nat} (h : OrdF w bn bd A o) (hb : bd ≤ bd') : OrdF w bn bd' A o := by
  rcases h with h | ⟨h1, b, h2, h3, h4, h5, h6⟩
  · exact .inl h
  · exact .inr ⟨h1, b, h2, h3, nLL h4 hb, h5, h6⟩
def ndV (f h : Nat → Value) (k : Nat) : List Value := (List.range k).flatMap (fun x => [f x, h x])
theorem ndV_snoc (f h : Nat → Value) (k : Nat) : ndV f h (k + 1) = ndV f h k ++ [f k, h k] := by simp [ndV, List.range_succ, List.flatMap_append]
theorem ndV_congr {f f' h h' : Nat → Value} : ∀ {k : Nat}, (∀ x, x < k → f x = f' x) → (∀ x, x < k → h x = h' x) → ndV f h k = ndV f' h' k
  | 0, _, _ => rfl
  | k + 1, h1, h2 => by rw [ndV_snoc, ndV_snoc, ndV_congr (fun x hx => h1 x om) (fun x hx => h2 x om), h1 k om, h2 k om]
theorem Own.fr {w w2 : World} {lo base : Nat} {e : TypeId} {sz : Nat} {A : Option Addr} {k cap : Nat} {xs : List Value} (h : Own w base e sz A k cap xs) (hl : lo ≤ base) (hf : FrSame lo w w2) : Own w2 base e sz A k cap xs := by
  refine ⟨h.1, ?_⟩
  rcases h.2 with hn | ⟨g, c, cur, hv, hb, hg, r⟩
  · exact .inl hn
  · exact .inr ⟨g, c, cur, hv, hb, (hf.blk g (nLT hl hb) (lt_of_heap hg)).trans hg, r⟩
end Go.Proofs.YtegngekpmpdngaaDoor
namespace Go.Proofs.YtegngekpmpdngaaDoor
open Go.RowKit
section eng4
variable {P : Program} {Q : Exit → Act → World → Prop} {n : Nat} {f : Fr} {w w' : World} {ops : Array Oper} {rest : List Oper} {d : Tmp} {ty t e : TypeId} {pos : String} {af : Array Edge} {x y : Operand}
theorem r_nc {dst : Option Tmp} {gd : Option (Nat × Bool)} {a : Addr} (hx : ev n f x = .pointer (some a)) :
    RV P n f w ⟨dst, .nilCheck x, ty, pos, af, gd⟩ (.pointer (some a)) w := by simp [RV, execOp, hx]
variable {base sz k cap : Nat} {A : Option Addr} {xs : List Value}
theorem own_ne {b1 b2 s1 s2 k1 k2 c1 c2 : Nat} {e1 e2 : TypeId} {A1 A2 : Option Addr} {x1 x2 : List Value} (h : Own w b1 e1 s1 A1 k1 c1 x1) (k : Own w b2 e2 s2 A2 k2 c2 x2) (hne : e1 ≠ e2) : ∀ g ∈ aL A1, ¬ g ∈ aL A2 := fun g h1 h2 => by
  have ht : ∀ {b s k c : Nat} {e : TypeId} {A : Option Addr} {x : List Value}, Own w b e s A k c x → g ∈ aL A → ∃ cs, Blk w g e cs := fun h hg => by
    rcases h.2 with ⟨hv, _⟩ | ⟨g', c', cur, hv, _, hb, _⟩
    · cases hv; cases hg
    · cases hv
      simp only [aL, List.mem_singleton] at hg
      subst hg; exact ⟨cur, hb⟩
  obtain ⟨c1, q1⟩ := ht h h1
  obtain ⟨c2, q2⟩ := ht k h2
  exact hne (blk_type q1 q2)
end eng4
end Go.Proofs.YtegngekpmpdngaaDoor
namespace Go.Proofs.YtegngekpmpdngaaDoor
open Go.RowKit
def SameQ (X : List Nat) (w w' : World) : Prop := Same X w w'
theorem SameQ.trans {X : List Nat} {a b c : World} (h : SameQ X a b) {Y : List Nat} (k : Same Y b c) (hy : ∀ g ∈ Y, g ∈ X) : SameQ X a c := Same.trans h (k.weak hy)
structure ChG (Z : Nat → Prop) (w w' : World) : Prop where
  os : w'.os = w.os
  tape : w'.tape = w.tape
  output : w'.output = w.output
  size : w.heap.size ≤ w'.heap.size
  blk : ∀ k, k < w.heap.size → ¬ Z k → w'.heap[k]? = w.heap[k]?
theorem ChG.refl (Z : Nat → Prop) (w : World) : ChG Z w w := ⟨rfl, rfl, rfl, Nat.le_refl _, fun _ _ _ => rfl⟩
theorem ChG.st {Z : Nat → Prop} {Y : List Nat} {a b c : World} (h : ChG Z a b) (k : Same Y b c) (hy : ∀ g ∈ Y, Z g ∨ a.heap.size ≤ g) : ChG Z a c :=
  ⟨k.os.trans h.os, k.tape.trans h.tape, k.output.trans h.output, nLT h.size k.size, fun i hi hx => (k.blk i (nLL hi h.size) (fun hm => (hy i hm).elim hx (fun h2 => by omega))).trans (h.blk i hi hx)⟩
theorem ChG.trans {Z Z' : Nat → Prop} {a b c : World} (h : ChG Z a b) (k : ChG Z' b c) (hz : ∀ g, Z' g → Z g ∨ a.heap.size ≤ g) : ChG Z a c :=
  ⟨k.os.trans h.os, k.tape.trans h.tape, k.output.trans h.output, nLT h.size k.size, fun i hi hx => (k.blk i (nLL hi h.size) (fun hm => (hz i hm).elim hx (fun h2 => by omega))).trans (h.blk i hi hx)⟩
theorem ChG.bel {Z : Nat → Prop} {w w' : World} (h : Bel w w') : ChG Z w w' := ⟨h.os, h.tape, h.output, h.size, fun k hk _ => h.block k hk⟩
def GrT (w : World) (lo hi : Nat) (A : Option Addr) (c : Nat) (gr : List Nd) (T : Nat → Int) : Prop :=
  ∃ V : Nat → Value, Own w lo 33 2 A gr.length c (ndV (fun x => .int .i64 (T x)) V gr.length) ∧ (∀ g ∈ aL A, g < hi) ∧ ∀ x, x < gr.length → RowO w lo hi (V x) (nd gr x).ln
def Dis (V : Nat → Value) (n : Nat) : Prop := ∀ x y, x < n → y < n → x ≠ y → ∀ A m c A' m' c', V x = .slice A m c → V y = .slice A' m' c' → ∀ g ∈ aL A, ¬ g ∈ aL A'
theorem Dis.congr {V V' : Nat → Value} {n : Nat} (h : Dis V n) (e : ∀ x, x < n → V x = V' x) : Dis V' n := fun x y hx hy hne A m c A' m' c' h1 h2 => h x y hx hy hne A m c A' m' c' ((e x hx).trans h1) ((e y hy).trans h2)
theorem Dis.snoc {V : Nat → Value} {L : Nat → List (Int × Int)} {w : World} {lo bs k n c : Nat} {A : Option Addr} (h : Dis V k) (hr : ∀ x, x < k → RowO w lo bs (V x) (L x)) (hg : ∀ g ∈ aL A, bs ≤ g) : Dis (fun x => if x = k then .slice A n c else V x) (k + 1) := fun x y hx hy hne A1 m1 c1 A2 m2 c2 h1 h2 g hg1 hg2 => by
  have far : ∀ z, z < k → ∀ A3 m3 c3, V z = .slice A3 m3 c3 → ∀ g ∈ aL A3, g < bs := fun z hz A3 m3 c3 e g hg => by
    obtain ⟨A4, c4, e4, _, h4⟩ := hr z hz
    rw [e] at e4
    cases e4
    exact h4 g hg
  by_cases e : x = k
  · simp only [e, if_true, Value.slice.injEq] at h1
    by_cases e2 : y = k
    · exact hne (by rw [e, e2])
    · simp only [e2, if_false] at h2
      rw [← h1.1] at hg1
      have := far y om _ _ _ h2 g hg2
      have := hg g hg1
      omega
  · simp only [e, if_false] at h1
    by_cases e2 : y = k
    · simp only [e2, if_true, Value.slice.injEq] at h2
      rw [← h2.1] at hg2
      have := far x om _ _ _ h1 g hg1
      have := hg g hg2
      omega
    · simp only [e2, if_false] at h2
      exact h x y om om hne _ _ _ _ _ _ h1 h2 g hg1 hg2
def GrD (w : World) (lo hi : Nat) (A : Option Addr) (c : Nat) (gr : List Nd) (T : Nat → Int) : Prop :=
  ∃ V : Nat → Value, Own w lo 33 2 A gr.length c (ndV (fun x => .int .i64 (T x)) V gr.length) ∧ (∀ g ∈ aL A, g < hi) ∧ (∀ x, x < gr.length → RowO w lo hi (V x) (nd gr x).ln) ∧ Dis V gr.length
section
variable {w w' : World} {lo hi c : Nat} {A : Option Addr} {gr : List Nd} {T : Nat → Int}
theorem GrD.mk {base bs m : Nat} {V f : Nat → Value} (ho : Own w base 33 2 A m c (ndV f V m)) (hm : gr.length = m) (hb : lo ≤ base) (hf : ∀ x, x < m → f x = .int .i64 (T x)) (hA : ∀ g ∈ aL A, g < hi) (hbs : bs ≤ hi) (hr : ∀ x, x < m → RowO w lo bs (V x) (nd gr x).ln) (hd : Dis V m) : GrD w lo hi A c gr T := by
  subst hm
  refine ⟨V, ?_, hA, fun x hx => (hr x hx).up hbs, hd⟩
  rw [ndV_congr (f' := f) (h' := V) (fun x hx => (hf x hx).symm) (fun _ _ => rfl)]
  exact ho.low hb
theorem GrT.cap_le (h : GrT w lo hi A c gr T) : gr.length ≤ c := by obtain ⟨V, ho, _⟩ := h; exact ho.cap_le
theorem GrT.congr (h : GrT w lo hi A c gr T) {T' : Nat → Int} (e : ∀ i, i < gr.length → T i = T' i) : GrT w lo hi A c gr T' := by
  obtain ⟨V, ho, hA, hr⟩ := h
  exact ⟨V, by rw [ndV_congr (f' := fun x => .int .i64 (T x)) (h' := V) (fun x hx => by rw [e x hx]) (fun _ _ => rfl)]; exact ho, hA, hr⟩
theorem GrT.tr {X : List Nat} (h : GrT w lo hi A c gr T) (hs : Same X w w') (hx : ∀ g ∈ X, g < lo ∨ hi ≤ g) : GrT w' lo hi A c gr T := by
  obtain ⟨V, ho, hA, hr⟩ := h
  refine ⟨V, ho.tr hs (fun g hg hm => ?_), hA, fun x hxl => ?_⟩
  · have h1 := hx g hm
    have h2 := (ho.lt g hg).1
    have h3 := hA g hg
    omega
  · obtain ⟨A2, c2, e, h1, h2⟩ := hr x hxl
    refine ⟨A2, c2, e, h1.tr hs (fun g hg hm => ?_), h2⟩
    have h3 := hx g hm
    have h4 := (h1.lt g hg).1
    have h5 := h2 g hg
    omega
theorem GrT.fr {w2 : World} (h : GrT w lo hi A c gr T) (hf : FrSame lo w w2) : GrT w2 lo hi A c gr T := by
  obtain ⟨V, ho, hA, hr⟩ := h
  exact ⟨V, ho.fr (Nat.le_refl _) hf, hA, fun x hx => (hr x hx).fr hf⟩
theorem GrT.up {hi' : Nat} (h : GrT w lo hi A c gr T) (hh : hi ≤ hi') : GrT w lo hi' A c gr T := by
  obtain ⟨V, ho, hA, hr⟩ := h
  exact ⟨V, ho, fun g hg => nLL (hA g hg) hh, fun x hx => (hr x hx).up hh⟩
theorem RowO.low {lo' bs : Nat} {v : Value} {xs : List (Int × Int)} (h : RowO w lo bs v xs) (hl : lo' ≤ lo) : RowO w lo' bs v xs := by
  obtain ⟨A, c, e, h1, h2⟩ := h
  exact ⟨A, c, e, h1.low hl, h2⟩
theorem GrT.low {lo' : Nat} (h : GrT w lo hi A c gr T) (hl : lo' ≤ lo) : GrT w lo' hi A c gr T := by
  obtain ⟨V, ho, hA, hr⟩ := h
  exact ⟨V, ho.low hl, hA, fun x hx => (hr x hx).low hl⟩
theorem GrT.mk {base bs m : Nat} {V f : Nat → Value} (ho : Own w base 33 2 A m c (ndV f V m)) (hm : gr.length = m) (hb : lo ≤ base) (hf : ∀ x, x < m → f x = .int .i64 (T x)) (hA : ∀ g ∈ aL A, g < hi) (hbs : bs ≤ hi) (hr : ∀ x, x < m → RowO w lo bs (V x) (nd gr x).ln) : GrT w lo hi A c gr T := by
  subst hm
  refine ⟨V, ?_, hA, fun x hx => (hr x hx).up hbs⟩
  rw [ndV_congr (f' := f) (h' := V) (fun x hx => (hf x hx).symm) (fun _ _ => rfl)]
  exact ho.low hb
end
end Go.Proofs.YtegngekpmpdngaaDoor
