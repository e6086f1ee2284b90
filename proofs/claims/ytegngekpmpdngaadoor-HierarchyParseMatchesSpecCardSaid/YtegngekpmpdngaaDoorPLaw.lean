/- Structs of a string and two ints, compared. No program in sight. What these functions of the program compute, at every world: slices.Equal[[]int,int]. What these functions of the program compute, at every world: slices.Equal[[]glosswright/api.Feat,glosswright/api.Feat], glosswright/glosswrightequal.Types, glosswright/glosswrightequal.Hierarchies. What these functions of the program compute, at every world: glosswright/glosswrightlaw3.HierarchyParseMatchesSpec. -/
import Derived.Test.YtegngekpmpdngaaDoorEng2
import Derived.Test.YtegngekpmpdngaaDoorTypes
import Derived.Test.YtegngekpmpdngaaDoorU
import Derived.Test.YtegngekpmpdngaaDoorHpl
import Derived.Test.YtegngekpmpdngaaDoorShx
import Derived.Test.YtegngekpmpdngaaDoorHRdh
namespace Go.Proofs.YtegngekpmpdngaaDoor
open Go.RowKit
theorem ft_ext {a b : Ft} (h : a.name = b.name ∧ a.of = b.of ∧ a.val = b.val) : a = b := by
  cases a; cases b
  obtain ⟨h1, h2, h3⟩ := h
  simp only at h1 h2 h3
  rw [h1, h2, h3]
theorem ty_ext {a b : Ty} (h1 : a.name = b.name) (h2 : a.par = b.par) : a = b := by
  cases a; cases b
  simp only at h1 h2
  rw [h1, h2]
section eqs
variable {P : Program} {Q : Exit → Act → World → Prop} {n : Nat} {f : Fr} {w w' : World} {ty t' : TypeId} {pos : String} {af : Array Edge} {dst : Option Tmp} {gd : Option (Nat × Bool)} {x y : Operand} {t ts ti : TypeId} {s s' : ByteArray} {a b a' b' : Int}
theorem run_eq3 (ht : P.underlying t = some (.struct (P.fieldsOf t))) (hs : P.stoodInHeld t = false) (hf : (P.fieldsOf t).toList.map (fun f => (f.name == "_", f.type, f.offset)) = [(false, ts, 0), (false, ti, 1), (false, ti, 2)]) (hst : P.underlying ts = some .string) (hi : P.underlying ti = some (.int .i64)) :
    (Op.equalIn 10000 t (.agg #[.string s, .int .i64 a, .int .i64 b]) (.agg #[.string s', .int .i64 a', .int .i64 b'])).run P w = .ok (decide (s = s' ∧ a = a' ∧ b = b')) w := by
  rw [run_equalIn_agg w 9999 t _ _ ht hs]
  generalize (P.fieldsOf t).toList = fs at hf
  obtain ⟨f0, f1, f2, rfl⟩ : ∃ f0 f1 f2, fs = [f0, f1, f2] := by
    have hl := congrArg List.length hf
    simp only [List.length_map, List.length_cons, List.length_nil] at hl
    match fs, hl with
    | [f0, f1, f2], _ => exact ⟨f0, f1, f2, rfl⟩
  simp only [List.map_cons, List.map_nil, List.cons.injEq, Prod.mk.injEq, and_true, beq_eq_false_iff_ne] at hf
  obtain ⟨⟨h1, h2, h3⟩, ⟨h4, h5, h6⟩, h7, h8, h9⟩ := hf
  have p1 : (part f0.type #[.string s, .int .i64 a, .int .i64 b] f0.offset).run P w = .ok (.string s) w := by rw [h2, h3]; exact run_part1 hst rfl rfl
  have p2 : (part f0.type #[.string s', .int .i64 a', .int .i64 b'] f0.offset).run P w = .ok (.string s') w := by rw [h2, h3]; exact run_part1 hst rfl rfl
  have p3 : (part f1.type #[.string s, .int .i64 a, .int .i64 b] f1.offset).run P w = .ok (.int .i64 a) w := by rw [h5, h6]; exact run_part1 hi rfl rfl
  have p4 : (part f1.type #[.string s', .int .i64 a', .int .i64 b'] f1.offset).run P w = .ok (.int .i64 a') w := by rw [h5, h6]; exact run_part1 hi rfl rfl
  have p5 : (part f2.type #[.string s, .int .i64 a, .int .i64 b] f2.offset).run P w = .ok (.int .i64 b) w := by rw [h8, h9]; exact run_part1 hi rfl rfl
  have p6 : (part f2.type #[.string s', .int .i64 a', .int .i64 b'] f2.offset).run P w = .ok (.int .i64 b') w := by rw [h8, h9]; exact run_part1 hi rfl rfl
  have e0 := run_equalIn_string (P := P) w 9998 f0.type s s' (by rw [h2]; exact hst)
  have es : (s.toList == s'.toList) = decide (s = s') := by rw [Bool.eq_iff_iff]; simp [toList_eq_iff]
  rw [es] at e0
  have e1 := run_equalIn_int (P := P) w 9998 f1.type .i64 .i64 a a' (by rw [h5]; exact hi)
  have e2 := run_equalIn_int (P := P) w 9998 f2.type .i64 .i64 b b' (by rw [h8]; exact hi)
  simp only [Op.eqFields, h1, h4, h7, ne_eq, not_false_eq_true, if_true, Sem.run_bind, p1, p2, Result.andThen_ok, e0]
  by_cases hs1 : s = s'
  · subst hs1
    simp only [decide_true, Bool.not_true, Bool.false_eq_true, if_false, Sem.run_bind, p3, p4, Result.andThen_ok, e1]
    by_cases hac : a = a'
    · subst hac
      simp only [beq_self_eq_true, Bool.not_true, Bool.false_eq_true, if_false, Sem.run_bind, p5, p6, Result.andThen_ok, e2]
      by_cases hbd : b = b'
      · simp [hbd, Sem.run_pure]
      · simp [hbd, Sem.run_pure]
    · simp [hac, Sem.run_pure]
  · simp [hs1, Sem.run_pure]
theorem r_ne3 (hm : P.eqGuardType P.depth t = false) (ht : P.underlying t = some (.struct (P.fieldsOf t))) (hs : P.stoodInHeld t = false) (hf : (P.fieldsOf t).toList.map (fun f => (f.name == "_", f.type, f.offset)) = [(false, ts, 0), (false, ti, 1), (false, ti, 2)]) (hst : P.underlying ts = some .string) (hi : P.underlying ti = some (.int .i64))
    (hx : ev n f x = .agg #[.string s, .int .i64 a, .int .i64 b]) (hy : ev n f y = .agg #[.string s', .int .i64 a', .int .i64 b']) : RV P n f w ⟨dst, .binOp .neq t x y t', ty, pos, af, gd⟩ (.bool (decide (¬ (s = s' ∧ a = a' ∧ b = b')))) w := by
  have h1 := run_eq3 (P := P) (w := w) (s := s) (s' := s') (a := a) (b := b) (a' := a') (b' := b') ht hs hf hst hi
  have h2 := run_eqGuard_agg (P := P) w .neq t x y #[.string s, .int .i64 a, .int .i64 b] #[.string s', .int .i64 a', .int .i64 b'] hm
  simp only [RV, execOp, hx, hy, Sem.run_bind, h2, Result.andThen_ok, run_neq_struct, h1, Sem.run_pure, decide_not]
end eqs
end Go.Proofs.YtegngekpmpdngaaDoor
namespace Go.Proofs.YtegngekpmpdngaaDoor
open Go.RowKit
theorem ieq_any (A B : Option Addr) (c d : Nat) (xs ys : List Int) (w : World) (hX : IntsIn w A xs) (hY : IntsIn w B ys) : Calls Tryd.prog 12 #[.slice A xs.length c, .slice B ys.length d] w fun e w' => e = .returned (.bool (decide (xs = ys))) ∧ Bel w w' := by
 have hmx := hX.1
 unfold maxI at hmx
 refine enter Tryd.func12 Tryd.ntmps12 rfl (Nat.le_of_ble_eq_true rfl) ?_
 have hB : Bel w w := Below.refl _ _
 refine c_seq (c_region (waB rfl (x_nil (e_S (c_seq ?_)))))
 refine c_seq (c_region (wmS rfl (wl (r_len U43 rfl) (wmS rfl (wl (r_len U43 rfl) ?_)))))
 refine wl (r_neq rfl rfl) (x_nil (e_S ?_))
 refine c_ifd rfl (fun c10 => ?_) (fun c10 => ?_)
 ·
  have hne : ¬ xs = ys := fun e => c10 (by rw [e])
  refine c_seq (c_region (waB rfl (x_nil (e_S (c_ret ?_)))))
  refine e_Sr (fin1 (.inl rfl) rfl rfl ?_)
  exact ⟨ret_bool (decide_eq_false hne), hB⟩
 have hle : xs.length = ys.length := by omega
 refine c_skip (e_S (c_seq (c_seq (c_region (wmS rfl ?_)))))
 refine wl (r_len U43 rfl) (wmI rfl (x_nil (e_S (c_block ?_))))
 refine c_loopS [4, 5, 13, 14, 15, 16, 17, 18, 19, 20, 21, 22, 23, 24, 25] (fun m g w' => ∃ k : Nat, k ≤ xs.length ∧ m = xs.length - k ∧ g 13 = .int .i64 k ∧ Bel w w' ∧ (∀ j (hj : j < xs.length) (hj2 : j < ys.length), j < k → xs[j] = ys[j])) (xs.length) ?_ (fun m g4 w1 hI => ?_)
 ·
  exact ⟨0, Nat.zero_le _, rfl, rfl, hB, fun j _ _ h => by omega⟩
 obtain ⟨k, hk, hm, h13, hB, hall⟩ := hI
 refine c_know 13 (.int .i64 k) h13 nu (c_seq (c_region (wl (r_lss rfl rfl) (x_nil (e_S ?_)))))
 refine c_seq ?_
 refine c_ifd rfl (fun c14 => ?_) (fun c14 => ?_)
 ·
  have hlt : k < xs.length := by omega
  have hlt2 : k < ys.length := by omega
  obtain ⟨xb, xo, rfl, hxb, hxc⟩ := hX.at_ hlt
  obtain ⟨yb, yo, rfl, hyb, hyc⟩ := hY.at_ hlt2
  refine c_skip (e_S (c_seq (c_block (c_seq (c_region ?_)))))
  refine wmI rfl (waI rfl (x_nil (e_S (c_seq ?_))))
  refine c_still kR kR (fun w2 hs => ?_)
  replace hB := hB.tr0 hs
  clear hs
  refine ws (r_mv (v := .slice _ _ _) rfl) (ws (r_mv (v := .int _ _) rfl) (ws (r_ia (i := k) U43 sz3_GLoose rfl rfl om rfl) (ws (r_ld1 (v := .int _ _) U3 rfl rfl (hB.cell hxb hxc)) (ws (r_mv (v := .slice _ _ _) rfl) (ws (r_mv (v := .int _ _) rfl) ?_)))))
  refine ws (r_ia (i := k) U43 sz3_GLoose rfl rfl om rfl) (ws (r_ld1 (v := .int _ _) U3 rfl rfl (hB.cell hyb hyc)) (ws (r_neq rfl rfl) (s_nil (e_S ?_))))
  refine c_ifd rfl (fun c24 => ?_) (fun c24 => ?_)
  ·
   have hne : ¬ xs = ys := fun e => c24 (by simp only [e])
   refine c_seq (c_region (waB rfl (x_nil (e_S (c_ret ?_)))))
   refine e_Br (e_Sr (e_LSr (e_Br (e_Sr (fin1 (.inl rfl) rfl rfl ?_)))))
   exact ⟨ret_bool (decide_eq_false hne), hB⟩
  refine c_skip (e_B (e_S (c_region (wl (r_add rfl rfl rfl om) (wmI rfl ?_)))))
  refine x_nil (e_LS (xs.length - (k + 1)) om agA ?_)
  exact ⟨k + 1, by omega, rfl, rfl, hB, fun j hj hj2 h => by
    by_cases e : j = k
    · subst e; exact Decidable.not_not.1 c24
    · exact hall j hj hj2 om⟩
 have heq : xs = ys := List.ext_getElem hle (fun j h1 h2 => hall j h1 h2 om)
 refine c_exit (e_Sx (e_LSx (e_Bx (e_S (c_seq ?_)))))
 refine c_region (waB rfl (x_nil (e_S (c_ret (fin1 (.inl rfl) rfl rfl ?_)))))
 exact ⟨ret_bool (decide_eq_true heq), hB⟩
end Go.Proofs.YtegngekpmpdngaaDoor
namespace Go.Proofs.YtegngekpmpdngaaDoor
open Go.RowKit
theorem fd63 : (Tryd.prog.fieldsOf 63).toList.map (fun f => (f.name == "_", f.type, f.offset)) = [(false, 9, 0), (false, 3, 1), (false, 3, 2)] := by kernel_rfl
theorem fn12 : callable Tryd.prog 12 = true := by kernel_rfl
theorem fn46 : callable Tryd.prog 46 = true := by kernel_rfl
theorem fn47 : callable Tryd.prog 47 = true := by kernel_rfl
theorem ft63 : Tryd.prog.underlying 63 = some (.struct (Tryd.prog.fieldsOf 63)) := by kernel_rfl
theorem sz43_HEq : (Tryd.prog.info? 43).map (·.size) = some 1 := by kernel_rfl
theorem sz9_HEq : (Tryd.prog.info? 9).map (·.size) = some 1 := by kernel_rfl
theorem feq_any (A B : Option Addr) (c d : Nat) (xs ys : List Ft) (w : World) (hX : FeatsIn w A xs) (hY : FeatsIn w B ys) : Calls Tryd.prog 47 #[.slice A xs.length c, .slice B ys.length d] w fun e w' => (∃ b, e = .returned (.bool b) ∧ (b = true ↔ xs = ys)) ∧ Bel w w' := by
 have hmx := hX.1
 unfold maxI at hmx
 refine enter Tryd.func47 Tryd.ntmps47 rfl (Nat.le_of_ble_eq_true rfl) ?_
 have hB : Bel w w := Below.refl _ _
 refine c_seq (c_region (waB rfl (x_nil (e_S (c_seq ?_)))))
 refine c_seq (c_region (wmS rfl (wl (r_len U23 rfl) (wmS rfl (wl (r_len U23 rfl) ?_)))))
 refine wl (r_neq rfl rfl) (x_nil (e_S ?_))
 refine c_ifd rfl (fun c10 => ?_) (fun c10 => ?_)
 ·
  refine c_seq (c_region (waB rfl (x_nil (e_S (c_ret ?_)))))
  refine e_Sr (fin1 (.inl rfl) rfl rfl ?_)
  exact ⟨⟨false, rfl, ⟨fun h => Bool.noConfusion h, fun h => absurd (by rw [h]) c10⟩⟩, hB⟩
 refine c_skip (e_S (c_seq (c_seq (c_region (wmS rfl ?_)))))
 refine wl (r_len U23 rfl) (wmI rfl (x_nil (e_S (c_block ?_))))
 refine c_loopS [4, 5, 13, 14, 15, 16, 17, 18, 19, 20, 21, 22, 23, 24, 25] (fun m g w' => ∃ k : Nat, k ≤ xs.length ∧ m = xs.length - k ∧ g 13 = .int .i64 k ∧ Bel w w' ∧ xs.take k = ys.take k) (xs.length) ?_ (fun m g4 w1 hI => ?_)
 ·
  exact ⟨0, Nat.zero_le _, rfl, rfl, hB, rfl⟩
 obtain ⟨k, hk, hm, h13, hB, hE⟩ := hI
 refine c_know 13 (.int .i64 k) h13 nu (c_seq (c_region (wl (r_lss rfl rfl) (x_nil (e_S ?_)))))
 refine c_seq ?_
 refine c_ifd rfl (fun c14 => ?_) (fun c14 => ?_)
 ·
  have hlt : k < xs.length := by omega
  have hly : k < ys.length := by omega
  obtain ⟨pb, po, rfl, hpb, hpc⟩ := hX.at_ (Below.refl _ _ : Bel w w) hlt
  obtain ⟨qb, qo, rfl, hqb, hqc⟩ := hY.at_ (Below.refl _ _ : Bel w w) hly
  refine c_skip (e_S (c_seq (c_block (c_seq (c_region ?_)))))
  refine wmI rfl (waI rfl (x_nil (e_S (c_seq ?_))))
  refine c_still kR kR (fun w2 hs => ?_)
  replace hB := hB.tr0 hs
  clear hs
  refine ws (r_mv (v := .slice _ _ _) rfl) (ws (r_mv (v := .int _ _) rfl) (ws (r_ia (i := k) U23 sz63_GVal rfl rfl om rfl) (ws (r_ldS U63 rfl rfl (hB.range hpb hpc) sz63_GVal) (ws (r_mv (v := .slice _ _ _) rfl) (ws (r_mv (v := .int _ _) rfl) ?_)))))
  refine ws (r_ia (i := k) U23 sz63_GVal rfl rfl om rfl) (ws (r_ldS U63 rfl rfl (hB.range hqb hqc) sz63_GVal) (ws (r_ne3 Tryd.eqGuardType63 ft63 Tryd.stoodInHeld63 fd63 U9 U3 rfl rfl) (s_nil (e_S ?_))))
  refine c_ifd rfl (fun c24 => ?_) (fun c24 => ?_)
  ·
   refine c_seq (c_region (waB rfl (x_nil (e_S (c_ret ?_)))))
   refine e_Br (e_Sr (e_LSr (e_Br (e_Sr (fin1 (.inl rfl) rfl rfl ?_)))))
   exact ⟨⟨false, rfl, ⟨fun h => Bool.noConfusion h, fun h => absurd (by subst h; exact ⟨rfl, rfl, rfl⟩) c24⟩⟩, hB⟩
  have hx : xs[k]'hlt = ys[k]'hly := ft_ext (Decidable.not_not.1 c24)
  refine c_skip (e_B (e_S (c_region (wl (r_add rfl rfl rfl om) (wmI rfl ?_)))))
  refine x_nil (e_LS (xs.length - (k + 1)) om agA ?_)
  exact ⟨k + 1, by omega, rfl, rfl, hB, by rw [List.take_succ_eq_append_getElem hlt, List.take_succ_eq_append_getElem hly, hE, hx]⟩
 have hek : k = xs.length := by omega
 have hfin : xs = ys := by
   rw [hek] at hE
   have e2 : ys.take xs.length = ys := List.take_of_length_le om
   rw [List.take_length, e2] at hE; exact hE
 refine c_exit (e_Sx (e_LSx (e_Bx (e_S (c_seq ?_)))))
 refine c_region (waB rfl (x_nil (e_S (c_ret (fin1 (.inl rfl) rfl rfl ?_)))))
 exact ⟨⟨true, rfl, ⟨fun _ => hfin, fun _ => rfl⟩⟩, hB⟩
set_option maxHeartbeats 1000000 in
theorem teq_any (A B : Option Addr) (c d : Nat) (xs ys : List Ty) (w : World) (hX : TypesIn w A xs) (hY : TypesIn w B ys) : Calls Tryd.prog 46 #[.slice A xs.length c, .slice B ys.length d] w fun e w' => (∃ b, e = .returned (.bool b) ∧ (b = true ↔ xs = ys)) ∧ Bel w w' := by
 have hmx := hX.1
 unfold maxI at hmx
 refine enter Tryd.func46 Tryd.ntmps46 rfl (Nat.le_of_ble_eq_true rfl) ?_
 have hB : Bel w w := Below.refl _ _
 refine c_seq (c_region (waB rfl (x_nil (e_S (c_seq ?_)))))
 refine c_seq (c_region (wmS rfl (wl (r_len U22 rfl) (wmS rfl (wl (r_len U22 rfl) ?_)))))
 refine wl (r_neq rfl rfl) (x_nil (e_S ?_))
 refine c_ifd rfl (fun c10 => ?_) (fun c10 => ?_)
 ·
  refine c_seq (c_region (waB rfl (x_nil (e_S (c_ret ?_)))))
  refine e_Sr (fin1 (.inl rfl) rfl rfl ?_)
  exact ⟨⟨false, rfl, ⟨fun h => Bool.noConfusion h, fun h => absurd (by rw [h]) c10⟩⟩, hB⟩
 refine c_skip (e_S (c_seq (c_seq (c_region (wmS rfl ?_)))))
 refine wl (r_len U22 rfl) (wmI rfl (x_nil (e_S (c_block ?_))))
 refine c_loopS [4, 5, 13, 14, 15, 16, 17, 18, 19, 20, 21, 22, 23, 24, 25, 26, 27, 28, 29, 30, 31, 32, 33, 34, 35, 36, 37, 38, 39, 40, 41] (fun m g w' => ∃ k : Nat, k ≤ xs.length ∧ m = xs.length - k ∧ g 13 = .int .i64 k ∧ Bel w w' ∧ xs.take k = ys.take k) (xs.length) ?_ (fun m g4 w1 hI => ?_)
 ·
  exact ⟨0, Nat.zero_le _, rfl, rfl, hB, rfl⟩
 obtain ⟨k, hk, hm, h13, hB, hE⟩ := hI
 refine c_know 13 (.int .i64 k) h13 nu (c_seq (c_region (wl (r_lss rfl rfl) (x_nil (e_S ?_)))))
 refine c_seq ?_
 refine c_ifd rfl (fun c14 => ?_) (fun c14 => ?_)
 ·
  have hlt : k < xs.length := by omega
  have hly : k < ys.length := by omega
  obtain ⟨ab, ao, LA, la, rfl, hab, har, haln⟩ := hX.at_ (Below.refl _ _ : Bel w w) hlt
  obtain ⟨bb, bo, LB, lb, rfl, hbb, hbr, hbln⟩ := hY.at_ (Below.refl _ _ : Bel w w) hly
  refine c_skip (e_S (c_seq (c_block (c_seq (c_region ?_)))))
  refine wmI rfl (waI rfl (x_nil (e_S (c_seq ?_))))
  refine c_monoGO 25 [16, 17, 18, 19, 20, 21, 22, 23, 24, 25, 26, 27, 28, 29, 30, 31, 32, 33, 34, 35, 36, 37, 38, 39, 40] (fun _ => false) (fun ix v wv => match ix with | 0 => v = .slice (some ⟨ab, ao, none⟩) xs.length c | 1 => v = .int .i64 k | 2 => v = .pointer (some ⟨ab, ao + k * 2, none⟩) | 3 => v = .pointer (some ⟨ab, ao + k * 2 + 0, none⟩) | 4 => v = .string (xs[k]'hlt).name | 5 => v = .slice (some ⟨bb, bo, none⟩) ys.length d | 6 => v = .int .i64 k | 7 => v = .pointer (some ⟨bb, bo + k * 2, none⟩) | 8 => v = .pointer (some ⟨bb, bo + k * 2 + 0, none⟩) | 9 => v = .string (ys[k]'hly).name | 10 => v = .bool (decide ((xs[k]'hlt).name ≠ (ys[k]'hly).name)) | 11 => v = .bool (decide ((xs[k]'hlt).name ≠ (ys[k]'hly).name)) | 12 => (((decide ((xs[k]'hlt).name ≠ (ys[k]'hly).name))) = false → v = .slice (some ⟨ab, ao, none⟩) xs.length c) ∧ (((decide ((xs[k]'hlt).name ≠ (ys[k]'hly).name))) = true → v = undef) | 13 => (((decide ((xs[k]'hlt).name ≠ (ys[k]'hly).name))) = false → v = .int .i64 k) ∧ (((decide ((xs[k]'hlt).name ≠ (ys[k]'hly).name))) = true → v = undef) | 14 => (((decide ((xs[k]'hlt).name ≠ (ys[k]'hly).name))) = false → v = .pointer (some ⟨ab, ao + k * 2, none⟩)) ∧ (((decide ((xs[k]'hlt).name ≠ (ys[k]'hly).name))) = true → v = undef) | 15 => (((decide ((xs[k]'hlt).name ≠ (ys[k]'hly).name))) = false → v = .pointer (some ⟨ab, ao + k * 2 + 1, none⟩)) ∧ (((decide ((xs[k]'hlt).name ≠ (ys[k]'hly).name))) = true → v = undef) | 16 => (((decide ((xs[k]'hlt).name ≠ (ys[k]'hly).name))) = false → v = .slice LA (xs[k]'hlt).par.length la) ∧ (((decide ((xs[k]'hlt).name ≠ (ys[k]'hly).name))) = true → v = undef) | 17 => (((decide ((xs[k]'hlt).name ≠ (ys[k]'hly).name))) = false → v = .slice (some ⟨bb, bo, none⟩) ys.length d) ∧ (((decide ((xs[k]'hlt).name ≠ (ys[k]'hly).name))) = true → v = undef) | 18 => (((decide ((xs[k]'hlt).name ≠ (ys[k]'hly).name))) = false → v = .int .i64 k) ∧ (((decide ((xs[k]'hlt).name ≠ (ys[k]'hly).name))) = true → v = undef) | 19 => (((decide ((xs[k]'hlt).name ≠ (ys[k]'hly).name))) = false → v = .pointer (some ⟨bb, bo + k * 2, none⟩)) ∧ (((decide ((xs[k]'hlt).name ≠ (ys[k]'hly).name))) = true → v = undef) | 20 => (((decide ((xs[k]'hlt).name ≠ (ys[k]'hly).name))) = false → v = .pointer (some ⟨bb, bo + k * 2 + 1, none⟩)) ∧ (((decide ((xs[k]'hlt).name ≠ (ys[k]'hly).name))) = true → v = undef) | 21 => (((decide ((xs[k]'hlt).name ≠ (ys[k]'hly).name))) = false → v = .slice LB (ys[k]'hly).par.length lb) ∧ (((decide ((xs[k]'hlt).name ≠ (ys[k]'hly).name))) = true → v = undef) | 22 => (((decide ((xs[k]'hlt).name ≠ (ys[k]'hly).name))) = false → v = .bool (decide ((xs[k]'hlt).par = (ys[k]'hly).par))) ∧ (((decide ((xs[k]'hlt).name ≠ (ys[k]'hly).name))) = true → v = undef) | 23 => (((decide ((xs[k]'hlt).name ≠ (ys[k]'hly).name))) = false → v = .bool (!decide ((xs[k]'hlt).par = (ys[k]'hly).par))) ∧ (((decide ((xs[k]'hlt).name ≠ (ys[k]'hly).name))) = true → v = undef) | 24 => v = .bool (decide ((xs[k]'hlt).name ≠ (ys[k]'hly).name) || !decide ((xs[k]'hlt).par = (ys[k]'hly).par)) | _ => True) kR kR ?_ ?_ ?_
  ·
   intro ix v wv wv2 h hs
   match ix, h with
   | 0, h => exact h
   | 1, h => exact h
   | 2, h => exact h
   | 3, h => exact h
   | 4, h => exact h
   | 5, h => exact h
   | 6, h => exact h
   | 7, h => exact h
   | 8, h => exact h
   | 9, h => exact h
   | 10, h => exact h
   | 11, h => exact h
   | 12, h => exact h
   | 13, h => exact h
   | 14, h => exact h
   | 15, h => exact h
   | 16, h => exact h
   | 17, h => exact h
   | 18, h => exact h
   | 19, h => exact h
   | 20, h => exact h
   | 21, h => exact h
   | 22, h => exact h
   | 23, h => exact h
   | 24, h => exact h
   | _ + 25, h => exact trivial
  ·
   intro ix o hix hoq gg wx hs hd hdis
   match ix, hix, hoq with
   | 0, _, hoq =>
    obtain rfl := sI hoq
    have hs0 := hs
    clear hs
    refine ⟨fun _ => ?_, fun hw => Bool.noConfusion (show true = false from hw)⟩
    refine os_rv (r_mv (v := .slice _ _ _) rfl) ⟨Same.refl _ _, ?_, frsh_no⟩
    exact rfl
   | 1, _, hoq =>
    obtain rfl := sI hoq
    have hs0 := hs
    clear hs
    refine ⟨fun _ => ?_, fun hw => Bool.noConfusion (show true = false from hw)⟩
    refine os_rv (r_mv (v := .int _ _) rfl) ⟨Same.refl _ _, ?_, frsh_no⟩
    exact rfl
   | 2, _, hoq =>
    obtain rfl := sI hoq
    have hs0 := hs
    clear hs
    have d0 : gg 16 = .slice (some ⟨ab, ao, none⟩) xs.length c := hd 0 (dep_of kR)
    have e16 := d0
    have d1 : gg 17 = .int .i64 k := hd 1 (dep_of kR)
    have e17 := d1
    refine ⟨fun _ => ?_, fun hw => Bool.noConfusion (show true = false from hw)⟩
    refine os_know 16 (.slice (some ⟨ab, ao, none⟩) xs.length c) e16 nu (os_know 17 (.int .i64 k) e17 nu ?_)
    refine os_rv (r_ia (i := k) U22 sz77_GLaw rfl rfl om rfl) ⟨Same.refl _ _, ?_, frsh_no⟩
    exact rfl
   | 3, _, hoq =>
    obtain rfl := sI hoq
    have hs0 := hs
    clear hs
    have d2 : gg 18 = .pointer (some ⟨ab, ao + k * 2, none⟩) := hd 2 (dep_of kR)
    have e18 := d2
    refine ⟨fun _ => ?_, fun hw => Bool.noConfusion (show true = false from hw)⟩
    refine os_know 18 (.pointer (some ⟨ab, ao + k * 2, none⟩)) e18 nu ?_
    refine os_rv (r_fa U77 sz9_HEq dE rfl rfl rfl) ⟨Same.refl _ _, ?_, frsh_no⟩
    exact rfl
   | 4, _, hoq =>
    obtain rfl := sI hoq
    have hs0 := hs
    replace hB := hB.tr0 hs
    clear hs
    have d3 : gg 19 = .pointer (some ⟨ab, ao + k * 2 + 0, none⟩) := hd 3 (dep_of kR)
    have e19 := d3
    refine ⟨fun _ => ?_, fun hw => Bool.noConfusion (show true = false from hw)⟩
    refine os_know 19 (.pointer (some ⟨ab, ao + k * 2 + 0, none⟩)) e19 nu ?_
    refine os_rv (r_ld1 (v := .string _) U9 rfl rfl (hB.cell hab (har 0 _ rfl))) ⟨Same.refl _ _, ?_, frsh_no⟩
    exact rfl
   | 5, _, hoq =>
    obtain rfl := sI hoq
    have hs0 := hs
    clear hs
    refine ⟨fun _ => ?_, fun hw => Bool.noConfusion (show true = false from hw)⟩
    refine os_rv (r_mv (v := .slice _ _ _) rfl) ⟨Same.refl _ _, ?_, frsh_no⟩
    exact rfl
   | 6, _, hoq =>
    obtain rfl := sI hoq
    have hs0 := hs
    clear hs
    refine ⟨fun _ => ?_, fun hw => Bool.noConfusion (show true = false from hw)⟩
    refine os_rv (r_mv (v := .int _ _) rfl) ⟨Same.refl _ _, ?_, frsh_no⟩
    exact rfl
   | 7, _, hoq =>
    obtain rfl := sI hoq
    have hs0 := hs
    clear hs
    have d5 : gg 21 = .slice (some ⟨bb, bo, none⟩) ys.length d := hd 5 (dep_of kR)
    have e21 := d5
    have d6 : gg 22 = .int .i64 k := hd 6 (dep_of kR)
    have e22 := d6
    refine ⟨fun _ => ?_, fun hw => Bool.noConfusion (show true = false from hw)⟩
    refine os_know 21 (.slice (some ⟨bb, bo, none⟩) ys.length d) e21 nu (os_know 22 (.int .i64 k) e22 nu ?_)
    refine os_rv (r_ia (i := k) U22 sz77_GLaw rfl rfl om rfl) ⟨Same.refl _ _, ?_, frsh_no⟩
    exact rfl
   | 8, _, hoq =>
    obtain rfl := sI hoq
    have hs0 := hs
    clear hs
    have d7 : gg 23 = .pointer (some ⟨bb, bo + k * 2, none⟩) := hd 7 (dep_of kR)
    have e23 := d7
    refine ⟨fun _ => ?_, fun hw => Bool.noConfusion (show true = false from hw)⟩
    refine os_know 23 (.pointer (some ⟨bb, bo + k * 2, none⟩)) e23 nu ?_
    refine os_rv (r_fa U77 sz9_HEq dE rfl rfl rfl) ⟨Same.refl _ _, ?_, frsh_no⟩
    exact rfl
   | 9, _, hoq =>
    obtain rfl := sI hoq
    have hs0 := hs
    replace hB := hB.tr0 hs
    clear hs
    have d8 : gg 24 = .pointer (some ⟨bb, bo + k * 2 + 0, none⟩) := hd 8 (dep_of kR)
    have e24 := d8
    refine ⟨fun _ => ?_, fun hw => Bool.noConfusion (show true = false from hw)⟩
    refine os_know 24 (.pointer (some ⟨bb, bo + k * 2 + 0, none⟩)) e24 nu ?_
    refine os_rv (r_ld1 (v := .string _) U9 rfl rfl (hB.cell hbb (hbr 0 _ rfl))) ⟨Same.refl _ _, ?_, frsh_no⟩
    exact rfl
   | 10, _, hoq =>
    obtain rfl := sI hoq
    have hs0 := hs
    clear hs
    have d4 : gg 20 = .string (xs[k]'hlt).name := hd 4 (dep_of kR)
    have e20 := d4
    have d9 : gg 25 = .string (ys[k]'hly).name := hd 9 (dep_of kR)
    have e25 := d9
    refine ⟨fun _ => ?_, fun hw => Bool.noConfusion (show true = false from hw)⟩
    refine os_know 20 (.string (xs[k]'hlt).name) e20 nu (os_know 25 (.string (ys[k]'hly).name) e25 nu ?_)
    refine os_rv (r_neqS rfl rfl) ⟨Same.refl _ _, ?_, frsh_no⟩
    exact rfl
   | 11, _, hoq =>
    obtain rfl := sI hoq
    have hs0 := hs
    clear hs
    have d10 : gg 26 = .bool (decide ((xs[k]'hlt).name ≠ (ys[k]'hly).name)) := hd 10 (dep_of kR)
    have e26 := d10
    refine ⟨fun _ => ?_, fun hw => Bool.noConfusion (show true = false from hw)⟩
    refine os_know 26 (.bool (decide ((xs[k]'hlt).name ≠ (ys[k]'hly).name))) e26 nu ?_
    refine os_rv (r_mv (v := .bool _) rfl) ⟨Same.refl _ _, ?_, frsh_no⟩
    exact rfl
   | 12, _, hoq =>
    obtain rfl := sI hoq
    have hs0 := hs
    clear hs
    have d11 : gg 27 = .bool (decide ((xs[k]'hlt).name ≠ (ys[k]'hly).name)) := hd 11 (dep_of kR)
    have e27 := d11
    refine guard_case 27 ((decide ((xs[k]'hlt).name ≠ (ys[k]'hly).name))) rfl e27 (fun hgc => ?_) (fun hgc => ⟨fun h => absurd (h.symm.trans hgc) dE, fun _ => rfl⟩)
    refine os_know 27 (.bool (decide ((xs[k]'hlt).name ≠ (ys[k]'hly).name))) e27 nu ?_
    refine os_rv (r_mv (v := .slice _ _ _) rfl) ⟨Same.refl _ _, ?_, frsh_no⟩
    exact ⟨fun _ => rfl, fun h => absurd (h.symm.trans hgc) dE⟩
   | 13, _, hoq =>
    obtain rfl := sI hoq
    have hs0 := hs
    clear hs
    have d11 : gg 27 = .bool (decide ((xs[k]'hlt).name ≠ (ys[k]'hly).name)) := hd 11 (dep_of kR)
    have e27 := d11
    refine guard_case 27 ((decide ((xs[k]'hlt).name ≠ (ys[k]'hly).name))) rfl e27 (fun hgc => ?_) (fun hgc => ⟨fun h => absurd (h.symm.trans hgc) dE, fun _ => rfl⟩)
    refine os_know 27 (.bool (decide ((xs[k]'hlt).name ≠ (ys[k]'hly).name))) e27 nu ?_
    refine os_rv (r_mv (v := .int _ _) rfl) ⟨Same.refl _ _, ?_, frsh_no⟩
    exact ⟨fun _ => rfl, fun h => absurd (h.symm.trans hgc) dE⟩
   | 14, _, hoq =>
    obtain rfl := sI hoq
    have hs0 := hs
    clear hs
    have d11 : gg 27 = .bool (decide ((xs[k]'hlt).name ≠ (ys[k]'hly).name)) := hd 11 (dep_of kR)
    have e27 := d11
    have d12 : (((decide ((xs[k]'hlt).name ≠ (ys[k]'hly).name))) = false → gg 28 = .slice (some ⟨ab, ao, none⟩) xs.length c) ∧ (((decide ((xs[k]'hlt).name ≠ (ys[k]'hly).name))) = true → gg 28 = undef) := hd 12 (dep_of kR)
    have d13 : (((decide ((xs[k]'hlt).name ≠ (ys[k]'hly).name))) = false → gg 29 = .int .i64 k) ∧ (((decide ((xs[k]'hlt).name ≠ (ys[k]'hly).name))) = true → gg 29 = undef) := hd 13 (dep_of kR)
    refine guard_case 27 ((decide ((xs[k]'hlt).name ≠ (ys[k]'hly).name))) rfl e27 (fun hgc => ?_) (fun hgc => ⟨fun h => absurd (h.symm.trans hgc) dE, fun _ => rfl⟩)
    have e28 := d12.1 hgc
    have e29 := d13.1 hgc
    refine os_know 27 (.bool (decide ((xs[k]'hlt).name ≠ (ys[k]'hly).name))) e27 nu (os_know 28 (.slice (some ⟨ab, ao, none⟩) xs.length c) e28 nu (os_know 29 (.int .i64 k) e29 nu ?_))
    refine os_rv (r_ia (i := k) U22 sz77_GLaw rfl rfl om rfl) ⟨Same.refl _ _, ?_, frsh_no⟩
    exact ⟨fun _ => rfl, fun h => absurd (h.symm.trans hgc) dE⟩
   | 15, _, hoq =>
    obtain rfl := sI hoq
    have hs0 := hs
    clear hs
    have d11 : gg 27 = .bool (decide ((xs[k]'hlt).name ≠ (ys[k]'hly).name)) := hd 11 (dep_of kR)
    have e27 := d11
    have d14 : (((decide ((xs[k]'hlt).name ≠ (ys[k]'hly).name))) = false → gg 30 = .pointer (some ⟨ab, ao + k * 2, none⟩)) ∧ (((decide ((xs[k]'hlt).name ≠ (ys[k]'hly).name))) = true → gg 30 = undef) := hd 14 (dep_of kR)
    refine guard_case 27 ((decide ((xs[k]'hlt).name ≠ (ys[k]'hly).name))) rfl e27 (fun hgc => ?_) (fun hgc => ⟨fun h => absurd (h.symm.trans hgc) dE, fun _ => rfl⟩)
    have e30 := d14.1 hgc
    refine os_know 27 (.bool (decide ((xs[k]'hlt).name ≠ (ys[k]'hly).name))) e27 nu (os_know 30 (.pointer (some ⟨ab, ao + k * 2, none⟩)) e30 nu ?_)
    refine os_rv (r_fa U77 sz43_HEq dE rfl rfl rfl) ⟨Same.refl _ _, ?_, frsh_no⟩
    exact ⟨fun _ => rfl, fun h => absurd (h.symm.trans hgc) dE⟩
   | 16, _, hoq =>
    obtain rfl := sI hoq
    have hs0 := hs
    replace hB := hB.tr0 hs
    clear hs
    have d11 : gg 27 = .bool (decide ((xs[k]'hlt).name ≠ (ys[k]'hly).name)) := hd 11 (dep_of kR)
    have e27 := d11
    have d15 : (((decide ((xs[k]'hlt).name ≠ (ys[k]'hly).name))) = false → gg 31 = .pointer (some ⟨ab, ao + k * 2 + 1, none⟩)) ∧ (((decide ((xs[k]'hlt).name ≠ (ys[k]'hly).name))) = true → gg 31 = undef) := hd 15 (dep_of kR)
    refine guard_case 27 ((decide ((xs[k]'hlt).name ≠ (ys[k]'hly).name))) rfl e27 (fun hgc => ?_) (fun hgc => ⟨fun h => absurd (h.symm.trans hgc) dE, fun _ => rfl⟩)
    have e31 := d15.1 hgc
    refine os_know 27 (.bool (decide ((xs[k]'hlt).name ≠ (ys[k]'hly).name))) e27 nu (os_know 31 (.pointer (some ⟨ab, ao + k * 2 + 1, none⟩)) e31 nu ?_)
    refine os_rv (r_ld1 (v := .slice _ _ _) U43 rfl rfl (hB.cell hab (har 1 _ rfl))) ⟨Same.refl _ _, ?_, frsh_no⟩
    exact ⟨fun _ => rfl, fun h => absurd (h.symm.trans hgc) dE⟩
   | 17, _, hoq =>
    obtain rfl := sI hoq
    have hs0 := hs
    clear hs
    have d11 : gg 27 = .bool (decide ((xs[k]'hlt).name ≠ (ys[k]'hly).name)) := hd 11 (dep_of kR)
    have e27 := d11
    refine guard_case 27 ((decide ((xs[k]'hlt).name ≠ (ys[k]'hly).name))) rfl e27 (fun hgc => ?_) (fun hgc => ⟨fun h => absurd (h.symm.trans hgc) dE, fun _ => rfl⟩)
    refine os_know 27 (.bool (decide ((xs[k]'hlt).name ≠ (ys[k]'hly).name))) e27 nu ?_
    refine os_rv (r_mv (v := .slice _ _ _) rfl) ⟨Same.refl _ _, ?_, frsh_no⟩
    exact ⟨fun _ => rfl, fun h => absurd (h.symm.trans hgc) dE⟩
   | 18, _, hoq =>
    obtain rfl := sI hoq
    have hs0 := hs
    clear hs
    have d11 : gg 27 = .bool (decide ((xs[k]'hlt).name ≠ (ys[k]'hly).name)) := hd 11 (dep_of kR)
    have e27 := d11
    refine guard_case 27 ((decide ((xs[k]'hlt).name ≠ (ys[k]'hly).name))) rfl e27 (fun hgc => ?_) (fun hgc => ⟨fun h => absurd (h.symm.trans hgc) dE, fun _ => rfl⟩)
    refine os_know 27 (.bool (decide ((xs[k]'hlt).name ≠ (ys[k]'hly).name))) e27 nu ?_
    refine os_rv (r_mv (v := .int _ _) rfl) ⟨Same.refl _ _, ?_, frsh_no⟩
    exact ⟨fun _ => rfl, fun h => absurd (h.symm.trans hgc) dE⟩
   | 19, _, hoq =>
    obtain rfl := sI hoq
    have hs0 := hs
    clear hs
    have d11 : gg 27 = .bool (decide ((xs[k]'hlt).name ≠ (ys[k]'hly).name)) := hd 11 (dep_of kR)
    have e27 := d11
    have d17 : (((decide ((xs[k]'hlt).name ≠ (ys[k]'hly).name))) = false → gg 33 = .slice (some ⟨bb, bo, none⟩) ys.length d) ∧ (((decide ((xs[k]'hlt).name ≠ (ys[k]'hly).name))) = true → gg 33 = undef) := hd 17 (dep_of kR)
    have d18 : (((decide ((xs[k]'hlt).name ≠ (ys[k]'hly).name))) = false → gg 34 = .int .i64 k) ∧ (((decide ((xs[k]'hlt).name ≠ (ys[k]'hly).name))) = true → gg 34 = undef) := hd 18 (dep_of kR)
    refine guard_case 27 ((decide ((xs[k]'hlt).name ≠ (ys[k]'hly).name))) rfl e27 (fun hgc => ?_) (fun hgc => ⟨fun h => absurd (h.symm.trans hgc) dE, fun _ => rfl⟩)
    have e33 := d17.1 hgc
    have e34 := d18.1 hgc
    refine os_know 27 (.bool (decide ((xs[k]'hlt).name ≠ (ys[k]'hly).name))) e27 nu (os_know 33 (.slice (some ⟨bb, bo, none⟩) ys.length d) e33 nu (os_know 34 (.int .i64 k) e34 nu ?_))
    refine os_rv (r_ia (i := k) U22 sz77_GLaw rfl rfl om rfl) ⟨Same.refl _ _, ?_, frsh_no⟩
    exact ⟨fun _ => rfl, fun h => absurd (h.symm.trans hgc) dE⟩
   | 20, _, hoq =>
    obtain rfl := sI hoq
    have hs0 := hs
    clear hs
    have d11 : gg 27 = .bool (decide ((xs[k]'hlt).name ≠ (ys[k]'hly).name)) := hd 11 (dep_of kR)
    have e27 := d11
    have d19 : (((decide ((xs[k]'hlt).name ≠ (ys[k]'hly).name))) = false → gg 35 = .pointer (some ⟨bb, bo + k * 2, none⟩)) ∧ (((decide ((xs[k]'hlt).name ≠ (ys[k]'hly).name))) = true → gg 35 = undef) := hd 19 (dep_of kR)
    refine guard_case 27 ((decide ((xs[k]'hlt).name ≠ (ys[k]'hly).name))) rfl e27 (fun hgc => ?_) (fun hgc => ⟨fun h => absurd (h.symm.trans hgc) dE, fun _ => rfl⟩)
    have e35 := d19.1 hgc
    refine os_know 27 (.bool (decide ((xs[k]'hlt).name ≠ (ys[k]'hly).name))) e27 nu (os_know 35 (.pointer (some ⟨bb, bo + k * 2, none⟩)) e35 nu ?_)
    refine os_rv (r_fa U77 sz43_HEq dE rfl rfl rfl) ⟨Same.refl _ _, ?_, frsh_no⟩
    exact ⟨fun _ => rfl, fun h => absurd (h.symm.trans hgc) dE⟩
   | 21, _, hoq =>
    obtain rfl := sI hoq
    have hs0 := hs
    replace hB := hB.tr0 hs
    clear hs
    have d11 : gg 27 = .bool (decide ((xs[k]'hlt).name ≠ (ys[k]'hly).name)) := hd 11 (dep_of kR)
    have e27 := d11
    have d20 : (((decide ((xs[k]'hlt).name ≠ (ys[k]'hly).name))) = false → gg 36 = .pointer (some ⟨bb, bo + k * 2 + 1, none⟩)) ∧ (((decide ((xs[k]'hlt).name ≠ (ys[k]'hly).name))) = true → gg 36 = undef) := hd 20 (dep_of kR)
    refine guard_case 27 ((decide ((xs[k]'hlt).name ≠ (ys[k]'hly).name))) rfl e27 (fun hgc => ?_) (fun hgc => ⟨fun h => absurd (h.symm.trans hgc) dE, fun _ => rfl⟩)
    have e36 := d20.1 hgc
    refine os_know 27 (.bool (decide ((xs[k]'hlt).name ≠ (ys[k]'hly).name))) e27 nu (os_know 36 (.pointer (some ⟨bb, bo + k * 2 + 1, none⟩)) e36 nu ?_)
    refine os_rv (r_ld1 (v := .slice _ _ _) U43 rfl rfl (hB.cell hbb (hbr 1 _ rfl))) ⟨Same.refl _ _, ?_, frsh_no⟩
    exact ⟨fun _ => rfl, fun h => absurd (h.symm.trans hgc) dE⟩
   | 22, _, hoq =>
    obtain rfl := sI hoq
    have hs0 := hs
    replace hB := hB.tr0 hs
    clear hs
    have d11 : gg 27 = .bool (decide ((xs[k]'hlt).name ≠ (ys[k]'hly).name)) := hd 11 (dep_of kR)
    have e27 := d11
    have d16 : (((decide ((xs[k]'hlt).name ≠ (ys[k]'hly).name))) = false → gg 32 = .slice LA (xs[k]'hlt).par.length la) ∧ (((decide ((xs[k]'hlt).name ≠ (ys[k]'hly).name))) = true → gg 32 = undef) := hd 16 (dep_of kR)
    have d21 : (((decide ((xs[k]'hlt).name ≠ (ys[k]'hly).name))) = false → gg 37 = .slice LB (ys[k]'hly).par.length lb) ∧ (((decide ((xs[k]'hlt).name ≠ (ys[k]'hly).name))) = true → gg 37 = undef) := hd 21 (dep_of kR)
    refine guard_case 27 ((decide ((xs[k]'hlt).name ≠ (ys[k]'hly).name))) rfl e27 (fun hgc => ?_) (fun hgc => ⟨fun h => absurd (h.symm.trans hgc) dE, fun _ => rfl⟩)
    have e32 := d16.1 hgc
    have e37 := d21.1 hgc
    refine os_know 27 (.bool (decide ((xs[k]'hlt).name ≠ (ys[k]'hly).name))) e27 nu (os_know 32 (.slice LA (xs[k]'hlt).par.length la) e32 nu (os_know 37 (.slice LB (ys[k]'hly).par.length lb) e37 nu ?_))
    refine os_cl fn12 (ieq_any _ _ _ _ _ _ wx (haln.mono hB) (hbln.mono hB)) rfl (fun e' w2 hr => ?_)
    obtain ⟨rfl, hs⟩ := hr
    exact ⟨_, rfl, Same.of_bel hs, ⟨fun _ => rfl, fun h => absurd (h.symm.trans hgc) dE⟩, frsh_no⟩
   | 23, _, hoq =>
    obtain rfl := sI hoq
    have hs0 := hs
    clear hs
    have d11 : gg 27 = .bool (decide ((xs[k]'hlt).name ≠ (ys[k]'hly).name)) := hd 11 (dep_of kR)
    have e27 := d11
    have d22 : (((decide ((xs[k]'hlt).name ≠ (ys[k]'hly).name))) = false → gg 38 = .bool (decide ((xs[k]'hlt).par = (ys[k]'hly).par))) ∧ (((decide ((xs[k]'hlt).name ≠ (ys[k]'hly).name))) = true → gg 38 = undef) := hd 22 (dep_of kR)
    refine guard_case 27 ((decide ((xs[k]'hlt).name ≠ (ys[k]'hly).name))) rfl e27 (fun hgc => ?_) (fun hgc => ⟨fun h => absurd (h.symm.trans hgc) dE, fun _ => rfl⟩)
    have e38 := d22.1 hgc
    refine os_know 27 (.bool (decide ((xs[k]'hlt).name ≠ (ys[k]'hly).name))) e27 nu (os_know 38 (.bool (decide ((xs[k]'hlt).par = (ys[k]'hly).par))) e38 nu ?_)
    refine os_rv (r_not rfl) ⟨Same.refl _ _, ?_, frsh_no⟩
    exact ⟨fun _ => rfl, fun h => absurd (h.symm.trans hgc) dE⟩
   | 24, _, hoq =>
    obtain rfl := sI hoq
    have hs0 := hs
    clear hs
    have d11 : gg 27 = .bool (decide ((xs[k]'hlt).name ≠ (ys[k]'hly).name)) := hd 11 (dep_of kR)
    have e27 := d11
    have d23 : (((decide ((xs[k]'hlt).name ≠ (ys[k]'hly).name))) = false → gg 39 = .bool (!decide ((xs[k]'hlt).par = (ys[k]'hly).par))) ∧ (((decide ((xs[k]'hlt).name ≠ (ys[k]'hly).name))) = true → gg 39 = undef) := hd 23 (dep_of kR)
    refine ⟨fun _ => ?_, fun hw => Bool.noConfusion (show true = false from hw)⟩
    cases hcc : (decide ((xs[k]'hlt).name ≠ (ys[k]'hly).name)) with
    | true =>
     rw [hcc] at e27
     refine os_know 27 (.bool true) e27 nu ?_
     refine os_rv (r_pt (v := .bool _) rfl rfl) ⟨Same.refl _ _, ?_, frsh_no⟩
     exact rfl
    | false =>
     have e39 := d23.1 hcc
     rw [hcc] at e27
     refine os_know 27 (.bool false) e27 nu (os_know 39 (.bool (!decide ((xs[k]'hlt).par = (ys[k]'hly).par))) e39 nu ?_)
     refine os_rv (r_pf (v := .bool _) rfl rfl) ⟨Same.refl _ _, ?_, frsh_no⟩
     exact rfl
   | _ + 25, hix, _ => exact absurd hix om
  intro gg w2 hs hR hdis
  have hs0 := hs
  replace hB := hB.tr0 hs
  clear hs
  have d24 : gg 40 = .bool (decide ((xs[k]'hlt).name ≠ (ys[k]'hly).name) || !decide ((xs[k]'hlt).par = (ys[k]'hly).par)) := hR 24 dE
  have e40 := d24
  refine wl_know 40 (.bool (decide ((xs[k]'hlt).name ≠ (ys[k]'hly).name) || !decide ((xs[k]'hlt).par = (ys[k]'hly).par))) e40 nu (x_nil (e_S ?_))
  refine c_if rfl (fun c40 => ?_) (fun c40 => ?_)
  ·
   refine c_seq (c_region (waB rfl (x_nil (e_S (c_ret ?_)))))
   refine e_Br (e_Sr (e_LSr (e_Br (e_Sr (fin1 (.inl rfl) rfl rfl ?_)))))
   exact ⟨⟨false, rfl, ⟨fun h => Bool.noConfusion h, fun h => by
     subst h
     simp at c40⟩⟩, hB⟩
  have hx : xs[k]'hlt = ys[k]'hly := by
    simp only [Bool.or_eq_false_iff, decide_eq_false_iff_not, Bool.not_eq_false', decide_eq_true_eq] at c40
    exact ty_ext (Decidable.not_not.1 c40.1) c40.2
  refine c_skip (e_B (e_S (c_region (wl (r_add rfl rfl rfl om) (wmI rfl ?_)))))
  refine x_nil (e_LS (xs.length - (k + 1)) om agA ?_)
  exact ⟨k + 1, by omega, rfl, rfl, hB, by rw [List.take_succ_eq_append_getElem hlt, List.take_succ_eq_append_getElem hly, hE, hx]⟩
 have hek : k = xs.length := by omega
 have hfin : xs = ys := by
   rw [hek] at hE
   have e2 : ys.take xs.length = ys := List.take_of_length_le om
   rw [List.take_length, e2] at hE; exact hE
 refine c_exit (e_Sx (e_LSx (e_Bx (e_S (c_seq ?_)))))
 refine c_region (waB rfl (x_nil (e_S (c_ret (fin1 (.inl rfl) rfl rfl ?_)))))
 exact ⟨⟨true, rfl, ⟨fun _ => hfin, fun _ => rfl⟩⟩, hB⟩
set_option maxHeartbeats 1000000 in
theorem hieq_any (A B A' B' : Option Addr) (c d c' d' : Nat) (l l' : List Ty) (fs fs' : List Ft) (w : World) (hT : TypesIn w A l) (hF : FeatsIn w B fs) (hT' : TypesIn w A' l') (hF' : FeatsIn w B' fs') : Calls Tryd.prog 18 #[.agg #[.slice A l.length c, .slice B fs.length d], .agg #[.slice A' l'.length c', .slice B' fs'.length d']] w fun e w' => (∃ b, e = .returned (.bool b) ∧ (b = true ↔ l = l' ∧ fs = fs')) ∧ Bel w w' := by
 refine enter Tryd.func18 Tryd.ntmps18 rfl (Nat.le_of_ble_eq_true rfl) ?_
 have hB : Bel w w := Below.refl _ _
 refine c_seq (c_region ?_)
 refine wl_bx (v := .agg #[_, _]) (cs := #[_, _]) rfl rfl (fun b2 w1 hb2 hs hr => ?_)
 have lo2 := nLT (Bel.size hB) hr
 replace hB := hB.tr0 hs
 clear hs
 clear hr
 refine wl_bx (v := .agg #[_, _]) (cs := #[_, _]) rfl rfl (fun b3 w2 hb3 hs hr => ?_)
 have or_b2_b3 : b2 < b3 := nLL hb2.lt hr
 have lo3 := nLT (Bel.size hB) hr
 replace hB := hB.tr0 hs
 replace hb2 := hb2.tr0 hs
 clear hs
 clear hr
 refine waB rfl (x_nil (e_S (c_seq (c_region (wl (r_fa U25 sz22_GLoose dE rfl rfl rfl) ?_)))))
 refine wl (r_ld1 (v := .slice _ _ _) U22 rfl rfl (hb2.cell rfl)) (wl (r_fa U25 sz22_GLoose dE rfl rfl rfl) (wl (r_ld1 (v := .slice _ _ _) U22 rfl rfl (hb3.cell rfl)) ?_))
 refine wl_cl fn46 (teq_any A A' c c' l l' _ (hT.mono hB) (hT'.mono hB)) rfl (fun e' w3 hr => ?_)
 obtain ⟨⟨b1, rfl, hb1⟩, hs⟩ := hr
 replace hs := Same.of_bel hs
 replace hB := hB.tr0 hs
 replace hb2 := hb2.tr0 hs
 replace hb3 := hb3.tr0 hs
 clear hs
 refine ⟨_, rfl, ?_⟩
 refine wmB rfl ?_
 refine wl_cases 10 rfl (fun g10 => ?_) (fun g10 => ?_)
 ·
  refine wl_gd 10 rfl rfl (wl (r_fa U25 sz23_GLoose dE rfl rfl rfl) (wl_gd 10 rfl rfl (wl (r_ld1 (v := .slice _ _ _) U23 rfl rfl (hb2.cell rfl)) (wl_gd 10 rfl rfl (wl (r_fa U25 sz23_GLoose dE rfl rfl rfl) ?_)))))
  refine wl_gd 10 rfl rfl (wl (r_ld1 (v := .slice _ _ _) U23 rfl rfl (hb3.cell rfl)) (wl_gd 10 rfl rfl ?_))
  refine wl_cl fn47 (feq_any B B' d d' fs fs' _ (hF.mono hB) (hF'.mono hB)) rfl (fun e' w4 hr => ?_)
  obtain ⟨⟨bF, rfl, hbF⟩, hs⟩ := hr
  replace hs := Same.of_bel hs
  replace hB := hB.tr0 hs
  replace hb2 := hb2.tr0 hs
  replace hb3 := hb3.tr0 hs
  clear hs
  refine ⟨_, rfl, ?_⟩
  refine wl (r_pt (v := .bool _) rfl rfl) (waB rfl (x_nil (e_S (c_ret (fin1 (.inl rfl) rfl rfl ?_)))))
  first
    | exact ⟨⟨_, rfl, ⟨fun h => ⟨hb1.1 g10, hbF.1 h⟩, fun h => hbF.2 h.2⟩⟩, hB⟩
    | exact ⟨⟨false, rfl, ⟨fun h => Bool.noConfusion h, fun h => by rw [hb1.2 h.1] at g10; exact Bool.noConfusion g10⟩⟩, hB⟩
 refine wlgn 10 rfl rfl rfl (wlgn 10 rfl rfl rfl (wlgn 10 rfl rfl rfl (wlgn 10 rfl rfl rfl (wlgn 10 rfl rfl rfl (wl (r_pf (v := .bool _) rfl rfl) ?_)))))
 refine waB rfl (x_nil (e_S (c_ret (fin1 (.inl rfl) rfl rfl ?_))))
 first
   | exact ⟨⟨_, rfl, ⟨fun h => ⟨hb1.1 g10, hbF.1 h⟩, fun h => hbF.2 h.2⟩⟩, hB⟩
   | exact ⟨⟨false, rfl, ⟨fun h => Bool.noConfusion h, fun h => by rw [hb1.2 h.1] at g10; exact Bool.noConfusion g10⟩⟩, hB⟩
end Go.Proofs.YtegngekpmpdngaaDoor
namespace Go.Proofs.YtegngekpmpdngaaDoor
open Go.RowKit
theorem lit_prs : prs (⟨#[116, 121, 112, 101, 32, 116, 111, 112, 10, 116, 121, 112, 101, 32, 97, 32, 98, 10]⟩ : ByteArray) = (([], []), (6, 1)) := by kernel_rfl
theorem fd35_PLaw : (Tryd.prog.fieldsOf 35).toList.map (fun f => (f.name == "_", f.type, f.offset)) = [(false, 3, 0), (false, 3, 1)] := by kernel_rfl
theorem fn16_PLaw : callable Tryd.prog 16 = true := by kernel_rfl
theorem fn17 : callable Tryd.prog 17 = true := by kernel_rfl
theorem fn18_PLaw : callable Tryd.prog 18 = true := by kernel_rfl
theorem ft35_PLaw : Tryd.prog.underlying 35 = some (.struct (Tryd.prog.fieldsOf 35)) := by kernel_rfl
set_option maxRecDepth 100000 in
set_option maxHeartbeats 4000000 in
theorem law18_any (s : ByteArray) (w : World) (hTab : TabIn w) : Calls Tryd.prog 4 #[.string s] w fun e w' => e = .returned (.bool true) ∧ Bel w w' := by
 refine enter Tryd.func4 Tryd.ntmps4 rfl (Nat.le_of_ble_eq_true rfl) ?_
 have hB : Bel w w := Below.refl _ _
 refine c_seq (c_region (waB rfl (x_nil (e_S (c_seq ?_)))))
 refine c_seq (c_region ?_)
 refine wl_cl fn16_PLaw (prs_any _ _ (hTab.mono hB)) rfl (fun e' w1 hr => ?_)
 obtain ⟨⟨At, ct, Af, cf, l0, fs0, f0, hpe, rfl, _, _, _, _⟩, hs⟩ := hr
 replace hs := Same.of_bel hs
 replace hB := hB.tr0 hs
 clear hs
 have hq := lit_prs.symm.trans hpe
 simp only [Prod.mk.injEq] at hq
 obtain ⟨⟨rfl, rfl⟩, rfl⟩ := hq
 refine ⟨_, rfl, ?_⟩
 refine wmT rfl (wl (r_ex (v := .agg _) rfl rfl) (wl (r_ex (v := .agg _) rfl rfl) ?_))
 refine wl_al (cs := #[.slice none 0 0, .slice none 0 0]) ze25_HRd rfl (fun b3 w2 hb3 hs hr => ?_)
 have lo3 := nLT (Bel.size hB) hr
 replace hB := hB.tr0 hs
 clear hs
 clear hr
 refine wl_al (cs := #[.int .i64 0, .int .i64 0]) ze35_GLoose rfl (fun b4 w3 hb4 hs hr => ?_)
 have or_b3_b4 : b3 < b4 := nLL hb3.lt hr
 have lo4 := nLT (Bel.size hB) hr
 replace hB := hB.tr0 hs
 replace hb3 := hb3.tr0 hs
 clear hs
 clear hr
 refine wl_stW hb3 rfl rfl sz25 rfl oneA (fun w4 hq hs => ?_)
 replace hB := hB.tr1 hs lo3
 replace hb4 := hb4.tr1 hs om
 clear hs
 replace hb3 := hq
 refine wl_stW hb4 rfl rfl sz35_GLoose rfl oneA (fun w5 hq hs => ?_)
 replace hB := hB.tr1 hs lo4
 replace hb3 := hb3.tr1 hs om
 clear hs
 replace hb4 := hq
 refine x_nil (e_S (c_seq (c_region (wl (r_ldS U35 rfl rfl hb4.range0 sz35_GLoose) (wl (r_bd2 (v0 := .int _ _) (v1 := .int _ _) (fun v0 v1 => #[v0, v1]) rfl rfl kR) ?_)))))
 refine wl (r_neF Tryd.eqGuardType35 ft35_PLaw Tryd.stoodInHeld35 fd35_PLaw U3 rfl rfl) (x_nil (e_S ?_))
 refine c_ifd rfl (fun c15 => ?_) (fun c15 => ?_)
 ·
  exact absurd ⟨rfl, rfl⟩ c15
 refine c_skip (e_S (c_seq (c_region (wl (r_mv (v := .string _) rfl) ?_))))
 refine wl_cl fn16_PLaw (prs_any s _ (hTab.mono hB)) rfl (fun e' w6 hr => ?_)
 obtain ⟨⟨At2, ct2, Af2, cf2, l, fs, f, hpe2, rfl, _, _, hTp, hFp⟩, hs⟩ := hr
 replace hs := Same.of_bel hs
 replace hB := hB.tr0 hs
 replace hb3 := hb3.tr0 hs
 replace hb4 := hb4.tr0 hs
 clear hs
 obtain ⟨wP, hwP⟩ : ∃ z, z = w6 := ⟨_, rfl⟩
 have hBP : Bel wP w6 := by rw [hwP]; exact Below.refl _ _
 rw [← hwP] at hTp hFp
 refine ⟨_, rfl, ?_⟩
 refine wmT rfl (wl (r_ex (v := .agg _) rfl rfl) (wl (r_ex (v := .agg _) rfl rfl) ?_))
 refine wl_al (cs := #[.slice none 0 0, .slice none 0 0]) ze25_HRd rfl (fun b5 w7 hb5 hs hr => ?_)
 have or_b3_b5 : b3 < b5 := nLL hb3.lt hr
 have or_b4_b5 : b4 < b5 := nLL hb4.lt hr
 have lo5 := nLT (Bel.size hB) hr
 have lo_hBP_b5 := nLT (Bel.size hBP) hr
 replace hB := hB.tr0 hs
 replace hb3 := hb3.tr0 hs
 replace hb4 := hb4.tr0 hs
 replace hBP := hBP.tr0 hs
 clear hs
 clear hr
 refine wl_al (cs := #[.int .i64 0, .int .i64 0]) ze35_GLoose rfl (fun b6 w8 hb6 hs hr => ?_)
 have or_b3_b6 : b3 < b6 := nLL hb3.lt hr
 have or_b4_b6 : b4 < b6 := nLL hb4.lt hr
 have or_b5_b6 : b5 < b6 := nLL hb5.lt hr
 have lo6 := nLT (Bel.size hB) hr
 have lo_hBP_b6 := nLT (Bel.size hBP) hr
 replace hB := hB.tr0 hs
 replace hb3 := hb3.tr0 hs
 replace hb4 := hb4.tr0 hs
 replace hBP := hBP.tr0 hs
 replace hb5 := hb5.tr0 hs
 clear hs
 clear hr
 refine wl_stW hb5 rfl rfl sz25 rfl oneA (fun w9 hq hs => ?_)
 replace hB := hB.tr1 hs lo5
 replace hb3 := hb3.tr1 hs om
 replace hb4 := hb4.tr1 hs om
 replace hBP := hBP.tr1 hs lo_hBP_b5
 replace hb6 := hb6.tr1 hs om
 clear hs
 replace hb5 := hq
 refine wl_stW hb6 rfl rfl sz35_GLoose rfl oneA (fun w10 hq hs => ?_)
 replace hB := hB.tr1 hs lo6
 replace hb3 := hb3.tr1 hs om
 replace hb4 := hb4.tr1 hs om
 replace hBP := hBP.tr1 hs lo_hBP_b6
 replace hb5 := hb5.tr1 hs om
 clear hs
 replace hb6 := hq
 refine x_nil (e_S (c_seq (c_region (wl (r_mv (v := .string _) rfl) ?_))))
 refine wl_cl fn17 (rdh_any s _) rfl (fun e' w11 hr => ?_)
 obtain ⟨⟨At3, ct3, Af3, cf3, l3, fs3, f3, hpe3, rfl, _, _, hTq, hFq⟩, hs⟩ := hr
 replace hs := Same.of_bel hs
 replace hB := hB.tr0 hs
 replace hb3 := hb3.tr0 hs
 replace hb4 := hb4.tr0 hs
 replace hBP := hBP.tr0 hs
 replace hb5 := hb5.tr0 hs
 replace hb6 := hb6.tr0 hs
 clear hs
 have hq := hpe2.symm.trans hpe3
 simp only [Prod.mk.injEq] at hq
 obtain ⟨⟨rfl, rfl⟩, rfl⟩ := hq
 obtain ⟨wR, hwR⟩ : ∃ z, z = w11 := ⟨_, rfl⟩
 have hBR : Bel wR w11 := by rw [hwR]; exact Below.refl _ _
 rw [← hwR] at hTq hFq
 refine ⟨_, rfl, ?_⟩
 refine wmT rfl (wl (r_ex (v := .agg _) rfl rfl) (wl (r_ex (v := .agg _) rfl rfl) ?_))
 refine wl_al (cs := #[.slice none 0 0, .slice none 0 0]) ze25_HRd rfl (fun b7 w12 hb7 hs hr => ?_)
 have or_b3_b7 : b3 < b7 := nLL hb3.lt hr
 have or_b4_b7 : b4 < b7 := nLL hb4.lt hr
 have or_b5_b7 : b5 < b7 := nLL hb5.lt hr
 have or_b6_b7 : b6 < b7 := nLL hb6.lt hr
 have lo7 := nLT (Bel.size hB) hr
 have lo_hBP_b7 := nLT (Bel.size hBP) hr
 have lo_hBR_b7 := nLT (Bel.size hBR) hr
 replace hB := hB.tr0 hs
 replace hb3 := hb3.tr0 hs
 replace hb4 := hb4.tr0 hs
 replace hBP := hBP.tr0 hs
 replace hb5 := hb5.tr0 hs
 replace hb6 := hb6.tr0 hs
 replace hBR := hBR.tr0 hs
 clear hs
 clear hr
 refine wl_al (cs := #[.int .i64 0, .int .i64 0]) ze35_GLoose rfl (fun b8 w13 hb8 hs hr => ?_)
 have or_b3_b8 : b3 < b8 := nLL hb3.lt hr
 have or_b4_b8 : b4 < b8 := nLL hb4.lt hr
 have or_b5_b8 : b5 < b8 := nLL hb5.lt hr
 have or_b6_b8 : b6 < b8 := nLL hb6.lt hr
 have or_b7_b8 : b7 < b8 := nLL hb7.lt hr
 have lo8 := nLT (Bel.size hB) hr
 have lo_hBP_b8 := nLT (Bel.size hBP) hr
 have lo_hBR_b8 := nLT (Bel.size hBR) hr
 replace hB := hB.tr0 hs
 replace hb3 := hb3.tr0 hs
 replace hb4 := hb4.tr0 hs
 replace hBP := hBP.tr0 hs
 replace hb5 := hb5.tr0 hs
 replace hb6 := hb6.tr0 hs
 replace hBR := hBR.tr0 hs
 replace hb7 := hb7.tr0 hs
 clear hs
 clear hr
 refine wl_stW hb7 rfl rfl sz25 rfl oneA (fun w14 hq hs => ?_)
 replace hB := hB.tr1 hs lo7
 replace hb3 := hb3.tr1 hs om
 replace hb4 := hb4.tr1 hs om
 replace hBP := hBP.tr1 hs lo_hBP_b7
 replace hb5 := hb5.tr1 hs om
 replace hb6 := hb6.tr1 hs om
 replace hBR := hBR.tr1 hs lo_hBR_b7
 replace hb8 := hb8.tr1 hs om
 clear hs
 replace hb7 := hq
 refine wl_stW hb8 rfl rfl sz35_GLoose rfl oneA (fun w15 hq hs => ?_)
 replace hB := hB.tr1 hs lo8
 replace hb3 := hb3.tr1 hs om
 replace hb4 := hb4.tr1 hs om
 replace hBP := hBP.tr1 hs lo_hBP_b8
 replace hb5 := hb5.tr1 hs om
 replace hb6 := hb6.tr1 hs om
 replace hBR := hBR.tr1 hs lo_hBR_b8
 replace hb7 := hb7.tr1 hs om
 clear hs
 replace hb8 := hq
 refine x_nil (e_S (c_seq (c_region (wl (r_ldS U35 rfl rfl hb6.range0 sz35_GLoose) (wl (r_ldS U35 rfl rfl hb8.range0 sz35_GLoose) ?_)))))
 refine wl (r_eqF Tryd.eqGuardType35 ft35_PLaw Tryd.stoodInHeld35 fd35_PLaw U3 rfl rfl) (wl (r_mv (v := .bool true) (congrArg Value.bool (decide_eq_true ⟨rfl, rfl⟩))) (wl_gd 29 rfl rfl (wl (r_ldS U25 rfl rfl hb5.range0 sz25) (wl_gd 29 rfl rfl (wl (r_ldS U25 rfl rfl hb7.range0 sz25) ?_)))))
 refine wl_gd 29 rfl rfl ?_
 refine wl_cl fn18_PLaw (hieq_any At2 Af2 At3 Af3 ct2 cf2 ct3 cf3 l l fs fs _ (hTp.mono hBP) (hFp.mono hBP) (hTq.mono hBR) (hFq.mono hBR)) rfl (fun e' w16 hr => ?_)
 obtain ⟨⟨bE, rfl, hbE⟩, hs⟩ := hr
 replace hs := Same.of_bel hs
 replace hB := hB.tr0 hs
 replace hb3 := hb3.tr0 hs
 replace hb4 := hb4.tr0 hs
 replace hBP := hBP.tr0 hs
 replace hb5 := hb5.tr0 hs
 replace hb6 := hb6.tr0 hs
 replace hBR := hBR.tr0 hs
 replace hb7 := hb7.tr0 hs
 replace hb8 := hb8.tr0 hs
 clear hs
 obtain rfl := hbE.2 ⟨rfl, rfl⟩
 refine ⟨_, rfl, ?_⟩
 refine wl (r_pt (v := .bool _) rfl rfl) (waB rfl (x_nil (e_S (c_ret (fin1 (.inl rfl) rfl rfl ?_)))))
 exact ⟨rfl, hB⟩
end Go.Proofs.YtegngekpmpdngaaDoor
