/- What these functions of the program compute, at every world: cmp.isNaN[int], cmp.Compare[int], glosswright/graph.Target$1, slices.BinarySearchFunc[[]glosswright/api.Link,glosswright/api.Link,int]. What these functions of the program compute, at every world: glosswright/graph.Target, glosswright/glosswrightref3.Target, glosswright/glosswrightlaw3.single. A graph whose nodes are numbered in another way: valid, and of the same canonical form. No program in sight. What is reached from a node of a valid graph is a valid graph; a path in it leads where the path leads in the graph. No program in sight. -/
import Derived.Test.YtegngekpmpdngaaDoorU
import Derived.Test.YtegngekpmpdngaaDoorPath
namespace Go.Proofs.YtegngekpmpdngaaDoor
open Go.RowKit
theorem r_cvU {P : Program} {n : Nat} {f : Fr} {w : World} {dst : Option Tmp} {gd : Option (Nat × Bool)} {ty : TypeId} {pos : String} {af : Array Edge} {x : Operand} {k' : IntKind} {a : Int} {t t' : TypeId} {dd : TypeDesc} (hs : P.underlying t = some dd) (hd : P.underlying t' = some (.int .u64)) (hx : ev n f x = .int k' a) (ha : 0 ≤ a ∧ a ≤ 18446744073709551615) :
    RV P n f w ⟨dst, .convert t t' x, ty, pos, af, gd⟩ (.int .u64 a) w := by
  have := IntWalk.u64_in a ha
  simp [RV, execOp, hx, convert, run_underlying hs, run_underlying hd, Conv.intToInt, this]
def cmpI (a b : Int) : Int := if a < b then -1 else if b < a then 1 else 0
theorem cmpI_lt {a b : Int} : cmpI a b < 0 ↔ a < b := by unfold cmpI; split <;> (try split) <;> omega
theorem cmpI_eq {a b : Int} : cmpI a b = 0 ↔ a = b := by unfold cmpI; split <;> (try split) <;> omega
theorem fn103 : callable Tryd.prog 103 = true := by kernel_rfl
theorem fn84 : callable Tryd.prog 84 = true := by kernel_rfl
theorem fn85 : callable Tryd.prog 85 = true := by kernel_rfl
theorem sz3_GSearch : (Tryd.prog.info? 3).map (·.size) = some 1 := by kernel_rfl
theorem sz30_GSearch : (Tryd.prog.info? 30).map (·.size) = some 2 := by kernel_rfl
theorem nan_any (a : Int) (w : World) : Calls Tryd.prog 103 #[.int .i64 a] w fun e w' => e = .returned (.bool false) ∧ Bel w w' := by
 refine enter Tryd.func103 Tryd.ntmps103 rfl (Nat.le_of_ble_eq_true rfl) ?_
 have hB : Bel w w := Below.refl _ _
 refine c_seq (c_region (waB rfl (x_nil (e_S (c_seq ?_)))))
 refine c_region (wmI rfl (wmI rfl (wl (r_neq rfl rfl) (waB rfl (x_nil ?_)))))
 refine e_S (c_ret (fin1 (.inl rfl) rfl rfl ?_))
 exact ⟨ret_bool (decide_eq_false (fun h => h rfl)).symm, hB⟩
theorem compare_any (a b : Int) (w : World) : Calls Tryd.prog 85 #[.int .i64 a, .int .i64 b] w fun e w' => e = .returned (.int .i64 (cmpI a b)) ∧ Bel w w' := by
 refine enter Tryd.func85 Tryd.ntmps85 rfl (Nat.le_of_ble_eq_true rfl) ?_
 have hB : Bel w w := Below.refl _ _
 refine c_seq (c_region (waI rfl (x_nil (e_S (c_seq ?_)))))
 refine c_region (wmI rfl ?_)
 refine wl_cl fn103 (nan_any _ _) rfl (fun e' w1 hr => ?_)
 obtain ⟨rfl, hs⟩ := hr
 replace hs := Same.of_bel hs
 replace hB := hB.tr0 hs
 clear hs
 refine ⟨_, rfl, ?_⟩
 refine waB rfl (x_nil (e_S (c_seq (c_region (wmI rfl ?_)))))
 refine wl_cl fn103 (nan_any _ _) rfl (fun e' w2 hr => ?_)
 obtain ⟨rfl, hs⟩ := hr
 replace hs := Same.of_bel hs
 replace hB := hB.tr0 hs
 clear hs
 refine ⟨_, rfl, ?_⟩
 refine waB rfl (x_nil (e_S (c_seq (c_seq (c_region ?_)))))
 refine wmB rfl (x_nil (e_S ?_))
 refine c_if rfl (fun c11 => ?_) (fun c11 => ?_)
 ·
  exact absurd c11 dE
 refine c_skip (e_S (c_seq (c_seq (c_region (wmB rfl ?_)))))
 refine x_nil (e_S ?_)
 refine c_if rfl (fun c13 => ?_) (fun c13 => ?_)
 ·
  exact absurd c13 dE
 refine c_skip (e_S (c_seq (c_seq (c_region (wmI rfl ?_)))))
 refine wmI rfl (wl (r_lss rfl rfl) (x_nil (e_S ?_)))
 refine c_ifd rfl (fun c16 => ?_) (fun c16 => ?_)
 ·
  refine c_seq (c_region (waI rfl (x_nil (e_S (c_ret ?_)))))
  refine e_Sr (fin1 (.inl rfl) rfl rfl ?_)
  exact ⟨ret_int (by unfold cmpI; rw [if_pos c16]), hB⟩
 refine c_skip (e_S (c_seq (c_seq (c_region (wmI rfl ?_)))))
 refine wmI rfl (wl (r_gtr rfl rfl) (x_nil (e_S ?_)))
 refine c_ifd rfl (fun c19 => ?_) (fun c19 => ?_)
 ·
  refine c_seq (c_region (waI rfl (x_nil (e_S (c_ret ?_)))))
  refine e_Sr (fin1 (.inl rfl) rfl rfl ?_)
  exact ⟨ret_int (by unfold cmpI; rw [if_neg c16]; exact if_pos c19), hB⟩
 refine c_skip (e_S (c_seq (c_region (waI rfl (x_nil ?_)))))
 refine e_S (c_ret (fin1 (.inl rfl) rfl rfl ?_))
 exact ⟨ret_int (by unfold cmpI; rw [if_neg c16]; exact if_neg c19), hB⟩
theorem tcl_any (a b f : Int) (w : World) : Calls Tryd.prog 84 #[.agg #[.int .i64 a, .int .i64 b], .int .i64 f] w fun e w' => e = .returned (.int .i64 (cmpI a f)) ∧ Bel w w' := by
 refine enter Tryd.func84 Tryd.ntmps84 rfl (Nat.le_of_ble_eq_true rfl) ?_
 have hB : Bel w w := Below.refl _ _
 refine c_seq (c_region ?_)
 refine wl_bx (v := .agg #[_, _]) (cs := #[_, _]) rfl rfl (fun b2 w1 hb2 hs hr => ?_)
 have lo2 := nLT (Bel.size hB) hr
 replace hB := hB.tr0 hs
 clear hs
 clear hr
 refine waI rfl (x_nil (e_S (c_seq (c_region (wl (r_fa U30 sz3_GSearch dE rfl rfl rfl) ?_)))))
 refine wl (r_ld1 (v := .int _ _) U3 rfl rfl (hb2.cell rfl)) (wmI rfl ?_)
 refine wl_cl fn85 (compare_any _ _ _) rfl (fun e' w2 hr => ?_)
 obtain ⟨rfl, hs⟩ := hr
 replace hs := Same.of_bel hs
 replace hB := hB.tr0 hs
 replace hb2 := hb2.tr0 hs
 clear hs
 refine ⟨_, rfl, ?_⟩
 refine waI rfl (x_nil (e_S (c_ret (fin1 (.inl rfl) rfl rfl ?_))))
 exact ⟨rfl, hB⟩
theorem bsf_any (A : Option Addr) (c : Nat) (xs : List (Int × Int)) (f : Int) (w : World) (hX : LinksIn w A xs) (hl : xs.length ≤ 1000) (hmono : ∀ i j (hi : i < xs.length) (hj : j < xs.length), i ≤ j → (xs[i]).1 ≤ (xs[j]).1) : Calls Tryd.prog 83 #[.slice A xs.length c, .int .i64 f, .func (.func 84) #[] #[]] w fun e w' => (∃ (i : Nat) (b : Bool), i ≤ xs.length ∧ e = .returned (.tuple #[.int .i64 i, .bool b]) ∧ (∀ j (hj : j < xs.length), j < i → (xs[j]).1 < f) ∧ (∀ j (hj : j < xs.length), i ≤ j → f ≤ (xs[j]).1) ∧ (b = true ↔ ∃ h : i < xs.length, (xs[i]).1 = f)) ∧ Bel w w' := by
 refine enter Tryd.func83 Tryd.ntmps83 rfl (Nat.le_of_ble_eq_true rfl) ?_
 have hB : Bel w w := Below.refl _ _
 refine c_seq (c_region (waI rfl (waB rfl (x_nil (e_S ?_)))))
 refine c_seq (c_region (wmS rfl (wl (r_len U31 rfl) (waI rfl (x_nil ?_)))))
 refine e_S (c_seq (c_region (wmI rfl (waI rfl (waI rfl ?_)))))
 refine x_nil (e_S (c_seq (c_block ?_)))
 refine c_loopS [9, 10, 11, 15, 16, 17, 18, 19, 20, 21, 22, 23, 24, 25, 26, 27, 28, 29, 30, 31, 32, 33, 34] (fun m g w' => ∃ i j : Nat, i ≤ j ∧ j ≤ xs.length ∧ m = j - i ∧ g 9 = .int .i64 i ∧ g 10 = .int .i64 j ∧ Bel w w' ∧ (∀ x (hx : x < xs.length), x < i → (xs[x]).1 < f) ∧ (∀ x (hx : x < xs.length), j ≤ x → f ≤ (xs[x]).1)) (xs.length) ?_ (fun m g3 w1 hI => ?_)
 ·
  exact ⟨0, xs.length, Nat.zero_le _, Nat.le_refl _, rfl, rfl, rfl, hB, fun x _ h => by omega, fun x h1 h2 => by omega⟩
 obtain ⟨i, j, hij, hj, hm, h9, h10, hB, hlo, hhi⟩ := hI
 refine c_know 9 (.int .i64 i) h9 nu (c_know 10 (.int .i64 j) h10 nu (c_seq (c_seq (c_region (wmI rfl ?_)))))
 refine wmI rfl (wl (r_lss rfl rfl) (x_nil (e_S ?_)))
 refine c_ifd rfl (fun c17 => ?_) (fun c17 => ?_)
 ·
  obtain ⟨h, hh⟩ : ∃ h, h = (i + j) / 2 := ⟨_, rfl⟩
  have hhl : h < xs.length := by omega
  obtain ⟨lb, lof, rfl, hlb, hlr⟩ := hX.at_ hB hhl
  refine c_skip (e_S (c_block (c_seq (c_region (wmI rfl ?_)))))
  refine wmI rfl (wl (r_add (c := ((i + j : Nat) : Int)) rfl rfl om om) (wl (r_cvU U3 Tryd.underlying148 rfl om) (wl (r_shr (b := 1) (c := h) rfl rfl om (by rw [hh, Nat.shiftRight_eq_div_pow])) (wl (r_cvI Tryd.underlying148 U3 rfl om) (waI rfl ?_)))))
  refine x_nil (e_S (c_seq (c_region (wl (r_mv (v := .func _ _ _) rfl) (wmS rfl ?_)))))
  refine wmI rfl (wl (r_ia (i := h) U31 sz30_GSearch rfl rfl om rfl) (wl (r_ldS U30 rfl rfl hlr sz30_GSearch) (wmI rfl ?_)))
  refine wl_clv rfl fn84 (tcl_any _ _ f _) rfl rfl (fun e' w2 hr => ?_)
  obtain ⟨rfl, hs⟩ := hr
  replace hB := hB.tr0 (Same.of_bel hs)
  refine ⟨_, rfl, ?_⟩
  refine wl (r_lss rfl rfl) (x_nil (e_S ?_))
  refine c_ifd rfl (fun c31 => ?_) (fun c31 => ?_)
  ·
   have hlt := cmpI_lt.1 c31
   obtain ⟨i2, hi2⟩ : ∃ i2, i2 = h + 1 := ⟨_, rfl⟩
   obtain ⟨j2, hj2⟩ : ∃ j2, j2 = j := ⟨_, rfl⟩
   have hlo2 : ∀ x (hx : x < xs.length), x < i2 → (xs[x]).1 < f := fun x hx hxi => by
     by_cases e : x = h
     · subst e; exact hlt
     · have hsx : (xs[x]).1 ≤ (xs[h]).1 := hmono x h hx hhl om
       omega
   have hhi2 : ∀ x (hx : x < xs.length), j2 ≤ x → f ≤ (xs[x]).1 := fun x hx hxj => hhi x hx om
   refine c_region (wmI rfl (wl (r_add rfl rfl rfl om) (waI rfl (x_nil (e_B ?_)))))
   refine e_LS (j2 - i2) om agA ?_
   exact ⟨i2, j2, by omega, by omega, rfl, by subst hi2; rfl, by subst hj2; rfl, hB, hlo2, hhi2⟩
  have hge : ¬ (xs[h]).1 < f := fun h => c31 (cmpI_lt.2 h)
  obtain ⟨i2, hi2⟩ : ∃ i2, i2 = i := ⟨_, rfl⟩
  obtain ⟨j2, hj2⟩ : ∃ j2, j2 = h := ⟨_, rfl⟩
  have hlo2 : ∀ x (hx : x < xs.length), x < i2 → (xs[x]).1 < f := fun x hx hxi => hlo x hx om
  have hhi2 : ∀ x (hx : x < xs.length), j2 ≤ x → f ≤ (xs[x]).1 := fun x hx hxj => by
    have hsx : (xs[h]).1 ≤ (xs[x]).1 := hmono h x hhl hx om
    omega
  refine c_region (wmI rfl (waI rfl (x_nil (e_B (e_LS (j2 - i2) om agA ?_)))))
  exact ⟨i2, j2, by omega, by omega, rfl, by subst hi2; rfl, by subst hj2; rfl, hB, hlo2, hhi2⟩
 have hije : i = j := by omega
 subst hije
 refine c_exit (e_Sx (e_LSx (e_Bx (e_S (c_seq ?_)))))
 refine c_region (wmI rfl (wmI rfl (wmI rfl (wl (r_lss rfl rfl) (wmB rfl ?_)))))
 refine wl_casesd 39 rfl (fun g39 => ?_) (fun g39 => ?_)
 ·
  refine wl_gd 39 rfl rfl (wl (r_mv (v := .func _ _ _) rfl) (wl_gd 39 rfl rfl (wmS rfl (wl_gd 39 rfl rfl (wmI rfl ?_)))))
  have hiN : i < xs.length := by omega
  obtain ⟨lb, lof, rfl, hlb, hlr⟩ := hX.at_ hB hiN
  refine wl_gd 39 rfl rfl (wl (r_ia (i := i) U31 sz30_GSearch rfl rfl om rfl) (wl_gd 39 rfl rfl (wl (r_ldS U30 rfl rfl hlr sz30_GSearch) (wl_gd 39 rfl rfl (wmI rfl ?_)))))
  refine wl_gd 39 rfl rfl ?_
  refine wl_clv rfl fn84 (tcl_any _ _ f _) rfl rfl (fun e' w3 hr => ?_)
  obtain ⟨rfl, hs⟩ := hr
  replace hB := hB.tr0 (Same.of_bel hs)
  refine ⟨_, rfl, ?_⟩
  refine wl_gd 39 rfl rfl (wl (r_eql rfl rfl) (wl (r_pt (v := .bool _) rfl rfl) (waI rfl (waB rfl (x_nil ?_)))))
  refine e_S (c_ret (fin2 (.inl rfl) rfl rfl rfl ?_))
  first
    | exact ⟨⟨i, false, by omega, rfl, hlo, hhi, ⟨fun h => (Bool.noConfusion h), fun hh => absurd hh.1 om⟩⟩, hB⟩
    | exact ⟨⟨i, decide (cmpI (xs[i]'hiN).1 f = 0), by omega, rfl, hlo, hhi, by rw [decide_eq_true_iff, cmpI_eq]; exact ⟨fun h => ⟨hiN, h⟩, fun ⟨_, h⟩ => h⟩⟩, hB⟩
 refine wlgn 39 rfl rfl rfl (wlgn 39 rfl rfl rfl (wlgn 39 rfl rfl rfl (wlgn 39 rfl rfl rfl (wlgn 39 rfl rfl rfl (wlgn 39 rfl rfl rfl ?_)))))
 refine wlgn 39 rfl rfl rfl (wlgn 39 rfl rfl rfl (wl (r_pf (v := .bool _) rfl rfl) (waI rfl (waB rfl (x_nil ?_)))))
 refine e_S (c_ret (fin2 (.inl rfl) rfl rfl rfl ?_))
 first
   | exact ⟨⟨i, false, by omega, rfl, hlo, hhi, ⟨fun h => (Bool.noConfusion h), fun hh => absurd hh.1 om⟩⟩, hB⟩
   | exact ⟨⟨i, decide (cmpI (xs[i]'hiN).1 f = 0), by omega, rfl, hlo, hhi, by rw [decide_eq_true_iff, cmpI_eq]; exact ⟨fun h => ⟨hiN, h⟩, fun ⟨_, h⟩ => h⟩⟩, hB⟩
end Go.Proofs.YtegngekpmpdngaaDoor
namespace Go.Proofs.YtegngekpmpdngaaDoor
open Go.RowKit
theorem fn83 : callable Tryd.prog 83 = true := by kernel_rfl
theorem sz26_GTgt : (Tryd.prog.info? 26).map (·.size) = some 1 := by kernel_rfl
theorem sz28_GTgt : (Tryd.prog.info? 28).map (·.size) = some 1 := by kernel_rfl
theorem sz31_GTgt : (Tryd.prog.info? 31).map (·.size) = some 1 := by kernel_rfl
theorem sz33_GTgt : (Tryd.prog.info? 33).map (·.size) = some 2 := by kernel_rfl
theorem ze28_GTgt : (Tryd.prog.info? 28).map (·.zero) = some (some (.agg #[.slice none 0 0])) := by kernel_rfl
theorem ze30_GTgt : (Tryd.prog.info? 30).map (·.zero) = some (some (.agg #[.int .i64 0, .int .i64 0])) := by kernel_rfl
theorem ze33_GTgt : (Tryd.prog.info? 33).map (·.zero) = some (some (.agg #[.int .i64 0, .slice none 0 0])) := by kernel_rfl
theorem target_any (G : Option Addr) (cg nf : Nat) (gr : List Nd) (i : Nat) (f : Int) (w : World) (hG : NodesIn w G gr) (hi : i < gr.length) (hl : lnFault nf gr.length (-1) (gr[i]'hi).ln = 0) (hw : (gr[i]'hi).ln.length ≤ 1000) : Calls Tryd.prog 51 #[.agg #[.slice G gr.length cg], .int .i64 i, .int .i64 f] w fun e w' => e = .returned (.int .i64 (tgt (gr[i]'hi).ln f)) ∧ Bel w w' := by
 obtain ⟨nb, no, LA, lc, rfl, hnb, hnr, hln⟩ := hG.at_ (Below.refl _ _ : Bel w w) hi
 have hso := (ln_sorted hl).2
 refine enter Tryd.func51 Tryd.ntmps51 rfl (Nat.le_of_ble_eq_true rfl) ?_
 have hB : Bel w w := Below.refl _ _
 refine c_seq (c_region ?_)
 refine wl_bx (v := .agg #[_]) (cs := #[_]) rfl rfl (fun b3 w1 hb3 hs hr => ?_)
 have lo3 := nLT (Bel.size hB) hr
 replace hB := hB.tr0 hs
 clear hs
 clear hr
 refine waI rfl (x_nil (e_S (c_seq (c_region (wl (r_fa U28 sz26_GTgt dE rfl rfl rfl) ?_)))))
 refine wl (r_ld1 (v := .slice _ _ _) U26 rfl rfl (hb3.cell rfl)) (wmI rfl (wl (r_ia (i := i) U26 sz33_GTgt rfl rfl hi rfl) (wl (r_fa U33 sz31_GTgt dE rfl rfl rfl) (wl (r_ld1 (v := .slice _ _ _) U31 rfl rfl (hB.cell hnb (hnr 1 _ rfl))) (wmI rfl ?_)))))
 refine wl_cl fn83 (bsf_any LA lc (gr[i]'hi).ln f _ (hln.mono hB) hw (fun x y hx hy hxy => by
       by_cases e : x = y
       · subst e; exact Int.le_refl _
       · exact Int.le_of_lt (hso x y hx hy om))) rfl (fun e' w2 hr => ?_)
 obtain ⟨⟨ix, b, hix, rfl, hlo, hhi, hbt⟩, hs⟩ := hr
 replace hs := Same.of_bel hs
 replace hB := hB.tr0 hs
 replace hb3 := hb3.tr0 hs
 clear hs
 obtain ⟨hy, hn⟩ := tgt_bs hl hlo hhi
 refine ⟨_, rfl, ?_⟩
 refine wmT rfl (wl (r_ex (v := .int _ _) rfl rfl) (wl (r_ex (v := .bool _) rfl rfl) (waI rfl (waB rfl (x_nil ?_)))))
 refine e_S (c_seq (c_seq (c_region (wmB rfl (wl (r_not rfl) ?_)))))
 refine x_nil (e_S ?_)
 refine c_if rfl (fun c21 => ?_) (fun c21 => ?_)
 ·
  have hbf : ¬ b = true := by simpa using c21
  have hno := hn (fun h => hbf (hbt.2 h))
  refine c_seq (c_region (waI rfl (x_nil (e_S (c_ret ?_)))))
  refine e_Sr (fin1 (.inl rfl) rfl rfl ?_)
  exact ⟨ret_int hno, hB⟩
 have hbt2 : b = true := by simpa using c21
 obtain ⟨hxl, hxe⟩ := hbt.1 hbt2
 have hyes := hy hxl hxe
 obtain ⟨lb, lof, rfl, hlb, hlr⟩ := hln.at_ hB hxl
 refine c_skip (e_S (c_seq (c_region (wl (r_fa U28 sz26_GTgt dE rfl rfl rfl) (wl (r_ld1 (v := .slice _ _ _) U26 rfl rfl (hb3.cell rfl)) ?_)))))
 refine wmI rfl (wl (r_ia (i := i) U26 sz33_GTgt rfl rfl hi rfl) (wl (r_fa U33 sz31_GTgt dE rfl rfl rfl) (wl (r_ld1 (v := .slice _ _ _) U31 rfl rfl (hB.cell hnb (hnr 1 _ rfl))) (wmI rfl (wl (r_ia (i := ix) U31 sz30_GSearch rfl rfl om rfl) ?_)))))
 refine wl (r_fa U30 sz3_GSearch dE rfl rfl rfl) (wl (r_ld1 (v := .int _ _) U3 rfl rfl (hlr 1 _ rfl)) (waI rfl (x_nil (e_S (c_ret ?_)))))
 refine fin1 (.inl rfl) rfl rfl ?_
 exact ⟨ret_int hyes, hB⟩
theorem rtarget_any (G : Option Addr) (cg : Nat) (gr : List Nd) (i : Nat) (f : Int) (w : World) (hG : NodesIn w G gr) (hi : i < gr.length) : Calls Tryd.prog 57 #[.agg #[.slice G gr.length cg], .int .i64 i, .int .i64 f] w fun e w' => e = .returned (.int .i64 (tgt (gr[i]'hi).ln f)) ∧ Bel w w' := by
 obtain ⟨nb, no, LA, lc, rfl, hnb, hnr, hln⟩ := hG.at_ (Below.refl _ _ : Bel w w) hi
 have hmx := hln.1
 unfold maxI at hmx
 refine enter Tryd.func57 Tryd.ntmps57 rfl (Nat.le_of_ble_eq_true rfl) ?_
 have hB : Bel w w := Below.refl _ _
 refine c_seq (c_region ?_)
 refine wl_bx (v := .agg #[_]) (cs := #[_]) rfl rfl (fun b3 w1 hb3 hs hr => ?_)
 have lo3 := nLT (Bel.size hB) hr
 replace hB := hB.tr0 hs
 clear hs
 clear hr
 refine waI rfl (x_nil (e_S (c_seq (c_seq (c_region ?_)))))
 refine wl (r_fa U28 sz26_GTgt dE rfl rfl rfl) (wl (r_ld1 (v := .slice _ _ _) U26 rfl rfl (hb3.cell rfl)) (wmI rfl (wl (r_ia (i := i) U26 sz33_GTgt rfl rfl hi rfl) (wl (r_fa U33 sz31_GTgt dE rfl rfl rfl) (wl (r_ld1 (v := .slice _ _ _) U31 rfl rfl (hB.cell hnb (hnr 1 _ rfl))) ?_)))))
 refine wl (r_len U31 rfl) (wmI rfl (x_nil (e_S (c_block ?_))))
 refine c_loopS [6, 8, 16, 17, 18, 19, 20, 21, 22, 23, 24, 25, 26] (fun m g w' => ∃ k : Nat, k ≤ (gr[i]'hi).ln.length ∧ m = (gr[i]'hi).ln.length - k ∧ g 16 = .int .i64 k ∧ Bel w w' ∧ (∀ j (hj : j < (gr[i]'hi).ln.length), j < k → ¬ ((gr[i]'hi).ln[j]).1 = f)) ((gr[i]'hi).ln.length) ?_ (fun m g2 w2 hI => ?_)
 ·
  exact ⟨0, Nat.zero_le _, rfl, rfl, hB, fun j _ h => by omega⟩
 obtain ⟨k, hk, hm, h16, hB, hno⟩ := hI
 refine c_know 16 (.int .i64 k) h16 nu (c_seq (c_region (wl (r_lss rfl rfl) (x_nil (e_S ?_)))))
 refine c_seq ?_
 refine c_ifd rfl (fun c17 => ?_) (fun c17 => ?_)
 ·
  have hkl : k < (gr[i]'hi).ln.length := by omega
  obtain ⟨lb, lof, rfl, hlb, hlr⟩ := hln.at_ hB hkl
  refine c_skip (e_S (c_seq (c_block (c_seq (c_region ?_)))))
  refine wl (r_ia (i := k) U31 sz30_GSearch rfl rfl om rfl) (wl (r_ldS U30 rfl rfl hlr sz30_GSearch) ?_)
  refine wl_al (cs := #[.int .i64 0, .int .i64 0]) ze30_GTgt rfl (fun b8 w3 hb8 hs hr => ?_)
  have lo8 := nLT (Bel.size hB) hr
  replace hB := hB.tr0 hs
  clear hs
  clear hr
  refine wl_stW hb8 rfl rfl sz30_GSearch rfl oneA (fun w4 hq hs => ?_)
  replace hB := hB.tr1 hs lo8
  clear hs
  replace hb8 := hq
  refine x_nil (e_S (c_seq (c_region (wl (r_fa U30 sz3_GSearch dE rfl rfl rfl) (wl (r_ld1 (v := .int _ _) U3 rfl rfl (hb8.cell rfl)) ?_)))))
  refine wmI rfl (wl (r_eql rfl rfl) (x_nil (e_S ?_)))
  refine c_ifd rfl (fun c23 => ?_) (fun c23 => ?_)
  ·
   refine c_seq (c_region (wl (r_fa U30 sz3_GSearch dE rfl rfl rfl) (wl (r_ld1 (v := .int _ _) U3 rfl rfl (hb8.cell rfl)) (waI rfl (x_nil ?_)))))
   refine e_S (c_ret (e_Br (e_Sr (e_LSr (e_Br ?_)))))
   refine e_Sr (fin1 (.inl rfl) rfl rfl ?_)
   exact ⟨ret_int (tgt_at hkl c23 (fun j hj h => hno j hj h)), hB⟩
  refine c_skip (e_B (e_S (c_region (wl (r_add rfl rfl rfl om) (wmI rfl ?_)))))
  refine x_nil (e_LS ((gr[i]'hi).ln.length - (k + 1)) om agA ?_)
  exact ⟨k + 1, by omega, rfl, rfl, hB, fun j hj h => by
    by_cases e : j = k
    · subst e; exact c23
    · exact hno j hj om⟩
 have hall : tgt (gr[i]'hi).ln f = -1 := tgt_no (fun j hj => hno j hj om)
 refine c_exit (e_Sx (e_LSx (e_Bx (e_S (c_seq ?_)))))
 refine c_region (waI rfl (x_nil (e_S (c_ret (fin1 (.inl rfl) rfl rfl ?_)))))
 exact ⟨ret_int hall, hB⟩
theorem single_any (t : Int) (w : World) : Calls Tryd.prog 20 #[.int .i64 t] w fun e w' => (∃ A, e = .returned (.agg #[.slice A 1 1]) ∧ NodesIn w' A [⟨t, []⟩]) ∧ Bel w w' := by
 refine enter Tryd.func20 Tryd.ntmps20 rfl (Nat.le_of_ble_eq_true rfl) ?_
 have hB : Bel w w := Below.refl _ _
 refine c_seq (c_region ?_)
 refine wl_al (cs := #[.slice none 0 0]) ze28_GTgt rfl (fun b2 w1 hb2 hs hr => ?_)
 have lo2 := nLT (Bel.size hB) hr
 replace hB := hB.tr0 hs
 clear hs
 clear hr
 refine x_nil (e_S (c_seq (c_region (wmI rfl (wl (r_bd1 (v0 := .int _ _) (fun v0 => #[v0, .slice none 0 0]) rfl kR) ?_)))))
 refine wl_bs (cs := #[_, _]) [(0, .agg _)] rfl U26 sz33_GTgt ze33_GTgt dE dE kR rfl (fun b5 w2 hb5 hs hr => ?_)
 have or_b2_b5 : b2 < b5 := nLL hb2.lt hr
 have lo5 := nLT (Bel.size hB) hr
 replace hB := hB.tr0 hs
 replace hb2 := hb2.tr0 hs
 clear hs
 clear hr
 refine wl (r_bd1 (v0 := .slice _ _ _) (fun v0 => #[v0]) rfl kR) ?_
 refine wl_stW hb2 rfl rfl sz28_GTgt rfl oneA (fun w3 hq hs => ?_)
 replace hB := hB.tr1 hs lo2
 replace hb5 := hb5.tr1 hs om
 clear hs
 replace hb2 := hq
 refine x_nil (e_S (c_ret (fin1 (.inl rfl) rfl (rr_cell U28 rfl rfl hb2.range0 sz28_GTgt) ?_)))
 exact ⟨⟨_, rfl, nodes_of_blk (l := [⟨t, []⟩]) hb5 (.cons (links_nil _ _) .nil) (by simp; decide)⟩, hB⟩
end Go.Proofs.YtegngekpmpdngaaDoor
namespace Go.Proofs.YtegngekpmpdngaaDoor
open Go.RowKit
def trN (σ : Nat → Nat) (x : Nd) : Nd := ⟨x.ty, x.ln.map (fun y => (y.1, (σ y.2.toNat : Int)))⟩
theorem nd_out {g : List Nd} {i : Nat} (h : ¬ i < g.length) : nd g i = ⟨0, []⟩ := by simp [nd, List.getD, List.getElem?_eq_none (Nat.le_of_not_lt h)]
theorem lnFault_map {nf n m : Nat} {σ : Nat → Nat} : ∀ {xs : List (Int × Int)} {last : Int}, lnFault nf n last xs = 0 → (∀ x ∈ xs, σ x.2.toNat < m) → lnFault nf m last (xs.map (fun y => (y.1, (σ y.2.toNat : Int)))) = 0
  | [], _, _, _ => rfl
  | y :: ys, last, h, hm => by
    unfold lnFault at h
    by_cases h1 : lnBad nf n y
    · rw [if_pos h1] at h; cases h
    rw [if_neg h1] at h
    by_cases h2 : y.1 ≤ last
    · rw [if_pos h2] at h; cases h
    rw [if_neg h2] at h
    have h3 := hm y (by simp)
    have h4 : ¬ lnBad nf m (y.1, (σ y.2.toNat : Int)) := by
      unfold lnBad at h1 ⊢
      omega
    rw [List.map_cons]
    unfold lnFault
    rw [if_neg h4, if_neg h2]
    exact lnFault_map h (fun x hx => hm x (List.mem_cons_of_mem _ hx))
theorem gv_img {l : List Ty} {fs : List Ft} {g gt : List Nd} {σ τ : Nat → Nat} (h : GV l fs g) (hp : 0 < gt.length) (hle : gt.length ≤ 60)
    (hτ : ∀ j, j < gt.length → τ j < g.length ∧ nd gt j = trN σ (nd g (τ j)) ∧ ∀ x ∈ (nd g (τ j)).ln, σ x.2.toNat < gt.length ∧ (nd gt (σ x.2.toNat)).ty = (nd g x.2.toNat).ty)
    (hR : ∀ j, j < gt.length → Rch gt j) : (graphF l fs gt).1 = 0 := by
  have hl : looseF l.length fs.length gt = (0, 0) := by
    unfold looseF
    rw [if_neg om]
    refine firstF_all (fun k _ hk => ?_)
    have hk' : k < gt.length := by omega
    obtain ⟨hτ1, hτ2, hτ3⟩ := hτ k hk'
    rw [nd_eq hk', nd_eq hτ1] at hτ2
    rw [nd_eq hτ1] at hτ3
    have hty := h.gok.ty _ hτ1
    have hln := loose_ln h.lo _ hτ1
    have e : ¬ ((gt[k]).ty < 0 ∨ (l.length : Int) ≤ (gt[k]).ty) := by rw [hτ2]; simp only [trN]; omega
    rw [looseN_ln hk' e, List.drop_zero, hτ2]
    exact lnFault_map hln (fun x hx => (hτ3 x hx).1)
  have ht : tyF l fs gt = (0, 0) := by
    refine firstF_all (fun k _ hk => ?_)
    have hk' : k < gt.length := by omega
    obtain ⟨hτ1, hτ2, hτ3⟩ := hτ k hk'
    refine tyN_no hk' (fun j hj => ?_)
    have h0 : tyN l fs g (τ k) = 0 := firstF_zero (by rw [show firstF (tyN l fs g) 0 g.length = tyF l fs g from rfl, h.t]) _ (Nat.zero_le _) om
    rw [nd_eq hk', nd_eq hτ1] at hτ2
    rw [nd_eq hτ1] at hτ3
    have hex : ∃ y ∈ (g[τ k]).ln, (gt[k]).ln[j] = (y.1, (σ y.2.toNat : Int)) := by
      have hm : (gt[k]).ln[j] ∈ (trN σ (g[τ k])).ln := by rw [← hτ2]; exact List.getElem_mem hj
      simp only [trN, List.mem_map] at hm
      obtain ⟨y, hy, e⟩ := hm
      exact ⟨y, hy, e.symm⟩
    obtain ⟨y, hy, ey⟩ := hex
    have h1 : lnTy l fs g (g[τ k]).ty y = false := by
      simp only [tyN, List.getElem?_eq_getElem hτ1] at h0
      cases hb : lnTy l fs g (g[τ k]).ty y with
      | false => rfl
      | true => rw [if_pos (List.any_eq_true.2 ⟨y, hy, hb⟩)] at h0; cases h0
    have e3 := (hτ3 y hy).2
    have e2 : (gt[k]).ty = (g[τ k]).ty := by rw [hτ2]; rfl
    rw [ey, e2]
    unfold lnTy at h1 ⊢
    have e4 : (ndAt gt ((σ y.2.toNat : Nat) : Int)).ty = (ndAt g y.2).ty := by
      unfold nd at e3
      unfold ndAt
      rw [Int.toNat_natCast]; exact e3
    rw [e4]
    exact h1
  have hu : (-1 : Int) = unrI gt := unr_is (.inl ⟨rfl, hR⟩)
  rw [gf_in h.h, wi_zero (by rw [hl]) ht om]
theorem unr_ex (g : List Nd) : ∃ r, UnrIs g r := by
  have h : ∀ n : Nat, (∀ i, i < n → Rch g i) ∨ ∃ k, k < n ∧ ¬ Rch g k ∧ ∀ i, i < k → Rch g i := by
    intro n
    induction n with
    | zero => exact .inl (fun i hi => absurd hi om)
    | succ n ih =>
      rcases ih with h | ⟨k, h1, h2, h3⟩
      · by_cases hn : Rch g n
        · refine .inl (fun i hi => ?_)
          by_cases e : i = n
          · rw [e]; exact hn
          · exact h i om
        · exact .inr ⟨n, by omega, hn, h⟩
      · exact .inr ⟨k, by omega, h2, h3⟩
  rcases h g.length with h | ⟨k, h1, h2, h3⟩
  · exact ⟨-1, .inl ⟨rfl, h⟩⟩
  · exact ⟨k, .inr ⟨k, rfl, h1, h2, h3⟩⟩
theorem GV.rch {l : List Ty} {fs : List Ft} {g : List Nd} (h : GV l fs g) : ∀ i, i < g.length → Rch g i := by
  obtain ⟨r, hr⟩ := unr_ex g
  have hu := h.u
  rw [← unr_is hr] at hu
  rcases hr with ⟨_, h3⟩ | ⟨k, h3, _⟩
  · exact h3
  · exact absurd (show 0 ≤ r by omega) hu
structure Turn (g gt : List Nd) (σ ρ : Nat → Nat) : Prop where
  len : gt.length = g.length
  z : σ 0 = 0
  lt : ∀ i, i < g.length → σ i < g.length
  rl : ∀ j, j < g.length → ρ j < g.length ∧ σ (ρ j) = j
  lr : ∀ i, i < g.length → ρ (σ i) = i
  nd : ∀ i, i < g.length → nd gt (σ i) = trN σ (nd g i)
section turn
variable {g gt : List Nd} {σ ρ : Nat → Nat}
theorem Turn.inj (t : Turn g gt σ ρ) {x y : Nat} (hx : x < g.length) (hy : y < g.length) (h : σ x = σ y) : x = y := by rw [← t.lr x hx, ← t.lr y hy, h]
theorem Turn.succ (t : Turn g gt σ ρ) {i : Nat} (hi : i < g.length) : succN gt (σ i) = (succN g i).map σ := by
  unfold succN; rw [t.nd i hi]; simp [trN]
theorem Turn.dl (t : Turn g gt σ ρ) (hr : ∀ i, i < g.length → ∀ y ∈ succN g i, y < g.length) {is a b : List Nat} (h : DL g is a b) : (∀ i ∈ is, i < g.length) → (∀ x ∈ b, x < g.length) → DL gt (is.map σ) (a.map σ) (b.map σ) := by
  induction h with
  | nil => exact fun _ _ => .nil
  | old h _ ih => exact fun hi hb => .old (List.mem_map_of_mem h) (ih (fun i h => hi i (List.mem_cons_of_mem _ h)) hb)
  | new h s u ihs iht =>
    intro hi hb
    rename_i i is o o1 o'
    have hil := hi i (List.mem_cons_self ..)
    have ho1 : ∀ x ∈ o1, x < g.length := fun x hx => hb x (u.sub _ hx)
    refine .new (fun hm => ?_) ?_ (iht (fun i h => hi i (List.mem_cons_of_mem _ h)) hb)
    · obtain ⟨y, hy, e⟩ := List.mem_map.1 hm
      have hyl := ho1 y (s.sub _ (List.mem_append_left _ hy))
      exact h (t.inj hyl hil e ▸ hy)
    · have := ihs (hr i hil) ho1
      rw [List.map_append] at this
      rw [t.succ hil]
      exact this
theorem Turn.rch (t : Turn g gt σ ρ) (hr : ∀ i, i < g.length → ∀ y ∈ succN g i, y < g.length) (hp : 0 < g.length) {i : Nat} (h : Rch g i) : i < g.length ∧ Rch gt (σ i) := by
  induction h with
  | zero => exact ⟨hp, by rw [t.z]; exact .zero⟩
  | step h hi hx ih =>
    rename_i i x
    refine ⟨hr i hi _ (by simp only [succN, nd_eq hi, List.mem_map]; exact ⟨x, hx, rfl⟩), ?_⟩
    have hlt : σ i < gt.length := by rw [t.len]; exact t.lt i hi
    have e := t.nd i hi
    rw [nd_eq hlt, nd_eq hi] at e
    have := Rch.step (x := (x.1, ((σ x.2.toNat : Nat) : Int))) ih.2 hlt (by rw [e]; exact List.mem_map.2 ⟨x, hx, rfl⟩)
    simpa using this
theorem idx_map {g : List Nd} {σ : Nat → Nat} {x : Nat} (hx : x < g.length) (inj : ∀ y, y < g.length → σ y = σ x → y = x) : ∀ {o : List Nat}, (∀ y ∈ o, y < g.length) → (o.map σ).idxOf (σ x) = o.idxOf x
  | [], _ => rfl
  | y :: o, h => by
    rw [List.map_cons, List.idxOf_cons, List.idxOf_cons, idx_map hx inj (fun z hz => h z (List.mem_cons_of_mem _ hz))]
    by_cases e : y = x
    · subst e; simp
    · have e2 : ¬ σ y = σ x := fun h2 => e (inj y (h y (List.mem_cons_self ..)) h2)
      have b1 : (y == x) = false := by simp [e]
      have b2 : (σ y == σ x) = false := by simp [e2]
      rw [b1, b2]
theorem Turn.num (t : Turn g gt σ ρ) {x : Nat} (hx : x < g.length) {o : List Nat} (ho : ∀ y ∈ o, y < g.length) : numO (o.map σ) (σ x) = numO o x := by
  unfold numO
  have e : σ x ∈ o.map σ ↔ x ∈ o := ⟨fun h => by
    obtain ⟨y, hy, e⟩ := List.mem_map.1 h
    exact t.inj (ho y hy) hx e ▸ hy, fun h => List.mem_map_of_mem h⟩
  by_cases h : x ∈ o
  · rw [if_pos (e.2 h), if_pos h, idx_map hx (fun y hy h => t.inj hy hx h) ho]
  · rw [if_neg (fun k => h (e.1 k)), if_neg h]
theorem Turn.can (t : Turn g gt σ ρ) (hr : ∀ i, i < g.length → ∀ y ∈ succN g i, y < g.length) {o : List Nat} (ho : ∀ y ∈ o, y < g.length) : canG gt (o.map σ) = canG g o := by
  unfold canG
  rw [List.map_map]
  refine List.map_congr_left (fun x hx => ?_)
  have hxl := ho x hx
  simp only [Function.comp]
  unfold canN
  rw [t.nd x hxl]
  refine nd_ext rfl ?_
  simp only [trN, List.map_map]
  refine List.map_congr_left (fun y hy => ?_)
  have hyl := hr x hxl y.2.toNat (by simp only [succN, List.mem_map]; exact ⟨y, hy, rfl⟩)
  simp only [Function.comp, canL, Int.toNat_natCast]
  rw [t.num hyl ho]
end turn
end Go.Proofs.YtegngekpmpdngaaDoor
namespace Go.Proofs.YtegngekpmpdngaaDoor
open Go.RowKit
structure TrR (g : List Nd) (r : Nat) (o : List Nat) : Prop where
  dl : DL g [r] [] o
  ok : OOk g.length o
  nodup : o.Nodup
  has : r ∈ o
  zero : o.idxOf r = 0
  clo : ∀ x ∈ o, ∀ t ∈ succN g x, t ∈ o
theorem DL.within {g : List Nd} {o : List Nat} (hc : ∀ x ∈ o, ∀ t ∈ succN g x, t ∈ o) {is a b : List Nat} (h : DL g is a b) : (∀ i ∈ is, i ∈ o) → (∀ x ∈ a, x ∈ o) → ∀ x ∈ b, x ∈ o := by
  induction h with
  | nil => exact fun _ h => h
  | old h t ih => exact fun hi ha => ih (fun i h => hi i (List.mem_cons_of_mem _ h)) ha
  | new h s t ihs iht =>
    intro hi ha
    have hio := hi _ (List.mem_cons_self ..)
    refine iht (fun i h => hi i (List.mem_cons_of_mem _ h)) (ihs (hc _ hio) (fun x hx => ?_))
    rcases List.mem_append.1 hx with hx | hx
    · exact ha x hx
    · rw [List.mem_singleton.1 hx]; exact hio
section sub
variable {g : List Nd} {r : Nat} {o : List Nat}
theorem TrR.mem (t : TrR g r o) {x : Nat} (hx : x ∈ o) {y : Int × Int} (hy : y ∈ (nd g x).ln) : y.2.toNat ∈ o := t.clo x hx _ (by simp only [succN, List.mem_map]; exact ⟨y, hy, rfl⟩)
theorem TrR.lt (t : TrR g r o) {x : Nat} (hx : x ∈ o) : x < g.length := t.ok.lt x hx
theorem TrR.dl2 (t : TrR g r o) {c : Nat} {o2 : List Nat} (hc : c ∈ o) (h2 : DL g [c] [] o2) : DL (canG g o) [o.idxOf c] [] (o2.map (o.idxOf ·)) :=
  h2.map t.clo (h2.within t.clo (fun i hi => by rw [List.mem_singleton.1 hi]; exact hc) (fun x hx => by cases hx))
theorem TrR.valid {l : List Ty} {fs : List Ft} (t : TrR g r o) (h : GV l fs g) : (graphF l fs (canG g o)).1 = 0 := by
  have hlen := canG_len g o
  have hole : o.length ≤ g.length := by have := t.ok.cnt; omega
  have hpos : 0 < o.length := List.length_pos_of_mem t.has
  have hle := h.gok.le
  have hget : ∀ j (hj : j < o.length), o.idxOf o[j] = j := fun j hj => idx_get t.nodup hj
  have hrg : ∀ i, i < (canG g o).length → ∀ y ∈ succN (canG g o) i, y < (canG g o).length := fun i hi y hy => by
    rw [hlen] at hi ⊢
    rw [← hget i hi, canG_succ t.clo (List.getElem_mem hi)] at hy
    obtain ⟨z, hz, rfl⟩ := List.mem_map.1 hy
    exact (get_idx (t.clo _ (List.getElem_mem hi) z hz)).1
  refine gv_img (σ := (o.idxOf ·)) (τ := fun j => o.getD j 0) h om om (fun j hj => ?_) (fun j hj => ?_)
  · have hjo : j < o.length := by omega
    have eg : o.getD j 0 = o[j] := by simp [List.getD, hjo]
    have hm : o[j] ∈ o := List.getElem_mem hjo
    have en := canG_nd (g := g) hm
    rw [hget j hjo] at en
    simp only [eg]
    refine ⟨t.lt hm, ?_, fun x hx => ?_⟩
    · rw [en]
      refine nd_ext rfl ?_
      simp only [canN, trN]
      refine List.map_congr_left (fun y hy => ?_)
      simp only [canL, numO_in (t.mem hm hy)]
    · have hxo := t.mem hm hx
      rw [canG_nd hxo, hlen]
      exact ⟨(get_idx hxo).1, rfl⟩
  · have hd := t.dl2 t.has t.dl
    rw [t.zero, map_idx t.nodup] at hd
    have hR := hd.rch hrg (fun i hi => by rw [List.mem_singleton.1 hi]; omega) (fun i hi => by rw [List.mem_singleton.1 hi]; exact .zero) (fun x hx => by cases hx)
    exact hR j (List.mem_range.2 om)
end sub
section comp
variable {l : List Ty} {fs : List Ft} {g : List Nd} {p q : List Int}
end comp
end Go.Proofs.YtegngekpmpdngaaDoor
