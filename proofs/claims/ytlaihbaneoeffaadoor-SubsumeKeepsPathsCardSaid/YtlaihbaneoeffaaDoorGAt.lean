/- What these functions of the program compute, at every world: glosswright/graph.Target, glosswright/glosswrightref3.Target, glosswright/glosswrightlaw3.single, glosswright/graph.At. -/
import Derived.Test.YtlaihbaneoeffaaDoorGSearch
namespace Go.Proofs.YtlaihbaneoeffaaDoor
open Go.RowKit

theorem fn29 : callable Tryd.prog 29 = true := by kernel_rfl
theorem fn44 : callable Tryd.prog 44 = true := by kernel_rfl
theorem fn46 : callable Tryd.prog 46 = true := by kernel_rfl
theorem fn61 : callable Tryd.prog 61 = true := by kernel_rfl
theorem target_any (G : Option Addr) (cg nf : Nat) (gr : List Nd) (i : Nat) (f : Int) (w : World) (hG : NodesIn w G gr) (hi : i < gr.length) (hl : lnFault nf gr.length (-1) (gr[i]'hi).ln = 0) (hw : (gr[i]'hi).ln.length ≤ 1000) : Calls Tryd.prog 44 #[.agg #[.slice G gr.length cg], .int .i64 i, .int .i64 f] w fun e w' => e = .returned (.int .i64 (tgt (gr[i]'hi).ln f)) ∧ Bel w w' := by
  obtain ⟨nb, no, LA, lc, rfl, hnb, hnr, hln⟩ := hG.at_ (Below.refl _ _ : Bel w w) hi
  have hso := (ln_sorted hl).2
  refine enter Tryd.func44 Tryd.ntmps44 rfl (Nat.le_of_ble_eq_true rfl) ?_
  have hB : Bel w w := Below.refl _ _
  refine c_seq ?_
  refine c_region ?_
  refine wl_bx (v := .agg #[_]) (cs := #[_]) rfl rfl (fun b3 w1 hb3 hs hr => ?_)
  have lo3 := Nat.le_trans (Bel.size hB) hr
  replace hB := hB.tr0 hs
  clear hs
  clear hr
  refine wl (r_as (v := .int _ _) rfl) ?_
  refine x_nil ?_
  refine e_S ?_
  refine c_seq ?_
  refine c_region ?_
  refine wl (r_fa Tryd.underlying28 sz26 (by decide) rfl rfl rfl) ?_
  refine wl (r_ld1 (v := .slice _ _ _) Tryd.underlying26 rfl rfl (hb3.cell rfl)) ?_
  refine wl (r_mv (v := .int _ _) rfl) ?_
  refine wl (r_ia (i := i) Tryd.underlying26 sz33 rfl rfl hi rfl) ?_
  refine wl (r_fa Tryd.underlying33 sz31 (by decide) rfl rfl rfl) ?_
  refine wl (r_ld1 (v := .slice _ _ _) Tryd.underlying31 rfl rfl (hB.cell hnb (hnr 1 _ rfl))) ?_
  refine wl (r_mv (v := .int _ _) rfl) ?_
  refine wl_cl fn61 (bsf_any LA lc (gr[i]'hi).ln f _ (hln.mono hB) hw (fun x y hx hy hxy => by
        by_cases e : x = y
        · subst e; exact Int.le_refl _
        · exact Int.le_of_lt (hso x y hx hy (by omega)))) rfl (fun e' w2 hr => ?_)
  obtain ⟨⟨ix, b, hix, rfl, hlo, hhi, hbt⟩, hs⟩ := hr
  replace hs := Same.of_bel hs
  replace hB := hB.tr0 hs
  replace hb3 := hb3.tr0 hs
  clear hs
  obtain ⟨hy, hn⟩ := tgt_bs hl hlo hhi
  refine ⟨_, rfl, ?_⟩
  refine wl (r_mv (v := .tuple _) rfl) ?_
  refine wl (r_ex (v := .int _ _) rfl rfl) ?_
  refine wl (r_ex (v := .bool _) rfl rfl) ?_
  refine wl (r_as (v := .int _ _) rfl) ?_
  refine wl (r_as (v := .bool _) rfl) ?_
  refine x_nil ?_
  refine e_S ?_
  refine c_seq ?_
  refine c_seq ?_
  refine c_region ?_
  refine wl (r_mv (v := .bool _) rfl) ?_
  refine wl (r_not rfl) ?_
  refine x_nil ?_
  refine e_S ?_
  refine c_if rfl (fun c21 => ?_) (fun c21 => ?_)
  · have hbf : ¬ b = true := by simpa using c21
    have hno := hn (fun h => hbf (hbt.2 h))
    refine c_seq ?_
    refine c_region ?_
    refine wl (r_as (v := .int _ _) rfl) ?_
    refine x_nil ?_
    refine e_S ?_
    refine c_ret ?_
    refine e_Sr ?_
    refine fin1 (.inl rfl) rfl rfl ?_
    exact ⟨ret_int hno, hB⟩
  · have hbt2 : b = true := by simpa using c21
    obtain ⟨hxl, hxe⟩ := hbt.1 hbt2
    have hyes := hy hxl hxe
    obtain ⟨lb, lof, rfl, hlb, hlr⟩ := hln.at_ hB hxl
    refine c_skip ?_
    refine e_S ?_
    refine c_seq ?_
    refine c_region ?_
    refine wl (r_fa Tryd.underlying28 sz26 (by decide) rfl rfl rfl) ?_
    refine wl (r_ld1 (v := .slice _ _ _) Tryd.underlying26 rfl rfl (hb3.cell rfl)) ?_
    refine wl (r_mv (v := .int _ _) rfl) ?_
    refine wl (r_ia (i := i) Tryd.underlying26 sz33 rfl rfl hi rfl) ?_
    refine wl (r_fa Tryd.underlying33 sz31 (by decide) rfl rfl rfl) ?_
    refine wl (r_ld1 (v := .slice _ _ _) Tryd.underlying31 rfl rfl (hB.cell hnb (hnr 1 _ rfl))) ?_
    refine wl (r_mv (v := .int _ _) rfl) ?_
    refine wl (r_ia (i := ix) Tryd.underlying31 sz30 rfl rfl (by omega) rfl) ?_
    refine wl (r_fa Tryd.underlying30 sz3 (by decide) rfl rfl rfl) ?_
    refine wl (r_ld1 (v := .int _ _) Tryd.underlying3 rfl rfl (hlr 1 _ rfl)) ?_
    refine wl (r_as (v := .int _ _) rfl) ?_
    refine x_nil ?_
    refine e_S ?_
    refine c_ret ?_
    refine fin1 (.inl rfl) rfl rfl ?_
    exact ⟨ret_int hyes, hB⟩

theorem rtarget_any (G : Option Addr) (cg : Nat) (gr : List Nd) (i : Nat) (f : Int) (w : World) (hG : NodesIn w G gr) (hi : i < gr.length) : Calls Tryd.prog 41 #[.agg #[.slice G gr.length cg], .int .i64 i, .int .i64 f] w fun e w' => e = .returned (.int .i64 (tgt (gr[i]'hi).ln f)) ∧ Bel w w' := by
  obtain ⟨nb, no, LA, lc, rfl, hnb, hnr, hln⟩ := hG.at_ (Below.refl _ _ : Bel w w) hi
  have hmx := hln.1
  unfold maxI at hmx
  refine enter Tryd.func41 Tryd.ntmps41 rfl (Nat.le_of_ble_eq_true rfl) ?_
  have hB : Bel w w := Below.refl _ _
  refine c_seq ?_
  refine c_region ?_
  refine wl_bx (v := .agg #[_]) (cs := #[_]) rfl rfl (fun b3 w1 hb3 hs hr => ?_)
  have lo3 := Nat.le_trans (Bel.size hB) hr
  replace hB := hB.tr0 hs
  clear hs
  clear hr
  refine wl (r_as (v := .int _ _) rfl) ?_
  refine x_nil ?_
  refine e_S ?_
  refine c_seq ?_
  refine c_seq ?_
  refine c_region ?_
  refine wl (r_fa Tryd.underlying28 sz26 (by decide) rfl rfl rfl) ?_
  refine wl (r_ld1 (v := .slice _ _ _) Tryd.underlying26 rfl rfl (hb3.cell rfl)) ?_
  refine wl (r_mv (v := .int _ _) rfl) ?_
  refine wl (r_ia (i := i) Tryd.underlying26 sz33 rfl rfl hi rfl) ?_
  refine wl (r_fa Tryd.underlying33 sz31 (by decide) rfl rfl rfl) ?_
  refine wl (r_ld1 (v := .slice _ _ _) Tryd.underlying31 rfl rfl (hB.cell hnb (hnr 1 _ rfl))) ?_
  refine wl (r_len Tryd.underlying31 rfl) ?_
  refine wl (r_mv (v := .int _ _) rfl) ?_
  refine x_nil ?_
  refine e_S ?_
  refine c_block ?_
  refine c_loopS [6, 8, 16, 17, 18, 19, 20, 21, 22, 23, 24, 25, 26] (fun m g w' => ∃ k : Nat, k ≤ (gr[i]'hi).ln.length ∧ m = (gr[i]'hi).ln.length - k ∧ g 16 = .int .i64 k ∧ Bel w w' ∧ (∀ j (hj : j < (gr[i]'hi).ln.length), j < k → ¬ ((gr[i]'hi).ln[j]).1 = f)) ((gr[i]'hi).ln.length) ?_ (fun m g2 w2 hI => ?_)
  · exact ⟨0, Nat.zero_le _, rfl, rfl, hB, fun j _ h => by omega⟩
  obtain ⟨k, hk, hm, h16, hB, hno⟩ := hI
  refine c_know 16 (.int .i64 k) h16 (by simp [undef]) ?_
  refine c_seq ?_
  refine c_region ?_
  refine wl (r_lss rfl rfl) ?_
  refine x_nil ?_
  refine e_S ?_
  refine c_seq ?_
  refine c_ifd rfl (fun c17 => ?_) (fun c17 => ?_)
  · have hkl : k < (gr[i]'hi).ln.length := by omega
    obtain ⟨lb, lof, rfl, hlb, hlr⟩ := hln.at_ hB hkl
    refine c_skip ?_
    refine e_S ?_
    refine c_seq ?_
    refine c_block ?_
    refine c_seq ?_
    refine c_region ?_
    refine wl (r_ia (i := k) Tryd.underlying31 sz30 rfl rfl (by omega) rfl) ?_
    refine wl (r_ldS Tryd.underlying30 rfl rfl hlr sz30) ?_
    refine wl_al (cs := #[.int .i64 0, .int .i64 0]) ze30 rfl (fun b8 w3 hb8 hs hr => ?_)
    have lo8 := Nat.le_trans (Bel.size hB) hr
    replace hB := hB.tr0 hs
    clear hs
    clear hr
    refine wl_stW hb8 rfl rfl sz30 rfl (by repeat (first | rfl | refine one_cons (by first | rfl | assumption) ?_)) (fun w4 hq hs => ?_)
    replace hB := hB.tr1 hs lo8
    clear hs
    replace hb8 := hq
    refine x_nil ?_
    refine e_S ?_
    refine c_seq ?_
    refine c_region ?_
    refine wl (r_fa Tryd.underlying30 sz3 (by decide) rfl rfl rfl) ?_
    refine wl (r_ld1 (v := .int _ _) Tryd.underlying3 rfl rfl (hb8.cell rfl)) ?_
    refine wl (r_mv (v := .int _ _) rfl) ?_
    refine wl (r_eql rfl rfl) ?_
    refine x_nil ?_
    refine e_S ?_
    refine c_ifd rfl (fun c23 => ?_) (fun c23 => ?_)
    · skip
      refine c_seq ?_
      refine c_region ?_
      refine wl (r_fa Tryd.underlying30 sz3 (by decide) rfl rfl rfl) ?_
      refine wl (r_ld1 (v := .int _ _) Tryd.underlying3 rfl rfl (hb8.cell rfl)) ?_
      refine wl (r_as (v := .int _ _) rfl) ?_
      refine x_nil ?_
      refine e_S ?_
      refine c_ret ?_
      refine e_Br ?_
      refine e_Sr ?_
      refine e_LSr ?_
      refine e_Br ?_
      refine e_Sr ?_
      refine fin1 (.inl rfl) rfl rfl ?_
      exact ⟨ret_int (tgt_at hkl c23 (fun j hj h => hno j hj h)), hB⟩
    · skip
      refine c_skip ?_
      refine e_B ?_
      refine e_S ?_
      refine c_region ?_
      refine wl (r_add rfl rfl rfl (by omega)) ?_
      refine wl (r_mv (v := .int _ _) rfl) ?_
      refine x_nil ?_
      refine e_LS ((gr[i]'hi).ln.length - (k + 1)) (by omega) (by repeat (first | exact ag_refl | exact ag_ovr' | refine ag_upd rfl ?_ | refine ag_sub rfl ?_ | refine ag_kn (by assumption) ?_)) ?_
      exact ⟨k + 1, by omega, rfl, rfl, hB, fun j hj h => by
        by_cases e : j = k
        · subst e; exact c23
        · exact hno j hj (by omega)⟩
  · have hall : tgt (gr[i]'hi).ln f = -1 := tgt_no (fun j hj => hno j hj (by omega))
    refine c_exit ?_
    refine e_Sx ?_
    refine e_LSx ?_
    refine e_Bx ?_
    refine e_S ?_
    refine c_seq ?_
    refine c_region ?_
    refine wl (r_as (v := .int _ _) rfl) ?_
    refine x_nil ?_
    refine e_S ?_
    refine c_ret ?_
    refine fin1 (.inl rfl) rfl rfl ?_
    exact ⟨ret_int hall, hB⟩

theorem single_any (t : Int) (w : World) : Calls Tryd.prog 19 #[.int .i64 t] w fun e w' => (∃ A, e = .returned (.agg #[.slice A 1 1]) ∧ NodesIn w' A [⟨t, []⟩]) ∧ Bel w w' := by
  refine enter Tryd.func19 Tryd.ntmps19 rfl (Nat.le_of_ble_eq_true rfl) ?_
  have hB : Bel w w := Below.refl _ _
  refine c_seq ?_
  refine c_region ?_
  refine wl_al (cs := #[.slice none 0 0]) ze28 rfl (fun b2 w1 hb2 hs hr => ?_)
  have lo2 := Nat.le_trans (Bel.size hB) hr
  replace hB := hB.tr0 hs
  clear hs
  clear hr
  refine x_nil ?_
  refine e_S ?_
  refine c_seq ?_
  refine c_region ?_
  refine wl (r_mv (v := .int _ _) rfl) ?_
  refine wl (r_bd1 (v0 := .int _ _) (fun v0 => #[v0, .slice none 0 0]) rfl (by kernel_rfl)) ?_
  refine wl_bs (cs := #[_, _]) [(0, .agg _)] rfl Tryd.underlying26 sz33 ze33 (by decide) (by decide) (by kernel_rfl) rfl (fun b5 w2 hb5 hs hr => ?_)
  have or_b2_b5 : b2 < b5 := Nat.lt_of_lt_of_le hb2.lt hr
  have lo5 := Nat.le_trans (Bel.size hB) hr
  replace hB := hB.tr0 hs
  replace hb2 := hb2.tr0 hs
  clear hs
  clear hr
  refine wl (r_bd1 (v0 := .slice _ _ _) (fun v0 => #[v0]) rfl (by kernel_rfl)) ?_
  refine wl_stW hb2 rfl rfl sz28 rfl (by repeat (first | rfl | refine one_cons (by first | rfl | assumption) ?_)) (fun w3 hq hs => ?_)
  replace hB := hB.tr1 hs lo2
  replace hb5 := hb5.tr1 hs (by omega)
  clear hs
  replace hb2 := hq
  refine x_nil ?_
  refine e_S ?_
  refine c_ret ?_
  refine fin1 (.inl rfl) rfl (rr_cell Tryd.underlying28 rfl rfl hb2.range0 sz28) ?_
  exact ⟨⟨_, rfl, nodes_of_blk (l := [⟨t, []⟩]) hb5 (.cons (links_nil _ _) .nil) (by simp; decide)⟩, hB⟩

set_option maxHeartbeats 2000000 in
theorem at_any (A B G : Option Addr) (c d cg : Nat) (l : List Ty) (fs : List Ft) (gr : List Nd) (w : World) (PA : Option Addr) (cp : Nat) (p : List Int) (hTab : TabIn w) (hT : TypesIn w A l) (hF : FeatsIn w B fs) (hG : NodesIn w G gr) (hP : IntsIn w PA p) : Calls Tryd.prog 26 #[.agg #[.slice A l.length c, .slice B fs.length d], .agg #[.slice G gr.length cg], .slice PA p.length cp] w fun e w' => AtR w.heap.size l fs gr p e w' ∧ Bel w w' := by
  have hpm := hP.1
  unfold maxI at hpm
  refine enter Tryd.func26 Tryd.ntmps26 rfl (Nat.le_of_ble_eq_true rfl) ?_
  have hB : Bel w w := Below.refl _ _
  refine c_seq ?_
  refine c_region ?_
  refine wl_bx (v := .agg #[_, _]) (cs := #[_, _]) rfl rfl (fun b3 w1 hb3 hs hr => ?_)
  have lo3 := Nat.le_trans (Bel.size hB) hr
  replace hB := hB.tr0 hs
  clear hs
  clear hr
  refine wl_bx (v := .agg #[_]) (cs := #[_]) rfl rfl (fun b4 w2 hb4 hs hr => ?_)
  have or_b3_b4 : b3 < b4 := Nat.lt_of_lt_of_le hb3.lt hr
  have lo4 := Nat.le_trans (Bel.size hB) hr
  replace hB := hB.tr0 hs
  replace hb3 := hb3.tr0 hs
  clear hs
  clear hr
  refine wl_al (cs := #[.slice none 0 0]) ze28 rfl (fun b6 w3 hb6 hs hr => ?_)
  have or_b3_b6 : b3 < b6 := Nat.lt_of_lt_of_le hb3.lt hr
  have or_b4_b6 : b4 < b6 := Nat.lt_of_lt_of_le hb4.lt hr
  have lo6 := Nat.le_trans (Bel.size hB) hr
  replace hB := hB.tr0 hs
  replace hb3 := hb3.tr0 hs
  replace hb4 := hb4.tr0 hs
  clear hs
  clear hr
  refine wl (r_as (v := .bool _) rfl) ?_
  refine wl_al (cs := #[.int .i64 0, .int .i64 0]) ze35 rfl (fun b8 w4 hb8 hs hr => ?_)
  have or_b3_b8 : b3 < b8 := Nat.lt_of_lt_of_le hb3.lt hr
  have or_b4_b8 : b4 < b8 := Nat.lt_of_lt_of_le hb4.lt hr
  have or_b6_b8 : b6 < b8 := Nat.lt_of_lt_of_le hb6.lt hr
  have lo8 := Nat.le_trans (Bel.size hB) hr
  replace hB := hB.tr0 hs
  replace hb3 := hb3.tr0 hs
  replace hb4 := hb4.tr0 hs
  replace hb6 := hb6.tr0 hs
  clear hs
  clear hr
  refine x_nil ?_
  refine e_S ?_
  refine c_seq ?_
  refine c_seq ?_
  refine c_region ?_
  refine wl (r_ldS Tryd.underlying25 rfl rfl hb3.range0 sz25) ?_
  refine wl (r_ldS Tryd.underlying28 rfl rfl hb4.range0 sz28) ?_
  refine wl_cl fn46 (gval_any A B G c d cg l fs gr _ (hTab.mono hB) (hT.mono hB) (hF.mono hB) (hG.mono hB)) rfl (fun e' w5 hr => ?_)
  obtain ⟨rfl, hs⟩ := hr
  replace hs := Same.of_bel hs
  replace hB := hB.tr0 hs
  replace hb3 := hb3.tr0 hs
  replace hb4 := hb4.tr0 hs
  replace hb6 := hb6.tr0 hs
  replace hb8 := hb8.tr0 hs
  clear hs
  refine ⟨_, rfl, ?_⟩
  refine wl_al (cs := #[.int .i64 0, .int .i64 0]) ze35 rfl (fun b9 w6 hb9 hs hr => ?_)
  have or_b3_b9 : b3 < b9 := Nat.lt_of_lt_of_le hb3.lt hr
  have or_b4_b9 : b4 < b9 := Nat.lt_of_lt_of_le hb4.lt hr
  have or_b6_b9 : b6 < b9 := Nat.lt_of_lt_of_le hb6.lt hr
  have or_b8_b9 : b8 < b9 := Nat.lt_of_lt_of_le hb8.lt hr
  have lo9 := Nat.le_trans (Bel.size hB) hr
  replace hB := hB.tr0 hs
  replace hb3 := hb3.tr0 hs
  replace hb4 := hb4.tr0 hs
  replace hb6 := hb6.tr0 hs
  replace hb8 := hb8.tr0 hs
  clear hs
  clear hr
  refine wl_stW hb9 rfl rfl sz35 rfl (by repeat (first | rfl | refine one_cons (by first | rfl | assumption) ?_)) (fun w7 hq hs => ?_)
  replace hB := hB.tr1 hs lo9
  replace hb3 := hb3.tr1 hs (by omega)
  replace hb4 := hb4.tr1 hs (by omega)
  replace hb6 := hb6.tr1 hs (by omega)
  replace hb8 := hb8.tr1 hs (by omega)
  clear hs
  replace hb9 := hq
  refine x_nil ?_
  refine e_S ?_
  refine c_seq ?_
  refine c_region ?_
  refine wl (r_fa Tryd.underlying35 sz3 (by decide) rfl rfl rfl) ?_
  refine wl (r_ld1 (v := .int _ _) Tryd.underlying3 rfl rfl (hb9.cell rfl)) ?_
  refine wl (r_neq rfl rfl) ?_
  refine x_nil ?_
  refine e_S ?_
  refine c_ifd rfl (fun c20 => ?_) (fun c20 => ?_)
  · skip
    refine c_seq ?_
    refine c_all #[false, false, false, false, false] (by kernel_rfl) (by rfl) (fun w8 hs => ?_)
    replace hB := hB.tr0 hs
    replace hb3 := hb3.tr0 hs
    replace hb4 := hb4.tr0 hs
    replace hb6 := hb6.tr0 hs
    replace hb8 := hb8.tr0 hs
    replace hb9 := hb9.tr0 hs
    clear hs
    refine a_step [0, 1] (by kernel_rfl) rfl ⟨fun o hoq => ?_, fun o hoq => ?_, trivial⟩
    · obtain rfl : _ = o := Option.some.inj hoq
      refine wl (r_bd (vs := #[]) (cs := #[.slice none 0 0]) (by simp) (by kernel_rfl)) ?_
      refine x_nil ?_
      refine e_A (listed' := #[true, false, false, false, false]) (by rfl) ?_
      refine a_step [1, 2] (by kernel_rfl) rfl ⟨fun o hoq => ?_, fun o hoq => ?_, trivial⟩
      · obtain rfl : _ = o := Option.some.inj hoq
        refine wl (r_ldS Tryd.underlying35 rfl rfl hb9.range0 sz35) ?_
        refine x_nil ?_
        refine e_A (listed' := #[true, true, false, false, false]) (by rfl) ?_
        refine a_step [2] (by kernel_rfl) rfl ⟨fun o hoq => ?_, trivial⟩
        · obtain rfl : _ = o := Option.some.inj hoq
          refine wl_stW hb6 rfl rfl sz28 rfl (by repeat (first | rfl | refine one_cons (by first | rfl | assumption) ?_)) (fun w9 hq hs => ?_)
          replace hB := hB.tr1 hs lo6
          replace hb3 := hb3.tr1 hs (by omega)
          replace hb4 := hb4.tr1 hs (by omega)
          replace hb8 := hb8.tr1 hs (by omega)
          replace hb9 := hb9.tr1 hs (by omega)
          clear hs
          replace hb6 := hq
          refine x_nil ?_
          refine e_A (listed' := #[true, true, true, false, false]) (by rfl) ?_
          refine a_step [3] (by kernel_rfl) rfl ⟨fun o hoq => ?_, trivial⟩
          · obtain rfl : _ = o := Option.some.inj hoq
            refine wl (r_as (v := .bool _) rfl) ?_
            refine x_nil ?_
            refine e_A (listed' := #[true, true, true, true, false]) (by rfl) ?_
            refine a_step [4] (by kernel_rfl) rfl ⟨fun o hoq => ?_, trivial⟩
            · obtain rfl : _ = o := Option.some.inj hoq
              refine wl_stW hb8 rfl rfl sz35 rfl (by repeat (first | rfl | refine one_cons (by first | rfl | assumption) ?_)) (fun w10 hq hs => ?_)
              replace hB := hB.tr1 hs lo8
              replace hb3 := hb3.tr1 hs (by omega)
              replace hb4 := hb4.tr1 hs (by omega)
              replace hb6 := hb6.tr1 hs (by omega)
              replace hb9 := hb9.tr1 hs (by omega)
              clear hs
              replace hb8 := hq
              refine x_nil ?_
              refine e_A (listed' := #[true, true, true, true, true]) (by rfl) ?_
              refine a_end (by kernel_rfl) ?_
              refine e_S ?_
              refine c_ret ?_
              refine e_Sr ?_
              refine fin3 (.inl rfl) rfl (rr_cell Tryd.underlying28 rfl rfl hb6.range0 sz28) rfl (rr_cell Tryd.underlying35 rfl rfl hb8.range0 sz35) ?_
              exact ⟨at_no (graphF l fs gr) (atF_g c20) (fun h => c20 (by rw [← atF_g c20]; exact h.1)), hB⟩
      · obtain rfl : _ = o := Option.some.inj hoq
        refine wl_stW hb6 rfl rfl sz28 rfl (by repeat (first | rfl | refine one_cons (by first | rfl | assumption) ?_)) (fun w11 hq hs => ?_)
        replace hB := hB.tr1 hs lo6
        replace hb3 := hb3.tr1 hs (by omega)
        replace hb4 := hb4.tr1 hs (by omega)
        replace hb8 := hb8.tr1 hs (by omega)
        replace hb9 := hb9.tr1 hs (by omega)
        clear hs
        replace hb6 := hq
        refine x_nil ?_
        refine e_A (listed' := #[true, false, true, false, false]) (by rfl) ?_
        refine a_step [1, 3] (by kernel_rfl) rfl ⟨fun o hoq => ?_, fun o hoq => ?_, trivial⟩
        · obtain rfl : _ = o := Option.some.inj hoq
          refine wl (r_ldS Tryd.underlying35 rfl rfl hb9.range0 sz35) ?_
          refine x_nil ?_
          refine e_A (listed' := #[true, true, true, false, false]) (by rfl) ?_
          refine a_step [3] (by kernel_rfl) rfl ⟨fun o hoq => ?_, trivial⟩
          · obtain rfl : _ = o := Option.some.inj hoq
            refine wl (r_as (v := .bool _) rfl) ?_
            refine x_nil ?_
            refine e_A (listed' := #[true, true, true, true, false]) (by rfl) ?_
            refine a_step [4] (by kernel_rfl) rfl ⟨fun o hoq => ?_, trivial⟩
            · obtain rfl : _ = o := Option.some.inj hoq
              refine wl_stW hb8 rfl rfl sz35 rfl (by repeat (first | rfl | refine one_cons (by first | rfl | assumption) ?_)) (fun w12 hq hs => ?_)
              replace hB := hB.tr1 hs lo8
              replace hb3 := hb3.tr1 hs (by omega)
              replace hb4 := hb4.tr1 hs (by omega)
              replace hb6 := hb6.tr1 hs (by omega)
              replace hb9 := hb9.tr1 hs (by omega)
              clear hs
              replace hb8 := hq
              refine x_nil ?_
              refine e_A (listed' := #[true, true, true, true, true]) (by rfl) ?_
              refine a_end (by kernel_rfl) ?_
              refine e_S ?_
              refine c_ret ?_
              refine e_Sr ?_
              refine fin3 (.inl rfl) rfl (rr_cell Tryd.underlying28 rfl rfl hb6.range0 sz28) rfl (rr_cell Tryd.underlying35 rfl rfl hb8.range0 sz35) ?_
              exact ⟨at_no (graphF l fs gr) (atF_g c20) (fun h => c20 (by rw [← atF_g c20]; exact h.1)), hB⟩
        · obtain rfl : _ = o := Option.some.inj hoq
          refine wl (r_as (v := .bool _) rfl) ?_
          refine x_nil ?_
          refine e_A (listed' := #[true, false, true, true, false]) (by rfl) ?_
          refine a_step [1] (by kernel_rfl) rfl ⟨fun o hoq => ?_, trivial⟩
          · obtain rfl : _ = o := Option.some.inj hoq
            refine wl (r_ldS Tryd.underlying35 rfl rfl hb9.range0 sz35) ?_
            refine x_nil ?_
            refine e_A (listed' := #[true, true, true, true, false]) (by rfl) ?_
            refine a_step [4] (by kernel_rfl) rfl ⟨fun o hoq => ?_, trivial⟩
            · obtain rfl : _ = o := Option.some.inj hoq
              refine wl_stW hb8 rfl rfl sz35 rfl (by repeat (first | rfl | refine one_cons (by first | rfl | assumption) ?_)) (fun w13 hq hs => ?_)
              replace hB := hB.tr1 hs lo8
              replace hb3 := hb3.tr1 hs (by omega)
              replace hb4 := hb4.tr1 hs (by omega)
              replace hb6 := hb6.tr1 hs (by omega)
              replace hb9 := hb9.tr1 hs (by omega)
              clear hs
              replace hb8 := hq
              refine x_nil ?_
              refine e_A (listed' := #[true, true, true, true, true]) (by rfl) ?_
              refine a_end (by kernel_rfl) ?_
              refine e_S ?_
              refine c_ret ?_
              refine e_Sr ?_
              refine fin3 (.inl rfl) rfl (rr_cell Tryd.underlying28 rfl rfl hb6.range0 sz28) rfl (rr_cell Tryd.underlying35 rfl rfl hb8.range0 sz35) ?_
              exact ⟨at_no (graphF l fs gr) (atF_g c20) (fun h => c20 (by rw [← atF_g c20]; exact h.1)), hB⟩
    · obtain rfl : _ = o := Option.some.inj hoq
      refine wl (r_ldS Tryd.underlying35 rfl rfl hb9.range0 sz35) ?_
      refine x_nil ?_
      refine e_A (listed' := #[false, true, false, false, false]) (by rfl) ?_
      refine a_step [0] (by kernel_rfl) rfl ⟨fun o hoq => ?_, trivial⟩
      · obtain rfl : _ = o := Option.some.inj hoq
        refine wl (r_bd (vs := #[]) (cs := #[.slice none 0 0]) (by simp) (by kernel_rfl)) ?_
        refine x_nil ?_
        refine e_A (listed' := #[true, true, false, false, false]) (by rfl) ?_
        refine a_step [2] (by kernel_rfl) rfl ⟨fun o hoq => ?_, trivial⟩
        · obtain rfl : _ = o := Option.some.inj hoq
          refine wl_stW hb6 rfl rfl sz28 rfl (by repeat (first | rfl | refine one_cons (by first | rfl | assumption) ?_)) (fun w14 hq hs => ?_)
          replace hB := hB.tr1 hs lo6
          replace hb3 := hb3.tr1 hs (by omega)
          replace hb4 := hb4.tr1 hs (by omega)
          replace hb8 := hb8.tr1 hs (by omega)
          replace hb9 := hb9.tr1 hs (by omega)
          clear hs
          replace hb6 := hq
          refine x_nil ?_
          refine e_A (listed' := #[true, true, true, false, false]) (by rfl) ?_
          refine a_step [3] (by kernel_rfl) rfl ⟨fun o hoq => ?_, trivial⟩
          · obtain rfl : _ = o := Option.some.inj hoq
            refine wl (r_as (v := .bool _) rfl) ?_
            refine x_nil ?_
            refine e_A (listed' := #[true, true, true, true, false]) (by rfl) ?_
            refine a_step [4] (by kernel_rfl) rfl ⟨fun o hoq => ?_, trivial⟩
            · obtain rfl : _ = o := Option.some.inj hoq
              refine wl_stW hb8 rfl rfl sz35 rfl (by repeat (first | rfl | refine one_cons (by first | rfl | assumption) ?_)) (fun w15 hq hs => ?_)
              replace hB := hB.tr1 hs lo8
              replace hb3 := hb3.tr1 hs (by omega)
              replace hb4 := hb4.tr1 hs (by omega)
              replace hb6 := hb6.tr1 hs (by omega)
              replace hb9 := hb9.tr1 hs (by omega)
              clear hs
              replace hb8 := hq
              refine x_nil ?_
              refine e_A (listed' := #[true, true, true, true, true]) (by rfl) ?_
              refine a_end (by kernel_rfl) ?_
              refine e_S ?_
              refine c_ret ?_
              refine e_Sr ?_
              refine fin3 (.inl rfl) rfl (rr_cell Tryd.underlying28 rfl rfl hb6.range0 sz28) rfl (rr_cell Tryd.underlying35 rfl rfl hb8.range0 sz35) ?_
              exact ⟨at_no (graphF l fs gr) (atF_g c20) (fun h => c20 (by rw [← atF_g c20]; exact h.1)), hB⟩
  · have h0 := Decidable.not_not.1 c20
    have hgv := gv_of h0
    have hk := hgv.gok
    have hn6 := hk.le
    have hf40 := hgv.few
    refine c_skip ?_
    refine e_S ?_
    refine c_seq ?_
    refine c_seq ?_
    refine c_region ?_
    refine wl (r_mv (v := .slice _ _ _) rfl) ?_
    refine wl (r_len Tryd.underlying44 rfl) ?_
    refine wl (r_gtr rfl rfl) ?_
    refine x_nil ?_
    refine e_S ?_
    refine c_ifd rfl (fun c25 => ?_) (fun c25 => ?_)
    · have hlf := atF_l h0 (show 300 < p.length by omega)
      refine c_seq ?_
      refine c_region ?_
      refine wl (r_bd (vs := #[]) (cs := #[.slice none 0 0]) (by simp) (by kernel_rfl)) ?_
      refine wl_cl fn47 (gfault_any 2 (-3) _) rfl (fun e' w16 hr => ?_)
      obtain ⟨rfl, hs⟩ := hr
      replace hs := Same.of_bel hs
      replace hB := hB.tr0 hs
      replace hb3 := hb3.tr0 hs
      replace hb4 := hb4.tr0 hs
      replace hb6 := hb6.tr0 hs
      replace hb8 := hb8.tr0 hs
      replace hb9 := hb9.tr0 hs
      clear hs
      refine ⟨_, rfl, ?_⟩
      refine wl_stW hb6 rfl rfl sz28 rfl (by repeat (first | rfl | refine one_cons (by first | rfl | assumption) ?_)) (fun w17 hq hs => ?_)
      replace hB := hB.tr1 hs lo6
      replace hb3 := hb3.tr1 hs (by omega)
      replace hb4 := hb4.tr1 hs (by omega)
      replace hb8 := hb8.tr1 hs (by omega)
      replace hb9 := hb9.tr1 hs (by omega)
      clear hs
      replace hb6 := hq
      refine wl (r_as (v := .bool _) rfl) ?_
      refine wl_stW hb8 rfl rfl sz35 rfl (by repeat (first | rfl | refine one_cons (by first | rfl | assumption) ?_)) (fun w18 hq hs => ?_)
      replace hB := hB.tr1 hs lo8
      replace hb3 := hb3.tr1 hs (by omega)
      replace hb4 := hb4.tr1 hs (by omega)
      replace hb6 := hb6.tr1 hs (by omega)
      replace hb9 := hb9.tr1 hs (by omega)
      clear hs
      replace hb8 := hq
      refine x_nil ?_
      refine e_S ?_
      refine c_ret ?_
      refine e_Sr ?_
      refine fin3 (.inl rfl) rfl (rr_cell Tryd.underlying28 rfl rfl hb6.range0 sz28) rfl (rr_cell Tryd.underlying35 rfl rfl hb8.range0 sz35) ?_
      exact ⟨at_no (2, -3) hlf (fun h => by have := h.1; rw [hlf] at this; cases this), hB⟩
    · have hpf := atF_p h0 (show ¬ 300 < p.length by omega)
      refine c_skip ?_
      refine e_S ?_
      refine c_seq ?_
      refine c_seq ?_
      refine c_region ?_
      refine wl (r_mv (v := .slice _ _ _) rfl) ?_
      refine wl (r_len Tryd.underlying44 rfl) ?_
      refine wl (r_mv (v := .int _ _) rfl) ?_
      refine x_nil ?_
      refine e_S ?_
      refine c_block ?_
      refine c_loopS [7, 10, 11, 30, 31, 32, 33, 34, 35, 36, 37, 38, 39, 40, 41, 42, 43, 44, 45, 46, 47] (fun m g w' => ∃ k : Nat, k ≤ p.length ∧ m = p.length - k ∧ g 30 = .int .i64 k ∧ Bel w w' ∧ Blk w' b3 25 #[.slice A l.length c, .slice B fs.length d] ∧ Blk w' b4 28 #[.slice G gr.length cg] ∧ Blk w' b6 28 #[.slice none 0 0] ∧ Blk w' b8 35 #[.int .i64 0, .int .i64 0] ∧ firstF (pF fs.length p) 0 p.length = firstF (pF fs.length p) k (p.length - k)) (p.length) ?_ (fun m g7 w19 hI => ?_)
      · exact ⟨0, Nat.zero_le _, rfl, rfl, hB, hb3, hb4, hb6, hb8, rfl⟩
      obtain ⟨k, hkk, hm, h30, hB, hb3, hb4, hb6, hb8, hU⟩ := hI
      refine c_know 30 (.int .i64 k) h30 (by simp [undef]) ?_
      refine c_seq ?_
      refine c_region ?_
      refine wl (r_lss rfl rfl) ?_
      refine x_nil ?_
      refine e_S ?_
      refine c_seq ?_
      refine c_ifd rfl (fun c31 => ?_) (fun c31 => ?_)
      · have hlt : k < p.length := by omega
        obtain ⟨pb, po, rfl, hpb, hpc⟩ := hP.at_ hlt
        refine c_skip ?_
        refine e_S ?_
        refine c_seq ?_
        refine c_block ?_
        refine c_seq ?_
        refine c_region ?_
        refine wl (r_mv (v := .int _ _) rfl) ?_
        refine wl (r_ia (i := k) Tryd.underlying44 sz3 rfl rfl (by omega) rfl) ?_
        refine wl (r_ld1 (v := .int _ _) Tryd.underlying3 rfl rfl (hB.cell hpb hpc)) ?_
        refine wl (r_as (v := .int _ _) rfl) ?_
        refine wl (r_as (v := .int _ _) rfl) ?_
        refine x_nil ?_
        refine e_S ?_
        refine c_seq ?_
        refine c_cut1 [35, 36, 37, 38, 39, 40, 41, 42, 43] 43 (.bool (decide (p[k]'hlt < 0 ∨ (fs.length : Int) ≤ p[k]'hlt))) (by simp [undef]) ?_ (fun gq => ?_)
        · refine c_region ?_
          refine wl (r_mv (v := .int _ _) rfl) ?_
          refine wl (r_lss rfl rfl) ?_
          refine wl (r_mv (v := .bool _) rfl) ?_
          refine wl_casesd 37 rfl (fun g37 => ?_) (fun g37 => ?_)
          · skip
            refine wlgn 37 rfl rfl rfl ?_
            refine wlgn 37 rfl rfl rfl ?_
            refine wlgn 37 rfl rfl rfl ?_
            refine wlgn 37 rfl rfl rfl ?_
            refine wlgn 37 rfl rfl rfl ?_
            refine wl (r_pt (v := .bool _) rfl rfl) ?_
            refine x_nil (e_R ⟨rfl, (by repeat (first | exact ag_refl | exact ag_ovr' | refine ag_upd rfl ?_ | refine ag_sub rfl ?_ | refine ag_kn (by assumption) ?_)), ?_⟩)
            show Value.bool _ = Value.bool _
            first | exact congrArg Value.bool (decide_eq_true (by omega)).symm | exact congrArg Value.bool (decide_eq_false (by omega)).symm | exact congrArg Value.bool (decide_eq_decide.2 (by omega)) | exact congrArg Value.bool ((decide_not).symm.trans (decide_eq_decide.2 (by omega)))
          · skip
            refine wl_gd 37 rfl rfl ?_
            refine wl (r_mv (v := .int _ _) rfl) ?_
            refine wl_gd 37 rfl rfl ?_
            refine wl (r_fa Tryd.underlying25 sz23 (by decide) rfl rfl rfl) ?_
            refine wl_gd 37 rfl rfl ?_
            refine wl (r_ld1 (v := .slice _ _ _) Tryd.underlying23 rfl rfl (hb3.cell rfl)) ?_
            refine wl_gd 37 rfl rfl ?_
            refine wl (r_len Tryd.underlying23 rfl) ?_
            refine wl_gd 37 rfl rfl ?_
            refine wl (r_geq rfl rfl) ?_
            refine wl (r_pf (v := .bool _) rfl rfl) ?_
            refine x_nil (e_R ⟨rfl, (by repeat (first | exact ag_refl | exact ag_ovr' | refine ag_upd rfl ?_ | refine ag_sub rfl ?_ | refine ag_kn (by assumption) ?_)), ?_⟩)
            show Value.bool _ = Value.bool _
            first | exact congrArg Value.bool (decide_eq_true (by omega)).symm | exact congrArg Value.bool (decide_eq_false (by omega)).symm | exact congrArg Value.bool (decide_eq_decide.2 (by omega)) | exact congrArg Value.bool ((decide_not).symm.trans (decide_eq_decide.2 (by omega)))
        refine e_S ?_
        refine c_ifd rfl (fun c43 => ?_) (fun c43 => ?_)
        · have hT3 := hpf.trans (hU.trans (firstF_hit (by omega) (pF_yes hlt c43) (by decide)))
          refine c_seq ?_
          refine c_region ?_
          refine wl (r_bd (vs := #[]) (cs := #[.slice none 0 0]) (by simp) (by kernel_rfl)) ?_
          refine wl (r_mv (v := .int _ _) rfl) ?_
          refine wl_cl fn47 (gfault_any 3 k _) rfl (fun e' w20 hr => ?_)
          obtain ⟨rfl, hs⟩ := hr
          replace hs := Same.of_bel hs
          replace hB := hB.tr0 hs
          replace hb3 := hb3.tr0 hs
          replace hb4 := hb4.tr0 hs
          replace hb6 := hb6.tr0 hs
          replace hb8 := hb8.tr0 hs
          clear hs
          refine ⟨_, rfl, ?_⟩
          refine wl_stW hb6 rfl rfl sz28 rfl (by repeat (first | rfl | refine one_cons (by first | rfl | assumption) ?_)) (fun w21 hq hs => ?_)
          replace hB := hB.tr1 hs lo6
          replace hb3 := hb3.tr1 hs (by omega)
          replace hb4 := hb4.tr1 hs (by omega)
          replace hb8 := hb8.tr1 hs (by omega)
          clear hs
          replace hb6 := hq
          refine wl (r_as (v := .bool _) rfl) ?_
          refine wl_stW hb8 rfl rfl sz35 rfl (by repeat (first | rfl | refine one_cons (by first | rfl | assumption) ?_)) (fun w22 hq hs => ?_)
          replace hB := hB.tr1 hs lo8
          replace hb3 := hb3.tr1 hs (by omega)
          replace hb4 := hb4.tr1 hs (by omega)
          replace hb6 := hb6.tr1 hs (by omega)
          clear hs
          replace hb8 := hq
          refine x_nil ?_
          refine e_S ?_
          refine c_ret ?_
          refine e_Br ?_
          refine e_Sr ?_
          refine e_LSr ?_
          refine e_Br ?_
          refine e_Sr ?_
          refine fin3 (.inl rfl) rfl (rr_cell Tryd.underlying28 rfl rfl hb6.range0 sz28) rfl (rr_cell Tryd.underlying35 rfl rfl hb8.range0 sz35) ?_
          exact ⟨at_no (3, (k : Int)) hT3 (fun h => by have := h.1; rw [hT3] at this; cases this), hB⟩
        · skip
          refine c_skip ?_
          refine e_B ?_
          refine e_S ?_
          refine c_region ?_
          refine wl (r_add rfl rfl rfl (by omega)) ?_
          refine wl (r_mv (v := .int _ _) rfl) ?_
          refine x_nil ?_
          refine e_LS (p.length - (k + 1)) (by omega) (by repeat (first | exact ag_refl | exact ag_ovr' | refine ag_upd rfl ?_ | refine ag_sub rfl ?_ | refine ag_kn (by assumption) ?_)) ?_
          exact ⟨k + 1, by omega, rfl, rfl, hB, hb3, hb4, hb6, hb8, hU.trans (firstF_miss hlt (pF_no hlt c43))⟩
      · have hT0 := hpf.trans (hU.trans (firstF_end (by omega)))
        refine c_exit ?_
        refine e_Sx ?_
        refine e_LSx ?_
        refine e_Bx ?_
        refine e_S ?_
        refine c_seq ?_
        refine c_region ?_
        refine wl (r_as (v := .int _ _) rfl) ?_
        refine x_nil ?_
        refine e_S ?_
        refine c_seq ?_
        refine c_seq ?_
        refine c_region ?_
        refine wl (r_mv (v := .slice _ _ _) rfl) ?_
        refine wl (r_len Tryd.underlying44 rfl) ?_
        refine wl (r_mv (v := .int _ _) rfl) ?_
        refine x_nil ?_
        refine e_S ?_
        refine c_block ?_
        refine c_loopS [7, 12, 14, 50, 51, 52, 53, 54, 55, 56, 57, 58, 59, 60, 61, 62] (fun m g w' => ∃ k a : Nat, k ≤ p.length ∧ m = p.length - k ∧ g 50 = .int .i64 k ∧ g 12 = .int .i64 a ∧ Bel w w' ∧ Blk w' b4 28 #[.slice G gr.length cg] ∧ Blk w' b6 28 #[.slice none 0 0] ∧ Blk w' b8 35 #[.int .i64 0, .int .i64 0] ∧ a < gr.length ∧ walkT gr p 0 = walkT gr (p.drop k) a) (p.length) ?_ (fun m g14 w23 hI => ?_)
        · exact ⟨0, 0, Nat.zero_le _, rfl, rfl, rfl, hB, hb4, hb6, hb8, hk.pos, rfl⟩
        obtain ⟨k, a, hkk, hm, h50, h12, hB, hb4, hb6, hb8, hal, hW⟩ := hI
        refine c_know 50 (.int .i64 k) h50 (by simp [undef]) ?_
        refine c_know 12 (.int .i64 a) h12 (by simp [undef]) ?_
        refine c_seq ?_
        refine c_region ?_
        refine wl (r_lss rfl rfl) ?_
        refine x_nil ?_
        refine e_S ?_
        refine c_seq ?_
        refine c_ifd rfl (fun c51 => ?_) (fun c51 => ?_)
        · have hlt : k < p.length := by omega
          obtain ⟨pb, po, rfl, hpb, hpc⟩ := hP.at_ hlt
          have hrg := tgt_rng hk hal (p[k]'hlt)
          refine c_skip ?_
          refine e_S ?_
          refine c_seq ?_
          refine c_block ?_
          refine c_seq ?_
          refine c_region ?_
          refine wl (r_ia (i := k) Tryd.underlying44 sz3 rfl rfl (by omega) rfl) ?_
          refine wl (r_ld1 (v := .int _ _) Tryd.underlying3 rfl rfl (hB.cell hpb hpc)) ?_
          refine wl (r_as (v := .int _ _) rfl) ?_
          refine x_nil ?_
          refine e_S ?_
          refine c_seq ?_
          refine c_region ?_
          refine wl (r_ldS Tryd.underlying28 rfl rfl hb4.range0 sz28) ?_
          refine wl (r_mv (v := .int _ _) rfl) ?_
          refine wl (r_mv (v := .int _ _) rfl) ?_
          refine wl_cl fn44 (target_any G cg fs.length gr a (p[k]'hlt) _ (hG.mono hB) hal (loose_ln hgv.lo a hal) (by have := hk.few a hal; omega)) rfl (fun e' w24 hr => ?_)
          obtain ⟨rfl, hs⟩ := hr
          replace hs := Same.of_bel hs
          replace hB := hB.tr0 hs
          replace hb4 := hb4.tr0 hs
          replace hb6 := hb6.tr0 hs
          replace hb8 := hb8.tr0 hs
          clear hs
          refine ⟨_, rfl, ?_⟩
          refine wl (r_as (v := .int _ _) rfl) ?_
          refine x_nil ?_
          refine e_S ?_
          refine c_seq ?_
          refine c_region ?_
          refine wl (r_mv (v := .int _ _) rfl) ?_
          refine wl (r_lss rfl rfl) ?_
          refine x_nil ?_
          refine e_S ?_
          refine c_ifd rfl (fun c59 => ?_) (fun c59 => ?_)
          · have hWn : walkT gr p 0 < 0 := by
              rw [hW, walkT_step hlt hal, walkT_neg c59]; exact c59
            refine c_seq ?_
            refine c_region ?_
            refine wl (r_bd (vs := #[]) (cs := #[.slice none 0 0]) (by simp) (by kernel_rfl)) ?_
            refine wl (r_bd (vs := #[]) (cs := #[.int .i64 0, .int .i64 0]) (by simp) (by kernel_rfl)) ?_
            refine wl_stW hb6 rfl rfl sz28 rfl (by repeat (first | rfl | refine one_cons (by first | rfl | assumption) ?_)) (fun w25 hq hs => ?_)
            replace hB := hB.tr1 hs lo6
            replace hb4 := hb4.tr1 hs (by omega)
            replace hb8 := hb8.tr1 hs (by omega)
            clear hs
            replace hb6 := hq
            refine wl (r_as (v := .bool _) rfl) ?_
            refine wl_stW hb8 rfl rfl sz35 rfl (by repeat (first | rfl | refine one_cons (by first | rfl | assumption) ?_)) (fun w26 hq hs => ?_)
            replace hB := hB.tr1 hs lo8
            replace hb4 := hb4.tr1 hs (by omega)
            replace hb6 := hb6.tr1 hs (by omega)
            clear hs
            replace hb8 := hq
            refine x_nil ?_
            refine e_S ?_
            refine c_ret ?_
            refine e_Br ?_
            refine e_Sr ?_
            refine e_LSr ?_
            refine e_Br ?_
            refine e_Sr ?_
            refine fin3 (.inl rfl) rfl (rr_cell Tryd.underlying28 rfl rfl hb6.range0 sz28) rfl (rr_cell Tryd.underlying35 rfl rfl hb8.range0 sz35) ?_
            exact ⟨at_no (0, 0) hT0 (fun h => by have := h.2; omega), hB⟩
          · obtain ⟨a2, ha2⟩ : ∃ a2 : Nat, tgt (gr[a]'hal).ln (p[k]'hlt) = (a2 : Int) := ⟨(tgt (gr[a]'hal).ln (p[k]'hlt)).toNat, by omega⟩
            have ha2l : a2 < gr.length := by omega
            refine c_skip ?_
            refine e_B ?_
            refine e_S ?_
            refine c_region ?_
            refine wl (r_add rfl rfl rfl (by omega)) ?_
            refine wl (r_mv (v := .int _ _) rfl) ?_
            refine x_nil ?_
            refine e_LS (p.length - (k + 1)) (by omega) (by repeat (first | exact ag_refl | exact ag_ovr' | refine ag_upd rfl ?_ | refine ag_sub rfl ?_ | refine ag_kn (by assumption) ?_)) ?_
            exact ⟨k + 1, a2, by omega, rfl, rfl, congrArg (Value.int .i64) ha2, hB, hb4, hb6, hb8, ha2l, by rw [hW, walkT_step hlt hal, ha2]⟩
        · have hke : k = p.length := by omega
          rw [hke, List.drop_length] at hW
          have hWa : walkT gr p 0 = (a : Int) := hW
          refine c_exit ?_
          refine e_Sx ?_
          refine e_LSx ?_
          refine e_Bx ?_
          refine e_S ?_
          refine c_seq ?_
          refine c_region ?_
          refine wl (r_ldS Tryd.underlying28 rfl rfl hb4.range0 sz28) ?_
          refine wl (r_mv (v := .int _ _) rfl) ?_
          have z6 := hb6.lt
          have z8 := hb8.lt
          have hszv := Bel.size hB
          refine wl_cl fn29 (from_any G cg l.length fs.length gr a _ (hG.mono hB) hk (by omega) hal) rfl (fun e' w27 hr => ?_)
          obtain ⟨⟨o, AN, hD, hok, rfl, hN⟩, hs⟩ := hr
          replace hs := Same.of_bel hs
          replace hB := hB.tr0 hs
          replace hb4 := hb4.tr0 hs
          replace hb6 := hb6.tr0 hs
          replace hb8 := hb8.tr0 hs
          clear hs
          have hFr : FrSame (w23).heap.size w27 w27 := FrSame.refl _ _
          obtain ⟨Z0, hZ0⟩ : ∃ z, z = (w23).heap.size := ⟨_, rfl⟩
          rw [← hZ0] at hN hFr z6 z8
          obtain ⟨wZ, hwZ⟩ : ∃ z, z = w27 := ⟨_, rfl⟩
          have hz0 : w.heap.size ≤ Z0 := by rw [hZ0]; exact hszv
          replace hFr : FrSame Z0 wZ w27 := by rw [hwZ]; exact FrSame.refl _ _
          rw [← hwZ] at hN
          refine ⟨_, rfl, ?_⟩
          refine wl (r_bd (vs := #[]) (cs := #[.int .i64 0, .int .i64 0]) (by simp) (by kernel_rfl)) ?_
          refine wl_stW hb6 rfl rfl sz28 rfl (by repeat (first | rfl | refine one_cons (by first | rfl | assumption) ?_)) (fun w28 hq hs => ?_)
          replace hB := hB.tr1 hs lo6
          replace hb4 := hb4.tr1 hs (by omega)
          replace hb8 := hb8.tr1 hs (by omega)
          replace hFr := hFr.of hs (fun g hg => by rw [List.mem_singleton.1 hg]; omega)
          clear hs
          replace hb6 := hq
          refine wl (r_as (v := .bool _) rfl) ?_
          refine wl_stW hb8 rfl rfl sz35 rfl (by repeat (first | rfl | refine one_cons (by first | rfl | assumption) ?_)) (fun w29 hq hs => ?_)
          replace hB := hB.tr1 hs lo8
          replace hb4 := hb4.tr1 hs (by omega)
          replace hb6 := hb6.tr1 hs (by omega)
          replace hFr := hFr.of hs (fun g hg => by rw [List.mem_singleton.1 hg]; omega)
          clear hs
          replace hb8 := hq
          refine x_nil ?_
          refine e_S ?_
          refine c_ret ?_
          refine fin3 (.inl rfl) rfl (rr_cell Tryd.underlying28 rfl rfl hb6.range0 sz28) rfl (rr_cell Tryd.underlying35 rfl rfl hb8.range0 sz35) ?_
          exact ⟨at_yes hT0 hal hWa hD (fun w2 hf => hN w2 (hFr.then hf hz0)), hB⟩
end Go.Proofs.YtlaihbaneoeffaaDoor
