/- What these functions of the program compute, at every world: glosswright/graph.Target, glosswright/glosswrightref3.Target, glosswright/glosswrightlaw3.single. -/
import Derived.Test.YtlaihbaneoeffaaDoorGSearch
namespace Go.Proofs.YtlaihbaneoeffaaDoor
open Go.RowKit

theorem fn61 : callable Tryd.prog 61 = true := by kernel_rfl
theorem sz26_GTgt : (Tryd.prog.info? 26).map (·.size) = some 1 := by kernel_rfl
theorem sz28_GTgt : (Tryd.prog.info? 28).map (·.size) = some 1 := by kernel_rfl
theorem sz31_GTgt : (Tryd.prog.info? 31).map (·.size) = some 1 := by kernel_rfl
theorem sz33_GTgt : (Tryd.prog.info? 33).map (·.size) = some 2 := by kernel_rfl
theorem ze28_GTgt : (Tryd.prog.info? 28).map (·.zero) = some (some (.agg #[.slice none 0 0])) := by kernel_rfl
theorem ze30_GTgt : (Tryd.prog.info? 30).map (·.zero) = some (some (.agg #[.int .i64 0, .int .i64 0])) := by kernel_rfl
theorem ze33_GTgt : (Tryd.prog.info? 33).map (·.zero) = some (some (.agg #[.int .i64 0, .slice none 0 0])) := by kernel_rfl
theorem target_any (G : Option Addr) (cg nf : Nat) (gr : List Nd) (i : Nat) (f : Int) (w : World) (hG : NodesIn w G gr) (hi : i < gr.length) (hl : lnFault nf gr.length (-1) (gr[i]'hi).ln = 0) (hw : (gr[i]'hi).ln.length ≤ 1000) : Calls Tryd.prog 44 #[.agg #[.slice G gr.length cg], .int .i64 i, .int .i64 f] w fun e w' => e = .returned (.int .i64 (tgt (gr[i]'hi).ln f)) ∧ Bel w w' := by
 obtain ⟨nb, no, LA, lc, rfl, hnb, hnr, hln⟩ := hG.at_ (Below.refl _ _ : Bel w w) hi
 have hso := (ln_sorted hl).2
 refine enter Tryd.func44 Tryd.ntmps44 rfl (Nat.le_of_ble_eq_true rfl) ?_
 have hB : Bel w w := Below.refl _ _
 refine c_seq ?_
 refine c_region ?_
 refine wl_bx (v := .agg #[_]) (cs := #[_]) rfl rfl (fun b3 w1 hb3 hs hr => ?_)
 have lo3 := Nat.le_trans (Bel.size hB) hr
 replace hB := hB.tr0 hs
 clear hs
 clear hr
 refine wl (r_as (v := .int _ _) rfl) ?_
 refine x_nil ?_
 refine e_S ?_
 refine c_seq ?_
 refine c_region ?_
 refine wl (r_fa Tryd.underlying28 sz26_GTgt (by decide) rfl rfl rfl) ?_
 refine wl (r_ld1 (v := .slice _ _ _) Tryd.underlying26 rfl rfl (hb3.cell rfl)) ?_
 refine wl (r_mv (v := .int _ _) rfl) ?_
 refine wl (r_ia (i := i) Tryd.underlying26 sz33_GTgt rfl rfl hi rfl) ?_
 refine wl (r_fa Tryd.underlying33 sz31_GTgt (by decide) rfl rfl rfl) ?_
 refine wl (r_ld1 (v := .slice _ _ _) Tryd.underlying31 rfl rfl (hB.cell hnb (hnr 1 _ rfl))) ?_
 refine wl (r_mv (v := .int _ _) rfl) ?_
 refine wl_cl fn61 (bsf_any LA lc (gr[i]'hi).ln f _ (hln.mono hB) hw (fun x y hx hy hxy => by
       by_cases e : x = y
       · subst e; exact Int.le_refl _
       · exact Int.le_of_lt (hso x y hx hy (by omega)))) rfl (fun e' w2 hr => ?_)
 obtain ⟨⟨ix, b, hix, rfl, hlo, hhi, hbt⟩, hs⟩ := hr
 replace hs := Same.of_bel hs
 replace hB := hB.tr0 hs
 replace hb3 := hb3.tr0 hs
 clear hs
 obtain ⟨hy, hn⟩ := tgt_bs hl hlo hhi
 refine ⟨_, rfl, ?_⟩
 refine wl (r_mv (v := .tuple _) rfl) ?_
 refine wl (r_ex (v := .int _ _) rfl rfl) ?_
 refine wl (r_ex (v := .bool _) rfl rfl) ?_
 refine wl (r_as (v := .int _ _) rfl) ?_
 refine wl (r_as (v := .bool _) rfl) ?_
 refine x_nil ?_
 refine e_S ?_
 refine c_seq ?_
 refine c_seq ?_
 refine c_region ?_
 refine wl (r_mv (v := .bool _) rfl) ?_
 refine wl (r_not rfl) ?_
 refine x_nil ?_
 refine e_S ?_
 refine c_if rfl (fun c21 => ?_) (fun c21 => ?_)
 ·
  have hbf : ¬ b = true := by simpa using c21
  have hno := hn (fun h => hbf (hbt.2 h))
  refine c_seq ?_
  refine c_region ?_
  refine wl (r_as (v := .int _ _) rfl) ?_
  refine x_nil ?_
  refine e_S ?_
  refine c_ret ?_
  refine e_Sr ?_
  refine fin1 (.inl rfl) rfl rfl ?_
  exact ⟨ret_int hno, hB⟩
 ·
  have hbt2 : b = true := by simpa using c21
  obtain ⟨hxl, hxe⟩ := hbt.1 hbt2
  have hyes := hy hxl hxe
  obtain ⟨lb, lof, rfl, hlb, hlr⟩ := hln.at_ hB hxl
  refine c_skip ?_
  refine e_S ?_
  refine c_seq ?_
  refine c_region ?_
  refine wl (r_fa Tryd.underlying28 sz26_GTgt (by decide) rfl rfl rfl) ?_
  refine wl (r_ld1 (v := .slice _ _ _) Tryd.underlying26 rfl rfl (hb3.cell rfl)) ?_
  refine wl (r_mv (v := .int _ _) rfl) ?_
  refine wl (r_ia (i := i) Tryd.underlying26 sz33_GTgt rfl rfl hi rfl) ?_
  refine wl (r_fa Tryd.underlying33 sz31_GTgt (by decide) rfl rfl rfl) ?_
  refine wl (r_ld1 (v := .slice _ _ _) Tryd.underlying31 rfl rfl (hB.cell hnb (hnr 1 _ rfl))) ?_
  refine wl (r_mv (v := .int _ _) rfl) ?_
  refine wl (r_ia (i := ix) Tryd.underlying31 sz30_GSearch rfl rfl (by omega) rfl) ?_
  refine wl (r_fa Tryd.underlying30 sz3_GSearch (by decide) rfl rfl rfl) ?_
  refine wl (r_ld1 (v := .int _ _) Tryd.underlying3 rfl rfl (hlr 1 _ rfl)) ?_
  refine wl (r_as (v := .int _ _) rfl) ?_
  refine x_nil ?_
  refine e_S ?_
  refine c_ret ?_
  refine fin1 (.inl rfl) rfl rfl ?_
  exact ⟨ret_int hyes, hB⟩

theorem rtarget_any (G : Option Addr) (cg : Nat) (gr : List Nd) (i : Nat) (f : Int) (w : World) (hG : NodesIn w G gr) (hi : i < gr.length) : Calls Tryd.prog 41 #[.agg #[.slice G gr.length cg], .int .i64 i, .int .i64 f] w fun e w' => e = .returned (.int .i64 (tgt (gr[i]'hi).ln f)) ∧ Bel w w' := by
 obtain ⟨nb, no, LA, lc, rfl, hnb, hnr, hln⟩ := hG.at_ (Below.refl _ _ : Bel w w) hi
 have hmx := hln.1
 unfold maxI at hmx
 refine enter Tryd.func41 Tryd.ntmps41 rfl (Nat.le_of_ble_eq_true rfl) ?_
 have hB : Bel w w := Below.refl _ _
 refine c_seq ?_
 refine c_region ?_
 refine wl_bx (v := .agg #[_]) (cs := #[_]) rfl rfl (fun b3 w1 hb3 hs hr => ?_)
 have lo3 := Nat.le_trans (Bel.size hB) hr
 replace hB := hB.tr0 hs
 clear hs
 clear hr
 refine wl (r_as (v := .int _ _) rfl) ?_
 refine x_nil ?_
 refine e_S ?_
 refine c_seq ?_
 refine c_seq ?_
 refine c_region ?_
 refine wl (r_fa Tryd.underlying28 sz26_GTgt (by decide) rfl rfl rfl) ?_
 refine wl (r_ld1 (v := .slice _ _ _) Tryd.underlying26 rfl rfl (hb3.cell rfl)) ?_
 refine wl (r_mv (v := .int _ _) rfl) ?_
 refine wl (r_ia (i := i) Tryd.underlying26 sz33_GTgt rfl rfl hi rfl) ?_
 refine wl (r_fa Tryd.underlying33 sz31_GTgt (by decide) rfl rfl rfl) ?_
 refine wl (r_ld1 (v := .slice _ _ _) Tryd.underlying31 rfl rfl (hB.cell hnb (hnr 1 _ rfl))) ?_
 refine wl (r_len Tryd.underlying31 rfl) ?_
 refine wl (r_mv (v := .int _ _) rfl) ?_
 refine x_nil ?_
 refine e_S ?_
 refine c_block ?_
 refine c_loopS [6, 8, 16, 17, 18, 19, 20, 21, 22, 23, 24, 25, 26] (fun m g w' => ∃ k : Nat, k ≤ (gr[i]'hi).ln.length ∧ m = (gr[i]'hi).ln.length - k ∧ g 16 = .int .i64 k ∧ Bel w w' ∧ (∀ j (hj : j < (gr[i]'hi).ln.length), j < k → ¬ ((gr[i]'hi).ln[j]).1 = f)) ((gr[i]'hi).ln.length) ?_ (fun m g2 w2 hI => ?_)
 ·
  exact ⟨0, Nat.zero_le _, rfl, rfl, hB, fun j _ h => by omega⟩
 obtain ⟨k, hk, hm, h16, hB, hno⟩ := hI
 refine c_know 16 (.int .i64 k) h16 (by simp [undef]) ?_
 refine c_seq ?_
 refine c_region ?_
 refine wl (r_lss rfl rfl) ?_
 refine x_nil ?_
 refine e_S ?_
 refine c_seq ?_
 refine c_ifd rfl (fun c17 => ?_) (fun c17 => ?_)
 ·
  have hkl : k < (gr[i]'hi).ln.length := by omega
  obtain ⟨lb, lof, rfl, hlb, hlr⟩ := hln.at_ hB hkl
  refine c_skip ?_
  refine e_S ?_
  refine c_seq ?_
  refine c_block ?_
  refine c_seq ?_
  refine c_region ?_
  refine wl (r_ia (i := k) Tryd.underlying31 sz30_GSearch rfl rfl (by omega) rfl) ?_
  refine wl (r_ldS Tryd.underlying30 rfl rfl hlr sz30_GSearch) ?_
  refine wl_al (cs := #[.int .i64 0, .int .i64 0]) ze30_GTgt rfl (fun b8 w3 hb8 hs hr => ?_)
  have lo8 := Nat.le_trans (Bel.size hB) hr
  replace hB := hB.tr0 hs
  clear hs
  clear hr
  refine wl_stW hb8 rfl rfl sz30_GSearch rfl (by repeat (first | rfl | refine one_cons (by first | rfl | assumption) ?_)) (fun w4 hq hs => ?_)
  replace hB := hB.tr1 hs lo8
  clear hs
  replace hb8 := hq
  refine x_nil ?_
  refine e_S ?_
  refine c_seq ?_
  refine c_region ?_
  refine wl (r_fa Tryd.underlying30 sz3_GSearch (by decide) rfl rfl rfl) ?_
  refine wl (r_ld1 (v := .int _ _) Tryd.underlying3 rfl rfl (hb8.cell rfl)) ?_
  refine wl (r_mv (v := .int _ _) rfl) ?_
  refine wl (r_eql rfl rfl) ?_
  refine x_nil ?_
  refine e_S ?_
  refine c_ifd rfl (fun c23 => ?_) (fun c23 => ?_)
  ·
   refine c_seq ?_
   refine c_region ?_
   refine wl (r_fa Tryd.underlying30 sz3_GSearch (by decide) rfl rfl rfl) ?_
   refine wl (r_ld1 (v := .int _ _) Tryd.underlying3 rfl rfl (hb8.cell rfl)) ?_
   refine wl (r_as (v := .int _ _) rfl) ?_
   refine x_nil ?_
   refine e_S ?_
   refine c_ret ?_
   refine e_Br ?_
   refine e_Sr ?_
   refine e_LSr ?_
   refine e_Br ?_
   refine e_Sr ?_
   refine fin1 (.inl rfl) rfl rfl ?_
   exact ⟨ret_int (tgt_at hkl c23 (fun j hj h => hno j hj h)), hB⟩
  ·
   refine c_skip ?_
   refine e_B ?_
   refine e_S ?_
   refine c_region ?_
   refine wl (r_add rfl rfl rfl (by omega)) ?_
   refine wl (r_mv (v := .int _ _) rfl) ?_
   refine x_nil ?_
   refine e_LS ((gr[i]'hi).ln.length - (k + 1)) (by omega) (by repeat (first | exact ag_refl | exact ag_ovr' | refine ag_upd rfl ?_ | refine ag_sub rfl ?_ | refine ag_kn (by assumption) ?_)) ?_
   exact ⟨k + 1, by omega, rfl, rfl, hB, fun j hj h => by
     by_cases e : j = k
     · subst e; exact c23
     · exact hno j hj (by omega)⟩
 ·
  have hall : tgt (gr[i]'hi).ln f = -1 := tgt_no (fun j hj => hno j hj (by omega))
  refine c_exit ?_
  refine e_Sx ?_
  refine e_LSx ?_
  refine e_Bx ?_
  refine e_S ?_
  refine c_seq ?_
  refine c_region ?_
  refine wl (r_as (v := .int _ _) rfl) ?_
  refine x_nil ?_
  refine e_S ?_
  refine c_ret ?_
  refine fin1 (.inl rfl) rfl rfl ?_
  exact ⟨ret_int hall, hB⟩

theorem single_any (t : Int) (w : World) : Calls Tryd.prog 19 #[.int .i64 t] w fun e w' => (∃ A, e = .returned (.agg #[.slice A 1 1]) ∧ NodesIn w' A [⟨t, []⟩]) ∧ Bel w w' := by
 refine enter Tryd.func19 Tryd.ntmps19 rfl (Nat.le_of_ble_eq_true rfl) ?_
 have hB : Bel w w := Below.refl _ _
 refine c_seq ?_
 refine c_region ?_
 refine wl_al (cs := #[.slice none 0 0]) ze28_GTgt rfl (fun b2 w1 hb2 hs hr => ?_)
 have lo2 := Nat.le_trans (Bel.size hB) hr
 replace hB := hB.tr0 hs
 clear hs
 clear hr
 refine x_nil ?_
 refine e_S ?_
 refine c_seq ?_
 refine c_region ?_
 refine wl (r_mv (v := .int _ _) rfl) ?_
 refine wl (r_bd1 (v0 := .int _ _) (fun v0 => #[v0, .slice none 0 0]) rfl (by kernel_rfl)) ?_
 refine wl_bs (cs := #[_, _]) [(0, .agg _)] rfl Tryd.underlying26 sz33_GTgt ze33_GTgt (by decide) (by decide) (by kernel_rfl) rfl (fun b5 w2 hb5 hs hr => ?_)
 have or_b2_b5 : b2 < b5 := Nat.lt_of_lt_of_le hb2.lt hr
 have lo5 := Nat.le_trans (Bel.size hB) hr
 replace hB := hB.tr0 hs
 replace hb2 := hb2.tr0 hs
 clear hs
 clear hr
 refine wl (r_bd1 (v0 := .slice _ _ _) (fun v0 => #[v0]) rfl (by kernel_rfl)) ?_
 refine wl_stW hb2 rfl rfl sz28_GTgt rfl (by repeat (first | rfl | refine one_cons (by first | rfl | assumption) ?_)) (fun w3 hq hs => ?_)
 replace hB := hB.tr1 hs lo2
 replace hb5 := hb5.tr1 hs (by omega)
 clear hs
 replace hb2 := hq
 refine x_nil ?_
 refine e_S ?_
 refine c_ret ?_
 refine fin1 (.inl rfl) rfl (rr_cell Tryd.underlying28 rfl rfl hb2.range0 sz28_GTgt) ?_
 exact ⟨⟨_, rfl, nodes_of_blk (l := [⟨t, []⟩]) hb5 (.cons (links_nil _ _) .nil) (by simp; decide)⟩, hB⟩
end Go.Proofs.YtlaihbaneoeffaaDoor
