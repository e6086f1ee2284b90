/- What these functions of the program compute, at every world: glosswright/graph.Target, glosswright/glosswrightref3.Target, glosswright/glosswrightlaw3.single. -/
import Derived.Test.YteoncmfiiknfbaaDoorGSearch
namespace Go.Proofs.YteoncmfiiknfbaaDoor
open Go.RowKit

theorem fn66 : callable Tryd.prog 66 = true := by kernel_rfl
theorem sz26_GTgt : (Tryd.prog.info? 26).map (·.size) = some 1 := by kernel_rfl
theorem sz28_GTgt : (Tryd.prog.info? 28).map (·.size) = some 1 := by kernel_rfl
theorem sz53_GTgt : (Tryd.prog.info? 53).map (·.size) = some 1 := by kernel_rfl
theorem sz55_GTgt : (Tryd.prog.info? 55).map (·.size) = some 2 := by kernel_rfl
theorem ze28_GTgt : (Tryd.prog.info? 28).map (·.zero) = some (some (.agg #[.slice none 0 0])) := by kernel_rfl
theorem ze55_GTgt : (Tryd.prog.info? 55).map (·.zero) = some (some (.agg #[.int .i64 0, .slice none 0 0])) := by kernel_rfl
theorem ze74_GTgt : (Tryd.prog.info? 74).map (·.zero) = some (some (.agg #[.int .i64 0, .int .i64 0])) := by kernel_rfl
theorem target_any (G : Option Addr) (cg nf : Nat) (gr : List Nd) (i : Nat) (f : Int) (w : World) (hG : NodesIn w G gr) (hi : i < gr.length) (hl : lnFault nf gr.length (-1) (gr[i]'hi).ln = 0) (hw : (gr[i]'hi).ln.length ≤ 1000) : Calls Tryd.prog 42 #[.agg #[.slice G gr.length cg], .int .i64 i, .int .i64 f] w fun e w' => e = .returned (.int .i64 (tgt (gr[i]'hi).ln f)) ∧ Bel w w' := by
 obtain ⟨nb, no, LA, lc, rfl, hnb, hnr, hln⟩ := hG.at_ (Below.refl _ _ : Bel w w) hi
 have hso := (ln_sorted hl).2
 refine enter Tryd.func42 Tryd.ntmps42 rfl (Nat.le_of_ble_eq_true rfl) ?_
 have hB : Bel w w := Below.refl _ _
 refine c_seq ?_
 refine c_region ?_
 refine wl_bx (v := .agg #[_]) (cs := #[_]) rfl rfl (fun b3 w1 hb3 hs hr => ?_)
 have lo3 := Nat.le_trans (Bel.size hB) hr
 replace hB := hB.tr0 hs
 clear hs
 clear hr
 refine wl (r_as (v := .int _ _) rfl) ?_
 refine x_nil ?_
 refine e_S ?_
 refine c_seq ?_
 refine c_region ?_
 refine wl (r_fa Tryd.underlying28 sz26_GTgt (by decide) rfl rfl rfl) ?_
 refine wl (r_ld1 (v := .slice _ _ _) Tryd.underlying26 rfl rfl (hb3.cell rfl)) ?_
 refine wl (r_mv (v := .int _ _) rfl) ?_
 refine wl (r_ia (i := i) Tryd.underlying26 sz55_GTgt rfl rfl hi rfl) ?_
 refine wl (r_fa Tryd.underlying55 sz53_GTgt (by decide) rfl rfl rfl) ?_
 refine wl (r_ld1 (v := .slice _ _ _) Tryd.underlying53 rfl rfl (hB.cell hnb (hnr 1 _ rfl))) ?_
 refine wl (r_mv (v := .int _ _) rfl) ?_
 refine wl_cl fn66 (bsf_any LA lc (gr[i]'hi).ln f _ (hln.mono hB) hw (fun x y hx hy hxy => by
       by_cases e : x = y
       · subst e; exact Int.le_refl _
       · exact Int.le_of_lt (hso x y hx hy (by omega)))) rfl (fun e' w2 hr => ?_)
 obtain ⟨⟨ix, b, hix, rfl, hlo, hhi, hbt⟩, hs⟩ := hr
 replace hs := Same.of_bel hs
 replace hB := hB.tr0 hs
 replace hb3 := hb3.tr0 hs
 clear hs
 obtain ⟨hy, hn⟩ := tgt_bs hl hlo hhi
 refine ⟨_, rfl, ?_⟩
 refine wl (r_mv (v := .tuple _) rfl) ?_
 refine wl (r_ex (v := .int _ _) rfl rfl) ?_
 refine wl (r_ex (v := .bool _) rfl rfl) ?_
 refine wl (r_as (v := .int _ _) rfl) ?_
 refine wl (r_as (v := .bool _) rfl) ?_
 refine x_nil ?_
 refine e_S ?_
 refine c_seq ?_
 refine c_seq ?_
 refine c_region ?_
 refine wl (r_mv (v := .bool _) rfl) ?_
 refine wl (r_not rfl) ?_
 refine x_nil ?_
 refine e_S ?_
 refine c_if rfl (fun c21 => ?_) (fun c21 => ?_)
 ·
  have hbf : ¬ b = true := by simpa using c21
  have hno := hn (fun h => hbf (hbt.2 h))
  refine c_seq ?_
  refine c_region ?_
  refine wl (r_as (v := .int _ _) rfl) ?_
  refine x_nil ?_
  refine e_S ?_
  refine c_ret ?_
  refine e_Sr ?_
  refine fin1 (.inl rfl) rfl rfl ?_
  exact ⟨ret_int hno, hB⟩
 ·
  have hbt2 : b = true := by simpa using c21
  obtain ⟨hxl, hxe⟩ := hbt.1 hbt2
  have hyes := hy hxl hxe
  obtain ⟨lb, lof, rfl, hlb, hlr⟩ := hln.at_ hB hxl
  refine c_skip ?_
  refine e_S ?_
  refine c_seq ?_
  refine c_region ?_
  refine wl (r_fa Tryd.underlying28 sz26_GTgt (by decide) rfl rfl rfl) ?_
  refine wl (r_ld1 (v := .slice _ _ _) Tryd.underlying26 rfl rfl (hb3.cell rfl)) ?_
  refine wl (r_mv (v := .int _ _) rfl) ?_
  refine wl (r_ia (i := i) Tryd.underlying26 sz55_GTgt rfl rfl hi rfl) ?_
  refine wl (r_fa Tryd.underlying55 sz53_GTgt (by decide) rfl rfl rfl) ?_
  refine wl (r_ld1 (v := .slice _ _ _) Tryd.underlying53 rfl rfl (hB.cell hnb (hnr 1 _ rfl))) ?_
  refine wl (r_mv (v := .int _ _) rfl) ?_
  refine wl (r_ia (i := ix) Tryd.underlying53 sz74_GSearch rfl rfl (by omega) rfl) ?_
  refine wl (r_fa Tryd.underlying74 sz3_GSearch (by decide) rfl rfl rfl) ?_
  refine wl (r_ld1 (v := .int _ _) Tryd.underlying3 rfl rfl (hlr 1 _ rfl)) ?_
  refine wl (r_as (v := .int _ _) rfl) ?_
  refine x_nil ?_
  refine e_S ?_
  refine c_ret ?_
  refine fin1 (.inl rfl) rfl rfl ?_
  exact ⟨ret_int hyes, hB⟩

theorem single_any (t : Int) (w : World) : Calls Tryd.prog 17 #[.int .i64 t] w fun e w' => (∃ A, e = .returned (.agg #[.slice A 1 1]) ∧ NodesIn w' A [⟨t, []⟩]) ∧ Bel w w' := by
 refine enter Tryd.func17 Tryd.ntmps17 rfl (Nat.le_of_ble_eq_true rfl) ?_
 have hB : Bel w w := Below.refl _ _
 refine c_seq ?_
 refine c_region ?_
 refine wl_al (cs := #[.slice none 0 0]) ze28_GTgt rfl (fun b2 w1 hb2 hs hr => ?_)
 have lo2 := Nat.le_trans (Bel.size hB) hr
 replace hB := hB.tr0 hs
 clear hs
 clear hr
 refine x_nil ?_
 refine e_S ?_
 refine c_seq ?_
 refine c_region ?_
 refine wl (r_mv (v := .int _ _) rfl) ?_
 refine wl (r_bd1 (v0 := .int _ _) (fun v0 => #[v0, .slice none 0 0]) rfl (by kernel_rfl)) ?_
 refine wl_bs (cs := #[_, _]) [(0, .agg _)] rfl Tryd.underlying26 sz55_GTgt ze55_GTgt (by decide) (by decide) (by kernel_rfl) rfl (fun b5 w2 hb5 hs hr => ?_)
 have or_b2_b5 : b2 < b5 := Nat.lt_of_lt_of_le hb2.lt hr
 have lo5 := Nat.le_trans (Bel.size hB) hr
 replace hB := hB.tr0 hs
 replace hb2 := hb2.tr0 hs
 clear hs
 clear hr
 refine wl (r_bd1 (v0 := .slice _ _ _) (fun v0 => #[v0]) rfl (by kernel_rfl)) ?_
 refine wl_stW hb2 rfl rfl sz28_GTgt rfl (by repeat (first | rfl | refine one_cons (by first | rfl | assumption) ?_)) (fun w3 hq hs => ?_)
 replace hB := hB.tr1 hs lo2
 replace hb5 := hb5.tr1 hs (by omega)
 clear hs
 replace hb2 := hq
 refine x_nil ?_
 refine e_S ?_
 refine c_ret ?_
 refine fin1 (.inl rfl) rfl (rr_cell Tryd.underlying28 rfl rfl hb2.range0 sz28_GTgt) ?_
 exact ⟨⟨_, rfl, nodes_of_blk (l := [⟨t, []⟩]) hb5 (.cons (links_nil _ _) .nil) (by simp; decide)⟩, hB⟩
end Go.Proofs.YteoncmfiiknfbaaDoor
