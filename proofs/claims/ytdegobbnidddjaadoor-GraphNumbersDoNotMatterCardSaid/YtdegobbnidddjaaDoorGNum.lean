/- What these functions of the program compute, at every world: glosswright/glosswrightref4.Mod, glosswright/glosswrightref4.Turned, glosswright/glosswrightlaw3.GraphNumbersDoNotMatter. -/
import Derived.Test.YtdegobbnidddjaaDoorGCan
import Derived.Test.YtdegobbnidddjaaDoorTurn
namespace Go.Proofs.YtdegobbnidddjaaDoor
open Go.RowKit

theorem cann_any (A B G : Option Addr) (c d n cg : Nat) (l : List Ty) (fs : List Ft) (gr : List Nd) (w : World) (hTab : TabIn w) (hT : TypesIn w A l) (hF : FeatsIn w B fs) (hG : NodesIn w G gr) (hn : gr.length = n) : Calls Tryd.prog 12 #[.agg #[.slice A l.length c, .slice B fs.length d], .agg #[.slice G n cg]] w fun e w' => (∃ A', e = .returned (.tuple #[.agg #[.slice A' (canF l fs gr).length (canF l fs gr).length], .agg #[.int .i64 (graphF l fs gr).1, .int .i64 (graphF l fs gr).2]]) ∧ (∀ w2, FrSame w.heap.size w' w2 → NodesIn w2 A' (canF l fs gr)) ∧ ((graphF l fs gr).1 = 0 → ∃ o, DL gr [0] [] o ∧ canF l fs gr = canG gr o)) ∧ Bel w w' := by
  subst hn; exact can_any A B G c d cg l fs gr w hTab hT hF hG

theorem fn14 : callable Tryd.prog 14 = true := by kernel_rfl
theorem fn34 : callable Tryd.prog 34 = true := by kernel_rfl
theorem mod_any (a : Int) (n : Nat) (w : World) (ha : -9223372036854775808 ≤ a ∧ a ≤ 9223372036854775807) (hn : 0 < n) (hn6 : n ≤ 60) : Calls Tryd.prog 34 #[.int .i64 a, .int .i64 n] w fun e w' => e = .returned (.int .i64 (modI a n)) ∧ Bel w w' := by
  have h1 := Int.tmod_lt_of_pos a (b := (n : Int)) (by omega)
  have h2 := Int.lt_tmod_of_pos a (b := (n : Int)) (by omega)
  refine enter Tryd.func34 Tryd.ntmps34 rfl (Nat.le_of_ble_eq_true rfl) ?_
  have hB : Bel w w := Below.refl _ _
  refine c_seq ?_
  refine c_region ?_
  refine wl (r_as (v := .int _ _) rfl) ?_
  refine x_nil ?_
  refine e_S ?_
  refine c_seq ?_
  refine c_seq ?_
  refine c_region ?_
  refine wl (r_mv (v := .int _ _) rfl) ?_
  refine wl (r_mv (v := .int _ _) rfl) ?_
  refine wl (r_rem rfl rfl (by omega) rfl) ?_
  refine wl (r_as (v := .int _ _) rfl) ?_
  refine x_nil ?_
  refine e_S ?_
  refine c_seq ?_
  refine c_region ?_
  refine wl (r_mv (v := .int _ _) rfl) ?_
  refine wl (r_lss rfl rfl) ?_
  refine x_nil ?_
  refine e_S ?_
  refine c_ifd rfl (fun c9 => ?_) (fun c9 => ?_)
  · skip
    refine c_region ?_
    refine wl (r_mv (v := .int _ _) rfl) ?_
    refine wl (r_mv (v := .int _ _) rfl) ?_
    refine wl (r_add rfl rfl rfl (by omega)) ?_
    refine wl (r_as (v := .int _ _) rfl) ?_
    refine x_nil ?_
    refine e_S ?_
    refine c_seq ?_
    refine c_region ?_
    refine wl (r_mv (v := .int _ _) rfl) ?_
    refine wl (r_as (v := .int _ _) rfl) ?_
    refine x_nil ?_
    refine e_S ?_
    refine c_ret ?_
    refine fin1 (.inl rfl) rfl rfl ?_
    exact ⟨ret_int (by unfold modI; first | rw [if_pos c9] | rw [if_neg c9]), hB⟩
  · skip
    refine c_skip ?_
    refine e_S ?_
    refine c_seq ?_
    refine c_region ?_
    refine wl (r_mv (v := .int _ _) rfl) ?_
    refine wl (r_as (v := .int _ _) rfl) ?_
    refine x_nil ?_
    refine e_S ?_
    refine c_ret ?_
    refine fin1 (.inl rfl) rfl rfl ?_
    exact ⟨ret_int (by unfold modI; first | rw [if_pos c9] | rw [if_neg c9]), hB⟩

theorem turned_any (i n : Nat) (kn : Int) (w : World) (hkn : -9223372036854775808 ≤ kn ∧ kn ≤ 9223372036854775807) (hi : i < n) (hn6 : n ≤ 60) : Calls Tryd.prog 14 #[.int .i64 i, .int .i64 n, .int .i64 kn] w fun e w' => e = .returned (.int .i64 (turnN n kn i : Nat)) ∧ Bel w w' := by
  refine enter Tryd.func14 Tryd.ntmps14 rfl (Nat.le_of_ble_eq_true rfl) ?_
  have hB : Bel w w := Below.refl _ _
  refine c_seq ?_
  refine c_region ?_
  refine wl (r_as (v := .int _ _) rfl) ?_
  refine x_nil ?_
  refine e_S ?_
  refine c_seq ?_
  refine c_seq ?_
  refine c_region ?_
  refine wl (r_mv (v := .int _ _) rfl) ?_
  refine wl (r_eql rfl rfl) ?_
  refine x_nil ?_
  refine e_S ?_
  refine c_ifd rfl (fun c8 => ?_) (fun c8 => ?_)
  · have hi0 : i = 0 := by omega
    refine c_seq ?_
    refine c_region ?_
    refine wl (r_as (v := .int _ _) rfl) ?_
    refine x_nil ?_
    refine e_S ?_
    refine c_ret ?_
    refine e_Sr ?_
    refine fin1 (.inl rfl) rfl rfl ?_
    exact ⟨ret_int (by unfold turnN; rw [if_pos hi0]; rfl), hB⟩
  · have hi0 : ¬ i = 0 := by omega
    have hm := modN_lt kn (show 0 < n - 1 by omega)
    have hmm := Nat.mod_lt (i - 1 + modN kn (n - 1)) (show 0 < n - 1 by omega)
    refine c_skip ?_
    refine e_S ?_
    refine c_seq ?_
    refine c_region ?_
    refine wl (r_mv (v := .int _ _) rfl) ?_
    refine wl (r_sub (c := ((i - 1 : Nat) : Int)) rfl rfl (by omega) (by omega)) ?_
    refine wl (r_mv (v := .int _ _) rfl) ?_
    refine wl (r_mv (v := .int _ _) rfl) ?_
    refine wl (r_sub (c := ((n - 1 : Nat) : Int)) rfl rfl (by omega) (by omega)) ?_
    refine wl_cl fn34 (mod_any kn (n - 1) _ hkn (by omega) (by omega)) rfl (fun e' w1 hr => ?_)
    obtain ⟨rfl, hs⟩ := hr
    replace hs := Same.of_bel hs
    replace hB := hB.tr0 hs
    clear hs
    refine ⟨_, rfl, ?_⟩
    refine wl (r_add (c := ((i - 1 + modN kn (n - 1) : Nat) : Int)) rfl rfl (by rw [modN_eq kn (show 0 < n - 1 by omega)]; omega) (by omega)) ?_
    refine wl (r_mv (v := .int _ _) rfl) ?_
    refine wl (r_sub (c := ((n - 1 : Nat) : Int)) rfl rfl (by omega) (by omega)) ?_
    refine wl_cl fn34 (mod_any ((i - 1 + modN kn (n - 1) : Nat) : Int) (n - 1) _ (by omega) (by omega) (by omega)) rfl (fun e' w2 hr => ?_)
    obtain ⟨rfl, hs⟩ := hr
    replace hs := Same.of_bel hs
    replace hB := hB.tr0 hs
    clear hs
    refine ⟨_, rfl, ?_⟩
    refine wl (r_add (c := ((1 + (i - 1 + modN kn (n - 1)) % (n - 1) : Nat) : Int)) rfl rfl (by rw [modI_nat]; generalize (i - 1 + modN kn (n - 1)) % (n - 1) = z; omega) (by omega)) ?_
    refine wl (r_as (v := .int _ _) rfl) ?_
    refine x_nil ?_
    refine e_S ?_
    refine c_ret ?_
    refine fin1 (.inl rfl) rfl rfl ?_
    exact ⟨ret_int (by unfold turnN; rw [if_neg hi0]), hB⟩

set_option maxHeartbeats 4000000 in
theorem law6_any (kn : Int) (A B G : Option Addr) (c d cg : Nat) (l : List Ty) (fs : List Ft) (gr : List Nd) (w : World) (hTab : TabIn w) (hkn : -9223372036854775808 ≤ kn ∧ kn ≤ 9223372036854775807) (hcl : l.length ≤ c) (hdl : fs.length ≤ d) (hT : TypesIn w A l) (hF : FeatsIn w B fs) (hG : NodesIn w G gr) : Calls Tryd.prog 4 #[.agg #[.slice A l.length c, .slice B fs.length d], .agg #[.slice G gr.length cg], .int .i64 kn] w fun e w' => e = .returned (.bool true) ∧ Bel w w' := by
  refine enter Tryd.func4 Tryd.ntmps4 rfl (Nat.le_of_ble_eq_true rfl) ?_
  have hB : Bel w w := Below.refl _ _
  refine c_seq ?_
  refine c_region ?_
  refine wl_bx (v := .agg #[_, _]) (cs := #[_, _]) rfl rfl (fun b3 w1 hb3 hs hr => ?_)
  have lo3 := Nat.le_trans (Bel.size hB) hr
  replace hB := hB.tr0 hs
  clear hs
  clear hr
  refine wl_bx (v := .agg #[_]) (cs := #[_]) rfl rfl (fun b4 w2 hb4 hs hr => ?_)
  have or_b3_b4 : b3 < b4 := Nat.lt_of_lt_of_le hb3.lt hr
  have lo4 := Nat.le_trans (Bel.size hB) hr
  replace hB := hB.tr0 hs
  replace hb3 := hb3.tr0 hs
  clear hs
  clear hr
  refine wl (r_as (v := .bool _) rfl) ?_
  refine x_nil ?_
  refine e_S ?_
  refine c_seq ?_
  refine c_seq ?_
  refine c_region ?_
  refine wl_cl fn10 (pair_any _) rfl (fun e' w3 hr => ?_)
  obtain ⟨⟨Ap, Bp, rfl, hTp, hFp⟩, hs⟩ := hr
  replace hs := Same.of_bel hs
  replace hB := hB.tr0 hs
  replace hb3 := hb3.tr0 hs
  replace hb4 := hb4.tr0 hs
  clear hs
  have hB0 : Bel w3 w3 := Below.refl _ _
  refine ⟨_, rfl, ?_⟩
  refine wl_cl fn13 (apart_any _) rfl (fun e' w4 hr => ?_)
  obtain ⟨⟨Ga, rfl, hGa⟩, hs⟩ := hr
  replace hs := Same.of_bel hs
  replace hB := hB.tr0 hs
  replace hb3 := hb3.tr0 hs
  replace hb4 := hb4.tr0 hs
  replace hB0 := hB0.tr0 hs
  clear hs
  refine ⟨_, rfl, ?_⟩
  refine wl_cl fn12 (canap_any (hTab.mono hB) (hTp.mono hB0) (hFp.mono hB0) hGa) rfl (fun e' w5 hr => ?_)
  obtain ⟨⟨GW, rfl, hGW⟩, hs⟩ := hr
  replace hs := Same.of_bel hs
  replace hB := hB.tr0 hs
  replace hb3 := hb3.tr0 hs
  replace hb4 := hb4.tr0 hs
  replace hB0 := hB0.tr0 hs
  clear hs
  refine ⟨_, rfl, ?_⟩
  refine wl (r_mv (v := .tuple _) rfl) ?_
  refine wl (r_ex (v := .agg _) rfl rfl) ?_
  refine wl (r_ex (v := .agg _) rfl rfl) ?_
  refine wl_al (cs := #[.slice none 0 0]) ze28 rfl (fun b7 w6 hb7 hs hr => ?_)
  have or_b3_b7 : b3 < b7 := Nat.lt_of_lt_of_le hb3.lt hr
  have or_b4_b7 : b4 < b7 := Nat.lt_of_lt_of_le hb4.lt hr
  have lo7 := Nat.le_trans (Bel.size hB) hr
  have lo_hB0_b7 := Nat.le_trans (Bel.size hB0) hr
  replace hB := hB.tr0 hs
  replace hb3 := hb3.tr0 hs
  replace hb4 := hb4.tr0 hs
  replace hB0 := hB0.tr0 hs
  clear hs
  clear hr
  refine wl_al (cs := #[.int .i64 0, .int .i64 0]) ze30 rfl (fun b8 w7 hb8 hs hr => ?_)
  have or_b3_b8 : b3 < b8 := Nat.lt_of_lt_of_le hb3.lt hr
  have or_b4_b8 : b4 < b8 := Nat.lt_of_lt_of_le hb4.lt hr
  have or_b7_b8 : b7 < b8 := Nat.lt_of_lt_of_le hb7.lt hr
  have lo8 := Nat.le_trans (Bel.size hB) hr
  have lo_hB0_b8 := Nat.le_trans (Bel.size hB0) hr
  replace hB := hB.tr0 hs
  replace hb3 := hb3.tr0 hs
  replace hb4 := hb4.tr0 hs
  replace hB0 := hB0.tr0 hs
  replace hb7 := hb7.tr0 hs
  clear hs
  clear hr
  refine wl_stW hb7 rfl rfl sz28 rfl (by repeat (first | rfl | refine one_cons (by first | rfl | assumption) ?_)) (fun w8 hq hs => ?_)
  replace hB := hB.tr1 hs lo7
  replace hb3 := hb3.tr1 hs (by omega)
  replace hb4 := hb4.tr1 hs (by omega)
  replace hB0 := hB0.tr1 hs lo_hB0_b7
  replace hb8 := hb8.tr1 hs (by omega)
  clear hs
  replace hb7 := hq
  refine wl_stW hb8 rfl rfl sz30 rfl (by repeat (first | rfl | refine one_cons (by first | rfl | assumption) ?_)) (fun w9 hq hs => ?_)
  replace hB := hB.tr1 hs lo8
  replace hb3 := hb3.tr1 hs (by omega)
  replace hb4 := hb4.tr1 hs (by omega)
  replace hB0 := hB0.tr1 hs lo_hB0_b8
  replace hb7 := hb7.tr1 hs (by omega)
  clear hs
  replace hb8 := hq
  refine x_nil ?_
  refine e_S ?_
  refine c_seq ?_
  refine c_region ?_
  refine wl (r_fa Tryd.underlying28 sz26 (by decide) rfl rfl rfl) ?_
  refine wl (r_ld1 (v := .slice _ _ _) Tryd.underlying26 rfl rfl (hb7.cell rfl)) ?_
  refine wl (r_len Tryd.underlying26 rfl) ?_
  refine wl (r_neq rfl rfl) ?_
  refine x_nil ?_
  refine e_S ?_
  refine c_ifd rfl (fun c29 => ?_) (fun c29 => ?_)
  · exact absurd rfl c29
  · skip
    refine c_skip ?_
    refine e_S ?_
    refine c_seq ?_
    refine c_seq ?_
    refine c_region ?_
    refine wl (r_ldS Tryd.underlying25 rfl rfl hb3.range0 sz25) ?_
    refine wl (r_ldS Tryd.underlying28 rfl rfl hb4.range0 sz28) ?_
    refine wl_cl fn11 (gfau_any A B G c d cg l fs gr _ hcl hdl (hT.mono hB) (hF.mono hB) (hG.mono hB)) rfl (fun e' w10 hr => ?_)
    obtain ⟨rfl, hs⟩ := hr
    replace hs := Same.of_bel hs
    replace hB := hB.tr0 hs
    replace hb3 := hb3.tr0 hs
    replace hb4 := hb4.tr0 hs
    replace hB0 := hB0.tr0 hs
    replace hb7 := hb7.tr0 hs
    replace hb8 := hb8.tr0 hs
    clear hs
    refine ⟨_, rfl, ?_⟩
    refine wl (r_fd1 (v := .int _ _) Tryd.underlying30 rfl Tryd.underlying3 rfl rfl rfl) ?_
    refine wl (r_neq rfl rfl) ?_
    refine x_nil ?_
    refine e_S ?_
    refine c_ifd rfl (fun c34 => ?_) (fun c34 => ?_)
    · skip
      refine c_seq ?_
      refine c_region ?_
      refine wl (r_as (v := .bool _) rfl) ?_
      refine x_nil ?_
      refine e_S ?_
      refine c_ret ?_
      refine e_Sr ?_
      refine fin1 (.inl rfl) rfl rfl ?_
      exact ⟨rfl, hB⟩
    · have h0 := Decidable.not_not.1 c34
      have hgv := gv_of h0
      have hk := hgv.gok
      have hn6 := hk.le
      have hf40 := hgv.few
      obtain ⟨tn1, tn2, tn3⟩ := turn_nums (n := gr.length) kn
      refine c_skip ?_
      refine e_S ?_
      refine c_seq ?_
      refine c_region ?_
      refine wl (r_fa Tryd.underlying28 sz26 (by decide) rfl rfl rfl) ?_
      refine wl (r_ld1 (v := .slice _ _ _) Tryd.underlying26 rfl rfl (hb4.cell rfl)) ?_
      refine wl (r_len Tryd.underlying26 rfl) ?_
      refine wl (r_as (v := .int _ _) rfl) ?_
      refine x_nil ?_
      refine e_S ?_
      refine c_seq ?_
      refine c_region ?_
      refine wl (r_mv (v := .int _ _) rfl) ?_
      refine wl_mk (m := gr.length) Tryd.underlying26 in39 rfl rfl (by omega) (by omega) (fun b39 w11 hb39 hs hr => ?_)
      have or_b3_b39 : b3 < b39 := Nat.lt_of_lt_of_le hb3.lt hr
      have or_b4_b39 : b4 < b39 := Nat.lt_of_lt_of_le hb4.lt hr
      have or_b7_b39 : b7 < b39 := Nat.lt_of_lt_of_le hb7.lt hr
      have or_b8_b39 : b8 < b39 := Nat.lt_of_lt_of_le hb8.lt hr
      have lo39 := Nat.le_trans (Bel.size hB) hr
      have lo_hB0_b39 := Nat.le_trans (Bel.size hB0) hr
      replace hB := hB.tr0 hs
      replace hb3 := hb3.tr0 hs
      replace hb4 := hb4.tr0 hs
      replace hB0 := hB0.tr0 hs
      replace hb7 := hb7.tr0 hs
      replace hb8 := hb8.tr0 hs
      clear hs
      clear hr
      refine wl (r_bd1 (v0 := .slice _ _ _) (fun v0 => #[v0]) rfl (by kernel_rfl)) ?_
      refine wl_al (cs := #[.slice none 0 0]) ze28 rfl (fun b10 w12 hb10 hs hr => ?_)
      have or_b3_b10 : b3 < b10 := Nat.lt_of_lt_of_le hb3.lt hr
      have or_b4_b10 : b4 < b10 := Nat.lt_of_lt_of_le hb4.lt hr
      have or_b7_b10 : b7 < b10 := Nat.lt_of_lt_of_le hb7.lt hr
      have or_b8_b10 : b8 < b10 := Nat.lt_of_lt_of_le hb8.lt hr
      have or_b39_b10 : b39 < b10 := Nat.lt_of_lt_of_le hb39.lt hr
      have lo10 := Nat.le_trans (Bel.size hB) hr
      have lo_hB0_b10 := Nat.le_trans (Bel.size hB0) hr
      replace hB := hB.tr0 hs
      replace hb3 := hb3.tr0 hs
      replace hb4 := hb4.tr0 hs
      replace hB0 := hB0.tr0 hs
      replace hb7 := hb7.tr0 hs
      replace hb8 := hb8.tr0 hs
      replace hb39 := hb39.tr0 hs
      clear hs
      clear hr
      refine wl_stW hb10 rfl rfl sz28 rfl (by repeat (first | rfl | refine one_cons (by first | rfl | assumption) ?_)) (fun w13 hq hs => ?_)
      replace hB := hB.tr1 hs lo10
      replace hb3 := hb3.tr1 hs (by omega)
      replace hb4 := hb4.tr1 hs (by omega)
      replace hB0 := hB0.tr1 hs lo_hB0_b10
      replace hb7 := hb7.tr1 hs (by omega)
      replace hb8 := hb8.tr1 hs (by omega)
      replace hb39 := hb39.tr1 hs (by omega)
      clear hs
      replace hb10 := hq
      refine x_nil ?_
      refine e_S ?_
      refine c_seq ?_
      refine c_seq ?_
      replace hb39 : Blk w13 b39 39 (row2 gr.length (fun _ => .int .i64 0) (fun _ => .slice none 0 0)) := by
        have h := hb39
        rw [show (Value.agg #[.int .i64 0, .slice none 0 0]).cells = #[.int .i64 0, .slice none 0 0] from rfl, row2_made] at h
        exact h
      refine c_region ?_
      refine wl (r_fa Tryd.underlying28 sz26 (by decide) rfl rfl rfl) ?_
      refine wl (r_ld1 (v := .slice _ _ _) Tryd.underlying26 rfl rfl (hb4.cell rfl)) ?_
      refine wl (r_len Tryd.underlying26 rfl) ?_
      refine wl (r_mv (v := .int _ _) rfl) ?_
      refine x_nil ?_
      refine e_S ?_
      refine c_block ?_
      refine c_loopS [11, 12, 13, 15, 44, 45, 46, 47, 48, 49, 50, 51, 52, 53, 54, 55, 56, 57, 58, 59, 60, 61, 62, 63, 64, 65, 66, 67, 68, 69, 70, 71, 72, 73, 74, 75, 76, 77, 78, 79, 80, 81] (fun m g w' => ∃ (k : Nat) (V : Nat → Value), k ≤ gr.length ∧ m = gr.length - k ∧ g 44 = .int .i64 k ∧ Bel w w' ∧ Blk w' b3 25 #[.slice A l.length c, .slice B fs.length d] ∧ Blk w' b4 28 #[.slice G gr.length cg] ∧ Blk w' b10 28 #[.slice (some ⟨b39, 0, none⟩) gr.length gr.length] ∧ Blk w' b39 39 (row2 gr.length (fun x => if backN gr.length kn x < k then .int .i64 (nd gr (backN gr.length kn x)).ty else .int .i64 0) (fun x => if backN gr.length kn x < k then V (backN gr.length kn x) else .slice none 0 0)) ∧ (∀ x, x < k → RowO w' w.heap.size w'.heap.size (V x) (trN (turnN gr.length kn) (nd gr x)).ln)) (gr.length) ?_ (fun m g9 w14 hI => ?_)
      · refine ⟨0, fun _ => .slice none 0 0, Nat.zero_le _, rfl, rfl, hB, hb3, hb4, hb10, ?_, fun x hx => by omega⟩
        rw [row2_congr (f' := fun _ => .int .i64 0) (h' := fun _ => .slice none 0 0) (fun x _ => by simp) (fun x _ => by simp)]; exact hb39
      obtain ⟨k, V, hkk, hm, h44, hB, hb3, hb4, hb10, hb39, hrows⟩ := hI
      obtain ⟨bs, hbsz⟩ : ∃ b, b = w14.heap.size := ⟨_, rfl⟩
      rw [← hbsz] at hrows
      have hbz : bs ≤ w14.heap.size := Nat.le_of_eq hbsz
      have lu3 : b3 < bs := by rw [hbsz]; exact hb3.lt
      have lu4 : b4 < bs := by rw [hbsz]; exact hb4.lt
      have lu10 : b10 < bs := by rw [hbsz]; exact hb10.lt
      have lu39 : b39 < bs := by rw [hbsz]; exact hb39.lt
      refine c_know 44 (.int .i64 k) h44 (by simp [undef]) ?_
      refine c_seq ?_
      refine c_region ?_
      refine wl (r_lss rfl rfl) ?_
      refine x_nil ?_
      refine e_S ?_
      refine c_seq ?_
      refine c_ifd rfl (fun c45 => ?_) (fun c45 => ?_)
      · have hlt : k < gr.length := by omega
        have hnd := nd_eq hlt
        obtain ⟨nb, no, LA, lc, rfl, hnb, hnr, hln⟩ := hG.at_ (Below.refl _ _ : Bel w w) hlt
        have hmx := hln.1
        unfold maxI at hmx
        have hfw := hk.few k hlt
        have tk := tn1 k hlt
        refine c_skip ?_
        refine e_S ?_
        refine c_seq ?_
        refine c_block ?_
        refine c_seq ?_
        refine c_region ?_
        refine wl (r_mv (v := .int _ _) rfl) ?_
        refine wl (r_ia (i := k) Tryd.underlying26 sz39 rfl rfl (by omega) rfl) ?_
        refine wl (r_ldS Tryd.underlying39 rfl rfl (hB.range hnb hnr) sz39) ?_
        refine wl_al (cs := #[.int .i64 0, .slice none 0 0]) ze39 rfl (fun b12 w15 hb12 hs hr => ?_)
        have or_b3_b12 : b3 < b12 := Nat.lt_of_lt_of_le hb3.lt hr
        have or_b4_b12 : b4 < b12 := Nat.lt_of_lt_of_le hb4.lt hr
        have or_b39_b12 : b39 < b12 := Nat.lt_of_lt_of_le hb39.lt hr
        have or_b10_b12 : b10 < b12 := Nat.lt_of_lt_of_le hb10.lt hr
        have or_hbz_b12 := (Nat.le_trans hbz hr)
        have lo12 := Nat.le_trans (Bel.size hB) hr
        replace hB := hB.tr0 hs
        replace hb3 := hb3.tr0 hs
        replace hb4 := hb4.tr0 hs
        replace hb39 := hb39.tr0 hs
        replace hb10 := hb10.tr0 hs
        replace hrows := fun x hx => (hrows x hx).tr hs (by simp)
        replace hbz := Nat.le_trans hbz (Same.size hs)
        clear hs
        clear hr
        refine wl (r_as (v := .int _ _) rfl) ?_
        refine wl_stW hb12 rfl rfl sz39 rfl (by repeat (first | rfl | refine one_cons (by first | rfl | assumption) ?_)) (fun w16 hq hs => ?_)
        replace hB := hB.tr1 hs lo12
        replace hb3 := hb3.tr1 hs (by omega)
        replace hb4 := hb4.tr1 hs (by omega)
        replace hb39 := hb39.tr1 hs (by omega)
        replace hb10 := hb10.tr1 hs (by omega)
        replace hrows := fun x hx => (hrows x hx).tr hs (fun g hg => by rw [List.mem_singleton.1 hg]; first | exact .inr ⟨_, _, hb12, by decide⟩ | exact .inl (by omega))
        replace hbz := Nat.le_trans hbz (Same.size hs)
        clear hs
        replace hb12 := hq
        refine x_nil ?_
        refine e_S ?_
        refine c_seq ?_
        refine c_region ?_
        refine wl (r_fa Tryd.underlying39 sz3 (by decide) rfl rfl rfl) ?_
        refine wl (r_ld1 (v := .int _ _) Tryd.underlying3 rfl rfl (hb12.cell rfl)) ?_
        refine wl (r_bd1 (v0 := .int _ _) (fun v0 => #[v0, .slice none 0 0]) rfl (by kernel_rfl)) ?_
        refine wl_al (cs := #[.int .i64 0, .slice none 0 0]) ze39 rfl (fun b13 w17 hb13 hs hr => ?_)
        have or_b3_b13 : b3 < b13 := Nat.lt_of_lt_of_le hb3.lt hr
        have or_b4_b13 : b4 < b13 := Nat.lt_of_lt_of_le hb4.lt hr
        have or_b39_b13 : b39 < b13 := Nat.lt_of_lt_of_le hb39.lt hr
        have or_b10_b13 : b10 < b13 := Nat.lt_of_lt_of_le hb10.lt hr
        have or_hbz_b13 := (Nat.le_trans hbz hr)
        have or_b12_b13 : b12 < b13 := Nat.lt_of_lt_of_le hb12.lt hr
        have lo13 := Nat.le_trans (Bel.size hB) hr
        replace hB := hB.tr0 hs
        replace hb3 := hb3.tr0 hs
        replace hb4 := hb4.tr0 hs
        replace hb39 := hb39.tr0 hs
        replace hb10 := hb10.tr0 hs
        replace hrows := fun x hx => (hrows x hx).tr hs (by simp)
        replace hbz := Nat.le_trans hbz (Same.size hs)
        replace hb12 := hb12.tr0 hs
        clear hs
        clear hr
        refine wl_stW hb13 rfl rfl sz39 rfl (by repeat (first | rfl | refine one_cons (by first | rfl | assumption) ?_)) (fun w18 hq hs => ?_)
        replace hB := hB.tr1 hs lo13
        replace hb3 := hb3.tr1 hs (by omega)
        replace hb4 := hb4.tr1 hs (by omega)
        replace hb39 := hb39.tr1 hs (by omega)
        replace hb10 := hb10.tr1 hs (by omega)
        replace hrows := fun x hx => (hrows x hx).tr hs (fun g hg => by rw [List.mem_singleton.1 hg]; first | exact .inr ⟨_, _, hb13, by decide⟩ | exact .inl (by omega))
        replace hbz := Nat.le_trans hbz (Same.size hs)
        replace hb12 := hb12.tr1 hs (by omega)
        clear hs
        replace hb13 := hq
        refine x_nil ?_
        refine e_S ?_
        refine c_seq ?_
        refine c_seq ?_
        have lb13 : bs ≤ b13 := or_hbz_b13
        have hlb5 : w.heap.size ≤ b13 + 1 := Nat.le_succ_of_le lo13
        refine c_region ?_
        refine wl (r_fa Tryd.underlying39 sz37 (by decide) rfl rfl rfl) ?_
        refine wl (r_ld1 (v := .slice _ _ _) Tryd.underlying37 rfl rfl (hb12.cell rfl)) ?_
        refine wl (r_len Tryd.underlying37 rfl) ?_
        refine wl (r_mv (v := .int _ _) rfl) ?_
        refine x_nil ?_
        refine e_S ?_
        refine c_block ?_
        refine c_loopS [15, 55, 56, 57, 58, 59, 60, 61, 62, 63, 64, 65, 66, 67, 68, 69, 70, 71, 72] (fun m g w' => ∃ (j : Nat) (A5 : Option Addr) (cap5 : Nat), j ≤ (gr[k]'hlt).ln.length ∧ m = (gr[k]'hlt).ln.length - j ∧ g 55 = .int .i64 j ∧ Bel w w' ∧ Blk w' b3 25 #[.slice A l.length c, .slice B fs.length d] ∧ Blk w' b4 28 #[.slice (some ⟨nb, no, none⟩) gr.length cg] ∧ Blk w' b10 28 #[.slice (some ⟨b39, 0, none⟩) gr.length gr.length] ∧ Blk w' b39 39 (row2 gr.length (fun x => if backN gr.length kn x < k then .int .i64 (nd gr (backN gr.length kn x)).ty else .int .i64 0) (fun x => if backN gr.length kn x < k then V (backN gr.length kn x) else .slice none 0 0)) ∧ Blk w' b13 39 #[.int .i64 (gr[k]'hlt).ty, .slice A5 j cap5] ∧ (∀ x, x < k → RowO w' w.heap.size bs (V x) (trN (turnN gr.length kn) (nd gr x)).ln) ∧ bs ≤ w'.heap.size ∧ Own w' (b13 + 1) 41 2 A5 j cap5 (lnV (((gr[k]'hlt).ln.take j).map (fun (y : Int × Int) => (y.1, ((turnN gr.length kn y.2.toNat : Nat) : Int)))))) ((gr[k]'hlt).ln.length) ?_ (fun m g13 w19 hI => ?_)
        · exact ⟨0, none, 0, Nat.zero_le _, rfl, rfl, hB, hb3, hb4, hb10, hb39, hb13, hrows, hbz, Own.nil _ _ _ _⟩
        obtain ⟨j, A5, cap5, hj, hmj, h55, hB, hb3, hb4, hb10, hb39, hb13, hrows, hbz, ho5⟩ := hI
        refine c_know 55 (.int .i64 j) h55 (by simp [undef]) ?_
        refine c_seq ?_
        refine c_region ?_
        refine wl (r_lss rfl rfl) ?_
        refine x_nil ?_
        refine e_S ?_
        refine c_seq ?_
        refine c_ifd rfl (fun c56 => ?_) (fun c56 => ?_)
        · have hjl : j < (gr[k]'hlt).ln.length := by omega
          obtain ⟨lb, lof, rfl, hlb, hlr⟩ := hln.at_ hB hjl
          obtain ⟨t, ht, htl⟩ : ∃ t : Nat, ((gr[k]'hlt).ln[j]'hjl).2 = (t : Int) ∧ t < gr.length := by
            have h1 := hk.ln k hlt _ (List.getElem_mem hjl)
            exact ⟨(((gr[k]'hlt).ln[j]'hjl).2).toNat, by omega, by omega⟩
          refine c_skip ?_
          refine e_S ?_
          refine c_seq ?_
          refine c_block ?_
          refine c_seq ?_
          refine c_region ?_
          refine wl (r_ia (i := j) Tryd.underlying37 sz41 rfl rfl (by omega) rfl) ?_
          refine wl (r_ldS Tryd.underlying41 rfl rfl hlr sz41) ?_
          refine wl_al (cs := #[.int .i64 0, .int .i64 0]) ze41 rfl (fun b15 w20 hb15 hs hr => ?_)
          have or_b3_b15 : b3 < b15 := Nat.lt_of_lt_of_le hb3.lt hr
          have or_b4_b15 : b4 < b15 := Nat.lt_of_lt_of_le hb4.lt hr
          have or_b39_b15 : b39 < b15 := Nat.lt_of_lt_of_le hb39.lt hr
          have or_b10_b15 : b10 < b15 := Nat.lt_of_lt_of_le hb10.lt hr
          have or_hbz_b15 := (Nat.le_trans hbz hr)
          have or_b13_b15 : b13 < b15 := Nat.lt_of_lt_of_le hb13.lt hr
          have or_ho5_b15 := fun g hg => Nat.lt_of_lt_of_le (ho5.lt g hg).2 hr
          have lo15 := Nat.le_trans (Bel.size hB) hr
          replace hB := hB.tr0 hs
          replace hb3 := hb3.tr0 hs
          replace hb4 := hb4.tr0 hs
          replace hb39 := hb39.tr0 hs
          replace hb10 := hb10.tr0 hs
          replace hrows := fun x hx => (hrows x hx).tr hs (by simp)
          replace hbz := Nat.le_trans hbz (Same.size hs)
          replace hb13 := hb13.tr0 hs
          replace ho5 := ho5.tr0 hs
          clear hs
          clear hr
          refine wl_stW hb15 rfl rfl sz41 rfl (by repeat (first | rfl | refine one_cons (by first | rfl | assumption) ?_)) (fun w21 hq hs => ?_)
          replace hB := hB.tr1 hs lo15
          replace hb3 := hb3.tr1 hs (by omega)
          replace hb4 := hb4.tr1 hs (by omega)
          replace hb39 := hb39.tr1 hs (by omega)
          replace hb10 := hb10.tr1 hs (by omega)
          replace hrows := fun x hx => (hrows x hx).tr hs (fun g hg => by rw [List.mem_singleton.1 hg]; first | exact .inr ⟨_, _, hb15, by decide⟩ | exact .inl (by omega))
          replace hbz := Nat.le_trans hbz (Same.size hs)
          replace hb13 := hb13.tr1 hs (by omega)
          replace ho5 := ho5.tr1 hs (fun g hg => by have := (ho5.lt g hg).1; (try have := or_ho5_b15 g hg); (try simp only [aL] at hg); (try simp only [List.mem_singleton] at hg); omega)
          clear hs
          replace hb15 := hq
          refine x_nil ?_
          refine e_S ?_
          rw [ht] at hb15
          have zo := fun g hg => (ho5.lt g hg).2
          have hsz := Bel.size hB
          refine c_monoSO 13 [59, 60, 61, 62, 63, 64, 65, 66, 67, 68, 69, 70, 71] (aL A5) 11 (fun ix v wv => match ix with | 0 => v = .pointer (some ⟨b13, 1, none⟩) | 1 => v = .slice A5 j cap5 | 2 => v = .pointer (some ⟨b15, 0, none⟩) | 3 => v = .int .i64 ((gr[k]'hlt).ln[j]'hjl).1 | 4 => v = .pointer (some ⟨b15, 1, none⟩) | 5 => v = .int .i64 (t : Nat) | 6 => v = .int .i64 gr.length | 7 => v = .int .i64 kn | 8 => v = .int .i64 (turnN gr.length kn t : Nat) | 9 => v = .agg #[.int .i64 ((gr[k]'hlt).ln[j]'hjl).1, .int .i64 (turnN gr.length kn t : Nat)] | 10 => ∃ b, v = .slice (some ⟨b, 0, none⟩) 1 1 ∧ w21.heap.size ≤ b ∧ Blk wv b 41 #[.int .i64 ((gr[k]'hlt).ln[j]'hjl).1, .int .i64 (turnN gr.length kn t : Nat)] | 11 => ∃ g cap, v = .slice (some ⟨g, 0, none⟩) (j + 1) cap ∧ Own wv (b13 + 1) 41 2 (some ⟨g, 0, none⟩) (j + 1) cap (lnV (((gr[k]'hlt).ln.take j).map (fun (y : Int × Int) => (y.1, ((turnN gr.length kn y.2.toNat : Nat) : Int)))) ++ [.int .i64 ((gr[k]'hlt).ln[j]'hjl).1, .int .i64 (turnN gr.length kn t : Nat)]) | 12 => v = .pointer (some ⟨b13, 1, none⟩) | _ => True) (fun _ => True) (by kernel_rfl) (by kernel_rfl) ?_ (fun _ _ _ _ => trivial) ?_ ?_ (by decide) ?_
          · intro ix v wv wv2 h hs
            match ix, h with
            | 0, h => exact h
            | 1, h => exact h
            | 2, h => exact h
            | 3, h => exact h
            | 4, h => exact h
            | 5, h => exact h
            | 6, h => exact h
            | 7, h => exact h
            | 8, h => exact h
            | 9, h => exact h
            | 10, h =>
              obtain ⟨b69, e69, lo69, hb69⟩ := (show ∃ b, v = .slice (some ⟨b, 0, none⟩) 1 1 ∧ w21.heap.size ≤ b ∧ Blk wv b 41 #[.int .i64 ((gr[k]'hlt).ln[j]'hjl).1, .int .i64 (turnN gr.length kn t : Nat)] from h)
              exact ⟨b69, e69, lo69, hb69.tr0 hs⟩
            | 11, h =>
              obtain ⟨g70, cap70, e70, ho70⟩ := (show ∃ g cap, v = .slice (some ⟨g, 0, none⟩) (j + 1) cap ∧ Own wv (b13 + 1) 41 2 (some ⟨g, 0, none⟩) (j + 1) cap (lnV (((gr[k]'hlt).ln.take j).map (fun (y : Int × Int) => (y.1, ((turnN gr.length kn y.2.toNat : Nat) : Int)))) ++ [.int .i64 ((gr[k]'hlt).ln[j]'hjl).1, .int .i64 (turnN gr.length kn t : Nat)]) from h)
              exact ⟨g70, cap70, e70, ho70.tr0 hs⟩
            | 12, h => exact h
            | _ + 13, h => exact trivial
          · intro ix o hix hne hoq gg wx hs hd
            match ix, hix, hne, hoq with
            | 0, _, _, hoq =>
              obtain rfl : _ = o := Option.some.inj hoq
              have hs0 := hs
              replace hB := hB.tr hs (fun g hg => Nat.le_trans hlb5 (ho5.lt g hg).1)
              replace hb3 := hb3.tr hs (fun hx => by have := (ho5.lt _ hx).1; (try have := or_ho5_b3 _ hx); omega)
              replace hb4 := hb4.tr hs (fun hx => by have := (ho5.lt _ hx).1; (try have := or_ho5_b4 _ hx); omega)
              replace hb39 := hb39.tr hs (fun hx => by have := (ho5.lt _ hx).1; (try have := or_ho5_b39 _ hx); omega)
              replace hb10 := hb10.tr hs (fun hx => by have := (ho5.lt _ hx).1; (try have := or_ho5_b10 _ hx); omega)
              replace hrows := fun x hx => (hrows x hx).tr hs (fun g hg => by first | exact .inl (by have := ((ho5).lt g hg).1; omega) | (obtain ⟨cs, h⟩ := (ho5).typ g hg; exact .inr ⟨_, _, h, by decide⟩))
              replace hbz := Nat.le_trans hbz (Same.size hs)
              replace hb13 := hb13.tr hs (fun hx => by have := (ho5.lt _ hx).1; (try have := or_ho5_b13 _ hx); omega)
              replace hb15 := hb15.tr hs (fun hx => by have := (ho5.lt _ hx).1; (try have := or_ho5_b15 _ hx); omega)
              refine os_rv (r_fa Tryd.underlying39 sz37 (by decide) rfl rfl rfl) ⟨Same.refl _ _, ?_⟩
              exact rfl
            | 1, _, _, hoq =>
              obtain rfl : _ = o := Option.some.inj hoq
              have hs0 := hs
              replace hB := hB.tr hs (fun g hg => Nat.le_trans hlb5 (ho5.lt g hg).1)
              replace hb3 := hb3.tr hs (fun hx => by have := (ho5.lt _ hx).1; (try have := or_ho5_b3 _ hx); omega)
              replace hb4 := hb4.tr hs (fun hx => by have := (ho5.lt _ hx).1; (try have := or_ho5_b4 _ hx); omega)
              replace hb39 := hb39.tr hs (fun hx => by have := (ho5.lt _ hx).1; (try have := or_ho5_b39 _ hx); omega)
              replace hb10 := hb10.tr hs (fun hx => by have := (ho5.lt _ hx).1; (try have := or_ho5_b10 _ hx); omega)
              replace hrows := fun x hx => (hrows x hx).tr hs (fun g hg => by first | exact .inl (by have := ((ho5).lt g hg).1; omega) | (obtain ⟨cs, h⟩ := (ho5).typ g hg; exact .inr ⟨_, _, h, by decide⟩))
              replace hbz := Nat.le_trans hbz (Same.size hs)
              replace hb13 := hb13.tr hs (fun hx => by have := (ho5.lt _ hx).1; (try have := or_ho5_b13 _ hx); omega)
              replace hb15 := hb15.tr hs (fun hx => by have := (ho5.lt _ hx).1; (try have := or_ho5_b15 _ hx); omega)
              have d0 : gg 59 = .pointer (some ⟨b13, 1, none⟩) := hd 0 (dep_of (by kernel_rfl))
              have e59 := d0
              refine os_know 59 (.pointer (some ⟨b13, 1, none⟩)) e59 (by simp [undef]) ?_
              refine os_rv (r_ld1 (v := .slice _ _ _) Tryd.underlying37 rfl rfl (hb13.cell rfl)) ⟨Same.refl _ _, ?_⟩
              exact rfl
            | 2, _, _, hoq =>
              obtain rfl : _ = o := Option.some.inj hoq
              have hs0 := hs
              replace hB := hB.tr hs (fun g hg => Nat.le_trans hlb5 (ho5.lt g hg).1)
              replace hb3 := hb3.tr hs (fun hx => by have := (ho5.lt _ hx).1; (try have := or_ho5_b3 _ hx); omega)
              replace hb4 := hb4.tr hs (fun hx => by have := (ho5.lt _ hx).1; (try have := or_ho5_b4 _ hx); omega)
              replace hb39 := hb39.tr hs (fun hx => by have := (ho5.lt _ hx).1; (try have := or_ho5_b39 _ hx); omega)
              replace hb10 := hb10.tr hs (fun hx => by have := (ho5.lt _ hx).1; (try have := or_ho5_b10 _ hx); omega)
              replace hrows := fun x hx => (hrows x hx).tr hs (fun g hg => by first | exact .inl (by have := ((ho5).lt g hg).1; omega) | (obtain ⟨cs, h⟩ := (ho5).typ g hg; exact .inr ⟨_, _, h, by decide⟩))
              replace hbz := Nat.le_trans hbz (Same.size hs)
              replace hb13 := hb13.tr hs (fun hx => by have := (ho5.lt _ hx).1; (try have := or_ho5_b13 _ hx); omega)
              replace hb15 := hb15.tr hs (fun hx => by have := (ho5.lt _ hx).1; (try have := or_ho5_b15 _ hx); omega)
              refine os_rv (r_fa Tryd.underlying41 sz3 (by decide) rfl rfl rfl) ⟨Same.refl _ _, ?_⟩
              exact rfl
            | 3, _, _, hoq =>
              obtain rfl : _ = o := Option.some.inj hoq
              have hs0 := hs
              replace hB := hB.tr hs (fun g hg => Nat.le_trans hlb5 (ho5.lt g hg).1)
              replace hb3 := hb3.tr hs (fun hx => by have := (ho5.lt _ hx).1; (try have := or_ho5_b3 _ hx); omega)
              replace hb4 := hb4.tr hs (fun hx => by have := (ho5.lt _ hx).1; (try have := or_ho5_b4 _ hx); omega)
              replace hb39 := hb39.tr hs (fun hx => by have := (ho5.lt _ hx).1; (try have := or_ho5_b39 _ hx); omega)
              replace hb10 := hb10.tr hs (fun hx => by have := (ho5.lt _ hx).1; (try have := or_ho5_b10 _ hx); omega)
              replace hrows := fun x hx => (hrows x hx).tr hs (fun g hg => by first | exact .inl (by have := ((ho5).lt g hg).1; omega) | (obtain ⟨cs, h⟩ := (ho5).typ g hg; exact .inr ⟨_, _, h, by decide⟩))
              replace hbz := Nat.le_trans hbz (Same.size hs)
              replace hb13 := hb13.tr hs (fun hx => by have := (ho5.lt _ hx).1; (try have := or_ho5_b13 _ hx); omega)
              replace hb15 := hb15.tr hs (fun hx => by have := (ho5.lt _ hx).1; (try have := or_ho5_b15 _ hx); omega)
              have d2 : gg 61 = .pointer (some ⟨b15, 0, none⟩) := hd 2 (dep_of (by kernel_rfl))
              have e61 := d2
              refine os_know 61 (.pointer (some ⟨b15, 0, none⟩)) e61 (by simp [undef]) ?_
              refine os_rv (r_ld1 (v := .int _ _) Tryd.underlying3 rfl rfl (hb15.cell rfl)) ⟨Same.refl _ _, ?_⟩
              exact rfl
            | 4, _, _, hoq =>
              obtain rfl : _ = o := Option.some.inj hoq
              have hs0 := hs
              replace hB := hB.tr hs (fun g hg => Nat.le_trans hlb5 (ho5.lt g hg).1)
              replace hb3 := hb3.tr hs (fun hx => by have := (ho5.lt _ hx).1; (try have := or_ho5_b3 _ hx); omega)
              replace hb4 := hb4.tr hs (fun hx => by have := (ho5.lt _ hx).1; (try have := or_ho5_b4 _ hx); omega)
              replace hb39 := hb39.tr hs (fun hx => by have := (ho5.lt _ hx).1; (try have := or_ho5_b39 _ hx); omega)
              replace hb10 := hb10.tr hs (fun hx => by have := (ho5.lt _ hx).1; (try have := or_ho5_b10 _ hx); omega)
              replace hrows := fun x hx => (hrows x hx).tr hs (fun g hg => by first | exact .inl (by have := ((ho5).lt g hg).1; omega) | (obtain ⟨cs, h⟩ := (ho5).typ g hg; exact .inr ⟨_, _, h, by decide⟩))
              replace hbz := Nat.le_trans hbz (Same.size hs)
              replace hb13 := hb13.tr hs (fun hx => by have := (ho5.lt _ hx).1; (try have := or_ho5_b13 _ hx); omega)
              replace hb15 := hb15.tr hs (fun hx => by have := (ho5.lt _ hx).1; (try have := or_ho5_b15 _ hx); omega)
              refine os_rv (r_fa Tryd.underlying41 sz3 (by decide) rfl rfl rfl) ⟨Same.refl _ _, ?_⟩
              exact rfl
            | 5, _, _, hoq =>
              obtain rfl : _ = o := Option.some.inj hoq
              have hs0 := hs
              replace hB := hB.tr hs (fun g hg => Nat.le_trans hlb5 (ho5.lt g hg).1)
              replace hb3 := hb3.tr hs (fun hx => by have := (ho5.lt _ hx).1; (try have := or_ho5_b3 _ hx); omega)
              replace hb4 := hb4.tr hs (fun hx => by have := (ho5.lt _ hx).1; (try have := or_ho5_b4 _ hx); omega)
              replace hb39 := hb39.tr hs (fun hx => by have := (ho5.lt _ hx).1; (try have := or_ho5_b39 _ hx); omega)
              replace hb10 := hb10.tr hs (fun hx => by have := (ho5.lt _ hx).1; (try have := or_ho5_b10 _ hx); omega)
              replace hrows := fun x hx => (hrows x hx).tr hs (fun g hg => by first | exact .inl (by have := ((ho5).lt g hg).1; omega) | (obtain ⟨cs, h⟩ := (ho5).typ g hg; exact .inr ⟨_, _, h, by decide⟩))
              replace hbz := Nat.le_trans hbz (Same.size hs)
              replace hb13 := hb13.tr hs (fun hx => by have := (ho5.lt _ hx).1; (try have := or_ho5_b13 _ hx); omega)
              replace hb15 := hb15.tr hs (fun hx => by have := (ho5.lt _ hx).1; (try have := or_ho5_b15 _ hx); omega)
              have d4 : gg 63 = .pointer (some ⟨b15, 1, none⟩) := hd 4 (dep_of (by kernel_rfl))
              have e63 := d4
              refine os_know 63 (.pointer (some ⟨b15, 1, none⟩)) e63 (by simp [undef]) ?_
              refine os_rv (r_ld1 (v := .int _ _) Tryd.underlying3 rfl rfl (hb15.cell rfl)) ⟨Same.refl _ _, ?_⟩
              exact rfl
            | 6, _, _, hoq =>
              obtain rfl : _ = o := Option.some.inj hoq
              have hs0 := hs
              replace hB := hB.tr hs (fun g hg => Nat.le_trans hlb5 (ho5.lt g hg).1)
              replace hb3 := hb3.tr hs (fun hx => by have := (ho5.lt _ hx).1; (try have := or_ho5_b3 _ hx); omega)
              replace hb4 := hb4.tr hs (fun hx => by have := (ho5.lt _ hx).1; (try have := or_ho5_b4 _ hx); omega)
              replace hb39 := hb39.tr hs (fun hx => by have := (ho5.lt _ hx).1; (try have := or_ho5_b39 _ hx); omega)
              replace hb10 := hb10.tr hs (fun hx => by have := (ho5.lt _ hx).1; (try have := or_ho5_b10 _ hx); omega)
              replace hrows := fun x hx => (hrows x hx).tr hs (fun g hg => by first | exact .inl (by have := ((ho5).lt g hg).1; omega) | (obtain ⟨cs, h⟩ := (ho5).typ g hg; exact .inr ⟨_, _, h, by decide⟩))
              replace hbz := Nat.le_trans hbz (Same.size hs)
              replace hb13 := hb13.tr hs (fun hx => by have := (ho5.lt _ hx).1; (try have := or_ho5_b13 _ hx); omega)
              replace hb15 := hb15.tr hs (fun hx => by have := (ho5.lt _ hx).1; (try have := or_ho5_b15 _ hx); omega)
              refine os_rv (r_mv (v := .int _ _) rfl) ⟨Same.refl _ _, ?_⟩
              exact rfl
            | 7, _, _, hoq =>
              obtain rfl : _ = o := Option.some.inj hoq
              have hs0 := hs
              replace hB := hB.tr hs (fun g hg => Nat.le_trans hlb5 (ho5.lt g hg).1)
              replace hb3 := hb3.tr hs (fun hx => by have := (ho5.lt _ hx).1; (try have := or_ho5_b3 _ hx); omega)
              replace hb4 := hb4.tr hs (fun hx => by have := (ho5.lt _ hx).1; (try have := or_ho5_b4 _ hx); omega)
              replace hb39 := hb39.tr hs (fun hx => by have := (ho5.lt _ hx).1; (try have := or_ho5_b39 _ hx); omega)
              replace hb10 := hb10.tr hs (fun hx => by have := (ho5.lt _ hx).1; (try have := or_ho5_b10 _ hx); omega)
              replace hrows := fun x hx => (hrows x hx).tr hs (fun g hg => by first | exact .inl (by have := ((ho5).lt g hg).1; omega) | (obtain ⟨cs, h⟩ := (ho5).typ g hg; exact .inr ⟨_, _, h, by decide⟩))
              replace hbz := Nat.le_trans hbz (Same.size hs)
              replace hb13 := hb13.tr hs (fun hx => by have := (ho5.lt _ hx).1; (try have := or_ho5_b13 _ hx); omega)
              replace hb15 := hb15.tr hs (fun hx => by have := (ho5.lt _ hx).1; (try have := or_ho5_b15 _ hx); omega)
              refine os_rv (r_mv (v := .int _ _) rfl) ⟨Same.refl _ _, ?_⟩
              exact rfl
            | 8, _, _, hoq =>
              obtain rfl : _ = o := Option.some.inj hoq
              have hs0 := hs
              replace hB := hB.tr hs (fun g hg => Nat.le_trans hlb5 (ho5.lt g hg).1)
              replace hb3 := hb3.tr hs (fun hx => by have := (ho5.lt _ hx).1; (try have := or_ho5_b3 _ hx); omega)
              replace hb4 := hb4.tr hs (fun hx => by have := (ho5.lt _ hx).1; (try have := or_ho5_b4 _ hx); omega)
              replace hb39 := hb39.tr hs (fun hx => by have := (ho5.lt _ hx).1; (try have := or_ho5_b39 _ hx); omega)
              replace hb10 := hb10.tr hs (fun hx => by have := (ho5.lt _ hx).1; (try have := or_ho5_b10 _ hx); omega)
              replace hrows := fun x hx => (hrows x hx).tr hs (fun g hg => by first | exact .inl (by have := ((ho5).lt g hg).1; omega) | (obtain ⟨cs, h⟩ := (ho5).typ g hg; exact .inr ⟨_, _, h, by decide⟩))
              replace hbz := Nat.le_trans hbz (Same.size hs)
              replace hb13 := hb13.tr hs (fun hx => by have := (ho5.lt _ hx).1; (try have := or_ho5_b13 _ hx); omega)
              replace hb15 := hb15.tr hs (fun hx => by have := (ho5.lt _ hx).1; (try have := or_ho5_b15 _ hx); omega)
              have d5 : gg 64 = .int .i64 (t : Nat) := hd 5 (dep_of (by kernel_rfl))
              have e64 := d5
              have d6 : gg 65 = .int .i64 gr.length := hd 6 (dep_of (by kernel_rfl))
              have e65 := d6
              have d7 : gg 66 = .int .i64 kn := hd 7 (dep_of (by kernel_rfl))
              have e66 := d7
              refine os_know 64 (.int .i64 (t : Nat)) e64 (by simp [undef]) ?_
              refine os_know 65 (.int .i64 gr.length) e65 (by simp [undef]) ?_
              refine os_know 66 (.int .i64 kn) e66 (by simp [undef]) ?_
              refine os_cl fn14 (turned_any t gr.length kn wx hkn htl hn6) rfl (fun e' w2 hr => ?_)
              obtain ⟨rfl, hs⟩ := hr
              exact ⟨_, rfl, Same.of_bel hs, rfl⟩
            | 9, _, _, hoq =>
              obtain rfl : _ = o := Option.some.inj hoq
              have hs0 := hs
              replace hB := hB.tr hs (fun g hg => Nat.le_trans hlb5 (ho5.lt g hg).1)
              replace hb3 := hb3.tr hs (fun hx => by have := (ho5.lt _ hx).1; (try have := or_ho5_b3 _ hx); omega)
              replace hb4 := hb4.tr hs (fun hx => by have := (ho5.lt _ hx).1; (try have := or_ho5_b4 _ hx); omega)
              replace hb39 := hb39.tr hs (fun hx => by have := (ho5.lt _ hx).1; (try have := or_ho5_b39 _ hx); omega)
              replace hb10 := hb10.tr hs (fun hx => by have := (ho5.lt _ hx).1; (try have := or_ho5_b10 _ hx); omega)
              replace hrows := fun x hx => (hrows x hx).tr hs (fun g hg => by first | exact .inl (by have := ((ho5).lt g hg).1; omega) | (obtain ⟨cs, h⟩ := (ho5).typ g hg; exact .inr ⟨_, _, h, by decide⟩))
              replace hbz := Nat.le_trans hbz (Same.size hs)
              replace hb13 := hb13.tr hs (fun hx => by have := (ho5.lt _ hx).1; (try have := or_ho5_b13 _ hx); omega)
              replace hb15 := hb15.tr hs (fun hx => by have := (ho5.lt _ hx).1; (try have := or_ho5_b15 _ hx); omega)
              have d3 : gg 62 = .int .i64 ((gr[k]'hlt).ln[j]'hjl).1 := hd 3 (dep_of (by kernel_rfl))
              have e62 := d3
              have d8 : gg 67 = .int .i64 (turnN gr.length kn t : Nat) := hd 8 (dep_of (by kernel_rfl))
              have e67 := d8
              refine os_know 62 (.int .i64 ((gr[k]'hlt).ln[j]'hjl).1) e62 (by simp [undef]) ?_
              refine os_know 67 (.int .i64 (turnN gr.length kn t : Nat)) e67 (by simp [undef]) ?_
              refine os_rv (r_bd2 (v0 := .int _ _) (v1 := .int _ _) (fun v0 v1 => #[v0, v1]) rfl rfl (by kernel_rfl)) ⟨Same.refl _ _, ?_⟩
              exact rfl
            | 10, _, _, hoq =>
              obtain rfl : _ = o := Option.some.inj hoq
              have hs0 := hs
              replace hB := hB.tr hs (fun g hg => Nat.le_trans hlb5 (ho5.lt g hg).1)
              replace hb3 := hb3.tr hs (fun hx => by have := (ho5.lt _ hx).1; (try have := or_ho5_b3 _ hx); omega)
              replace hb4 := hb4.tr hs (fun hx => by have := (ho5.lt _ hx).1; (try have := or_ho5_b4 _ hx); omega)
              replace hb39 := hb39.tr hs (fun hx => by have := (ho5.lt _ hx).1; (try have := or_ho5_b39 _ hx); omega)
              replace hb10 := hb10.tr hs (fun hx => by have := (ho5.lt _ hx).1; (try have := or_ho5_b10 _ hx); omega)
              replace hrows := fun x hx => (hrows x hx).tr hs (fun g hg => by first | exact .inl (by have := ((ho5).lt g hg).1; omega) | (obtain ⟨cs, h⟩ := (ho5).typ g hg; exact .inr ⟨_, _, h, by decide⟩))
              replace hbz := Nat.le_trans hbz (Same.size hs)
              replace hb13 := hb13.tr hs (fun hx => by have := (ho5.lt _ hx).1; (try have := or_ho5_b13 _ hx); omega)
              replace hb15 := hb15.tr hs (fun hx => by have := (ho5.lt _ hx).1; (try have := or_ho5_b15 _ hx); omega)
              have d9 : gg 68 = .agg #[.int .i64 ((gr[k]'hlt).ln[j]'hjl).1, .int .i64 (turnN gr.length kn t : Nat)] := hd 9 (dep_of (by kernel_rfl))
              have e68 := d9
              refine os_know 68 (.agg #[.int .i64 ((gr[k]'hlt).ln[j]'hjl).1, .int .i64 (turnN gr.length kn t : Nat)]) e68 (by simp [undef]) ?_
              refine os_wl (fun ops Q K => ?_)
              refine wl_bs (cs := #[_, _]) [(0, .agg _)] rfl Tryd.underlying37 sz41 ze41 (by decide) (by decide) (by kernel_rfl) rfl (fun b69 w22 hb69 hs hr => ?_)
              exact K _ _ ⟨hs, ⟨_, rfl, Nat.le_trans hs0.size hr, hb69⟩⟩
            | 11, _, hne, _ => exact absurd rfl hne
            | 12, _, _, hoq =>
              obtain rfl : _ = o := Option.some.inj hoq
              have hs0 := hs
              replace hB := hB.tr hs (fun g hg => Nat.le_trans hlb5 (ho5.lt g hg).1)
              replace hb3 := hb3.tr hs (fun hx => by have := (ho5.lt _ hx).1; (try have := or_ho5_b3 _ hx); omega)
              replace hb4 := hb4.tr hs (fun hx => by have := (ho5.lt _ hx).1; (try have := or_ho5_b4 _ hx); omega)
              replace hb39 := hb39.tr hs (fun hx => by have := (ho5.lt _ hx).1; (try have := or_ho5_b39 _ hx); omega)
              replace hb10 := hb10.tr hs (fun hx => by have := (ho5.lt _ hx).1; (try have := or_ho5_b10 _ hx); omega)
              replace hrows := fun x hx => (hrows x hx).tr hs (fun g hg => by first | exact .inl (by have := ((ho5).lt g hg).1; omega) | (obtain ⟨cs, h⟩ := (ho5).typ g hg; exact .inr ⟨_, _, h, by decide⟩))
              replace hbz := Nat.le_trans hbz (Same.size hs)
              replace hb13 := hb13.tr hs (fun hx => by have := (ho5.lt _ hx).1; (try have := or_ho5_b13 _ hx); omega)
              replace hb15 := hb15.tr hs (fun hx => by have := (ho5.lt _ hx).1; (try have := or_ho5_b15 _ hx); omega)
              refine os_rv (r_fa Tryd.underlying39 sz37 (by decide) rfl rfl rfl) ⟨Same.refl _ _, ?_⟩
              exact rfl
            | _ + 13, hix, _, _ => exact absurd hix (by omega)
          · intro o hoq gg wx hs hd
            obtain rfl : _ = o := Option.some.inj hoq
            have hs0 := hs
            replace hB := hB.tr0 hs
            replace hb3 := hb3.tr0 hs
            replace hb4 := hb4.tr0 hs
            replace hb39 := hb39.tr0 hs
            replace hb10 := hb10.tr0 hs
            replace hrows := fun x hx => (hrows x hx).tr hs (by simp)
            replace hbz := Nat.le_trans hbz (Same.size hs)
            replace hb13 := hb13.tr0 hs
            replace ho5 := ho5.tr0 hs
            replace hb15 := hb15.tr0 hs
            clear hs
            have d1 : gg 60 = .slice A5 j cap5 := hd 1 (dep_of (by kernel_rfl))
            have e60 := d1
            have d10 : ∃ b, gg 69 = .slice (some ⟨b, 0, none⟩) 1 1 ∧ w21.heap.size ≤ b ∧ Blk wx b 41 #[.int .i64 ((gr[k]'hlt).ln[j]'hjl).1, .int .i64 (turnN gr.length kn t : Nat)] := hd 10 (dep_of (by kernel_rfl))
            obtain ⟨b69, e69, lo69, hb69⟩ := d10
            refine os_know 60 (.slice A5 j cap5) e60 (by simp [undef]) ?_
            refine os_know 69 (.slice (some ⟨b69, 0, none⟩) 1 1) e69 (by simp [undef]) ?_
            refine os_wl (fun ops Q K => ?_)
            refine wl_app Tryd.underlying37 in41 rfl (by decide) ho5 hb69 rfl rfl rfl (by repeat (first | rfl | refine one_cons (by first | rfl | assumption) ?_)) (by decide) (by omega) (by omega) hb13.lt (fun g70 cap70 w2 ho70 hs2 hg70 => ?_)
            refine K _ _ ⟨hs2, ⟨_, _, rfl, ho70⟩, trivial, fun kx v hne h => ?_⟩
            match kx, hne, h with
            | 0, _, h => exact h
            | 1, _, h => exact h
            | 2, _, h => exact h
            | 3, _, h => exact h
            | 4, _, h => exact h
            | 5, _, h => exact h
            | 6, _, h => exact h
            | 7, _, h => exact h
            | 8, _, h => exact h
            | 9, _, h => exact h
            | 10, _, h =>
              obtain ⟨b69, e69, lo69, hb69⟩ := (show ∃ b, v = .slice (some ⟨b, 0, none⟩) 1 1 ∧ w21.heap.size ≤ b ∧ Blk wx b 41 #[.int .i64 ((gr[k]'hlt).ln[j]'hjl).1, .int .i64 (turnN gr.length kn t : Nat)] from h)
              exact ⟨b69, e69, lo69, hb69.tr hs2 (fun hx => by have := zo _ hx; omega)⟩
            | 11, hne, _ => exact absurd rfl hne
            | 12, _, h => exact h
            | _ + 13, _, _ => exact trivial
          · intro gg w23 hs _ hR
            have hs0 := hs
            replace hB := hB.tr hs (fun g hg => Nat.le_trans hlb5 (ho5.lt g hg).1)
            replace hb3 := hb3.tr hs (fun hx => by have := (ho5.lt _ hx).1; (try have := or_ho5_b3 _ hx); omega)
            replace hb4 := hb4.tr hs (fun hx => by have := (ho5.lt _ hx).1; (try have := or_ho5_b4 _ hx); omega)
            replace hb39 := hb39.tr hs (fun hx => by have := (ho5.lt _ hx).1; (try have := or_ho5_b39 _ hx); omega)
            replace hb10 := hb10.tr hs (fun hx => by have := (ho5.lt _ hx).1; (try have := or_ho5_b10 _ hx); omega)
            replace hrows := fun x hx => (hrows x hx).tr hs (fun g hg => by first | exact .inl (by have := ((ho5).lt g hg).1; omega) | (obtain ⟨cs, h⟩ := (ho5).typ g hg; exact .inr ⟨_, _, h, by decide⟩))
            replace hbz := Nat.le_trans hbz (Same.size hs)
            replace hb13 := hb13.tr hs (fun hx => by have := (ho5.lt _ hx).1; (try have := or_ho5_b13 _ hx); omega)
            replace hb15 := hb15.tr hs (fun hx => by have := (ho5.lt _ hx).1; (try have := or_ho5_b15 _ hx); omega)
            have d11 : ∃ g cap, gg 70 = .slice (some ⟨g, 0, none⟩) (j + 1) cap ∧ Own w23 (b13 + 1) 41 2 (some ⟨g, 0, none⟩) (j + 1) cap (lnV (((gr[k]'hlt).ln.take j).map (fun (y : Int × Int) => (y.1, ((turnN gr.length kn y.2.toNat : Nat) : Int)))) ++ [.int .i64 ((gr[k]'hlt).ln[j]'hjl).1, .int .i64 (turnN gr.length kn t : Nat)]) := hR 11 (by decide)
            obtain ⟨g70, cap70, e70, ho70⟩ := d11
            have d12 : gg 71 = .pointer (some ⟨b13, 1, none⟩) := hR 12 (by decide)
            have e71 := d12
            replace ho70 : Own w23 (b13 + 1) 41 2 (some ⟨g70, 0, none⟩) (j + 1) cap70 (lnV (((gr[k]'hlt).ln.take (j + 1)).map (fun (y : Int × Int) => (y.1, ((turnN gr.length kn y.2.toNat : Nat) : Int))))) := by
              rw [List.take_succ_eq_append_getElem hjl, List.map_append, List.map_cons, List.map_nil, ← lnV_snoc]
              simp only [ht, Int.toNat_natCast]
              exact ho70
            have ho5 := ho70
            refine wl_know 70 (.slice (some ⟨g70, 0, none⟩) (j + 1) cap70) e70 (by simp [undef]) ?_
            refine wl_know 71 (.pointer (some ⟨b13, 1, none⟩)) e71 (by simp [undef]) ?_
            refine wl_st1 (v := .slice _ _ _) hb13 rfl rfl sz37 (by first | decide | simp) rfl rfl (fun w24 hq hs => ?_)
            replace hB := hB.tr1 hs lo13
            replace hb3 := hb3.tr1 hs (by omega)
            replace hb4 := hb4.tr1 hs (by omega)
            replace hb39 := hb39.tr1 hs (by omega)
            replace hb10 := hb10.tr1 hs (by omega)
            replace hrows := fun x hx => (hrows x hx).tr hs (fun g hg => by rw [List.mem_singleton.1 hg]; first | exact .inr ⟨_, _, hb13, by decide⟩ | exact .inl (by omega))
            replace hbz := Nat.le_trans hbz (Same.size hs)
            replace hb15 := hb15.tr1 hs (by omega)
            replace ho5 := ho5.tr1 hs (fun g hg => by have := (ho5.lt g hg).1; (try have := or_ho5_b13 g hg); (try simp only [aL] at hg); (try simp only [List.mem_singleton] at hg); omega)
            clear hs
            replace hb13 := hq
            refine x_nil ?_
            refine e_B ?_
            refine e_S ?_
            refine c_region ?_
            refine wl (r_add rfl rfl rfl (by omega)) ?_
            refine wl (r_mv (v := .int _ _) rfl) ?_
            refine x_nil ?_
            refine e_LS ((gr[k]'hlt).ln.length - (j + 1)) (by omega) (by repeat (first | exact ag_refl | exact ag_ovr' | refine ag_upd rfl ?_ | refine ag_sub rfl ?_ | refine ag_kn (by assumption) ?_)) ?_
            exact ⟨j + 1, _, _, by omega, rfl, rfl, hB, hb3, hb4, hb10, hb39, hb13, hrows, hbz, ho5⟩
        · have hjx : j = (gr[k]'hlt).ln.length := by omega
          subst hjx
          refine c_exit ?_
          refine e_Sx ?_
          refine e_LSx ?_
          refine e_Bx ?_
          refine e_S ?_
          have hrow5 := RowO.of (lo := w.heap.size) (xs := (gr[k]'hlt).ln.map (fun (y : Int × Int) => (y.1, ((turnN gr.length kn y.2.toNat : Nat) : Int)))) hlb5 (by
            rw [List.take_length] at ho5
            rw [List.length_map]; exact ho5)
          rw [List.length_map] at hrow5
          obtain ⟨s5, hs5⟩ : ∃ b, b = w19.heap.size := ⟨_, rfl⟩
          rw [← hs5] at hrow5
          have hz5 : s5 ≤ w19.heap.size := Nat.le_of_eq hs5
          refine c_monoTO 8 [73, 74, 75, 76, 77, 78, 79, 80] (fun _ => false) (fun ix v wv => match ix with | 0 => v = .pointer (some ⟨b10, 0, none⟩) | 1 => v = .slice (some ⟨b39, 0, none⟩) gr.length gr.length | 2 => v = .int .i64 k | 3 => v = .int .i64 gr.length | 4 => v = .int .i64 kn | 5 => v = .int .i64 (turnN gr.length kn k : Nat) | 6 => v = .agg #[.int .i64 (gr[k]'hlt).ty, .slice A5 (gr[k]'hlt).ln.length cap5] | 7 => v = .pointer (some ⟨b39, 0 + turnN gr.length kn k * 2, none⟩) | _ => True) (by kernel_rfl) (by kernel_rfl) ?_ ?_ ?_
          · intro ix v wv wv2 h hs
            match ix, h with
            | 0, h => exact h
            | 1, h => exact h
            | 2, h => exact h
            | 3, h => exact h
            | 4, h => exact h
            | 5, h => exact h
            | 6, h => exact h
            | 7, h => exact h
            | _ + 8, h => exact trivial
          · intro ix o hix hoq gg wx hs hd hdis
            match ix, hix, hoq with
            | 0, _, hoq =>
              obtain rfl : _ = o := Option.some.inj hoq
              have hs0 := hs
              replace hB := hB.tr0 hs
              replace hb3 := hb3.tr0 hs
              replace hb4 := hb4.tr0 hs
              replace hb39 := hb39.tr0 hs
              replace hb10 := hb10.tr0 hs
              replace hrows := fun x hx => (hrows x hx).tr hs (by simp)
              replace hbz := Nat.le_trans hbz (Same.size hs)
              replace hb13 := hb13.tr0 hs
              replace hrow5 := hrow5.tr hs (by simp)
              replace hz5 := Nat.le_trans hz5 (Same.size hs)
              clear hs
              refine os_rv (r_fa Tryd.underlying28 sz26 (by decide) rfl rfl rfl) ⟨Same.refl _ _, ?_, frsh_no⟩
              exact rfl
            | 1, _, hoq =>
              obtain rfl : _ = o := Option.some.inj hoq
              have hs0 := hs
              replace hB := hB.tr0 hs
              replace hb3 := hb3.tr0 hs
              replace hb4 := hb4.tr0 hs
              replace hb39 := hb39.tr0 hs
              replace hb10 := hb10.tr0 hs
              replace hrows := fun x hx => (hrows x hx).tr hs (by simp)
              replace hbz := Nat.le_trans hbz (Same.size hs)
              replace hb13 := hb13.tr0 hs
              replace hrow5 := hrow5.tr hs (by simp)
              replace hz5 := Nat.le_trans hz5 (Same.size hs)
              clear hs
              have d0 : gg 73 = .pointer (some ⟨b10, 0, none⟩) := hd 0 (dep_of (by kernel_rfl))
              have e73 := d0
              refine os_know 73 (.pointer (some ⟨b10, 0, none⟩)) e73 (by simp [undef]) ?_
              refine os_rv (r_ld1 (v := .slice _ _ _) Tryd.underlying26 rfl rfl (hb10.cell rfl)) ⟨Same.refl _ _, ?_, frsh_no⟩
              exact rfl
            | 2, _, hoq =>
              obtain rfl : _ = o := Option.some.inj hoq
              have hs0 := hs
              replace hB := hB.tr0 hs
              replace hb3 := hb3.tr0 hs
              replace hb4 := hb4.tr0 hs
              replace hb39 := hb39.tr0 hs
              replace hb10 := hb10.tr0 hs
              replace hrows := fun x hx => (hrows x hx).tr hs (by simp)
              replace hbz := Nat.le_trans hbz (Same.size hs)
              replace hb13 := hb13.tr0 hs
              replace hrow5 := hrow5.tr hs (by simp)
              replace hz5 := Nat.le_trans hz5 (Same.size hs)
              clear hs
              refine os_rv (r_mv (v := .int _ _) rfl) ⟨Same.refl _ _, ?_, frsh_no⟩
              exact rfl
            | 3, _, hoq =>
              obtain rfl : _ = o := Option.some.inj hoq
              have hs0 := hs
              replace hB := hB.tr0 hs
              replace hb3 := hb3.tr0 hs
              replace hb4 := hb4.tr0 hs
              replace hb39 := hb39.tr0 hs
              replace hb10 := hb10.tr0 hs
              replace hrows := fun x hx => (hrows x hx).tr hs (by simp)
              replace hbz := Nat.le_trans hbz (Same.size hs)
              replace hb13 := hb13.tr0 hs
              replace hrow5 := hrow5.tr hs (by simp)
              replace hz5 := Nat.le_trans hz5 (Same.size hs)
              clear hs
              refine os_rv (r_mv (v := .int _ _) rfl) ⟨Same.refl _ _, ?_, frsh_no⟩
              exact rfl
            | 4, _, hoq =>
              obtain rfl : _ = o := Option.some.inj hoq
              have hs0 := hs
              replace hB := hB.tr0 hs
              replace hb3 := hb3.tr0 hs
              replace hb4 := hb4.tr0 hs
              replace hb39 := hb39.tr0 hs
              replace hb10 := hb10.tr0 hs
              replace hrows := fun x hx => (hrows x hx).tr hs (by simp)
              replace hbz := Nat.le_trans hbz (Same.size hs)
              replace hb13 := hb13.tr0 hs
              replace hrow5 := hrow5.tr hs (by simp)
              replace hz5 := Nat.le_trans hz5 (Same.size hs)
              clear hs
              refine os_rv (r_mv (v := .int _ _) rfl) ⟨Same.refl _ _, ?_, frsh_no⟩
              exact rfl
            | 5, _, hoq =>
              obtain rfl : _ = o := Option.some.inj hoq
              have hs0 := hs
              replace hB := hB.tr0 hs
              replace hb3 := hb3.tr0 hs
              replace hb4 := hb4.tr0 hs
              replace hb39 := hb39.tr0 hs
              replace hb10 := hb10.tr0 hs
              replace hrows := fun x hx => (hrows x hx).tr hs (by simp)
              replace hbz := Nat.le_trans hbz (Same.size hs)
              replace hb13 := hb13.tr0 hs
              replace hrow5 := hrow5.tr hs (by simp)
              replace hz5 := Nat.le_trans hz5 (Same.size hs)
              clear hs
              have d2 : gg 75 = .int .i64 k := hd 2 (dep_of (by kernel_rfl))
              have e75 := d2
              have d3 : gg 76 = .int .i64 gr.length := hd 3 (dep_of (by kernel_rfl))
              have e76 := d3
              have d4 : gg 77 = .int .i64 kn := hd 4 (dep_of (by kernel_rfl))
              have e77 := d4
              refine os_know 75 (.int .i64 k) e75 (by simp [undef]) ?_
              refine os_know 76 (.int .i64 gr.length) e76 (by simp [undef]) ?_
              refine os_know 77 (.int .i64 kn) e77 (by simp [undef]) ?_
              refine os_cl fn14 (turned_any k gr.length kn wx hkn hlt hn6) rfl (fun e' w2 hr => ?_)
              obtain ⟨rfl, hs⟩ := hr
              exact ⟨_, rfl, Same.of_bel hs, rfl, frsh_no⟩
            | 6, _, hoq =>
              obtain rfl : _ = o := Option.some.inj hoq
              have hs0 := hs
              replace hB := hB.tr0 hs
              replace hb3 := hb3.tr0 hs
              replace hb4 := hb4.tr0 hs
              replace hb39 := hb39.tr0 hs
              replace hb10 := hb10.tr0 hs
              replace hrows := fun x hx => (hrows x hx).tr hs (by simp)
              replace hbz := Nat.le_trans hbz (Same.size hs)
              replace hb13 := hb13.tr0 hs
              replace hrow5 := hrow5.tr hs (by simp)
              replace hz5 := Nat.le_trans hz5 (Same.size hs)
              clear hs
              refine os_rv (r_ldS Tryd.underlying39 rfl rfl hb13.range0 sz39) ⟨Same.refl _ _, ?_, frsh_no⟩
              exact rfl
            | 7, _, hoq =>
              obtain rfl : _ = o := Option.some.inj hoq
              have hs0 := hs
              replace hB := hB.tr0 hs
              replace hb3 := hb3.tr0 hs
              replace hb4 := hb4.tr0 hs
              replace hb39 := hb39.tr0 hs
              replace hb10 := hb10.tr0 hs
              replace hrows := fun x hx => (hrows x hx).tr hs (by simp)
              replace hbz := Nat.le_trans hbz (Same.size hs)
              replace hb13 := hb13.tr0 hs
              replace hrow5 := hrow5.tr hs (by simp)
              replace hz5 := Nat.le_trans hz5 (Same.size hs)
              clear hs
              have d1 : gg 74 = .slice (some ⟨b39, 0, none⟩) gr.length gr.length := hd 1 (dep_of (by kernel_rfl))
              have e74 := d1
              have d5 : gg 78 = .int .i64 (turnN gr.length kn k : Nat) := hd 5 (dep_of (by kernel_rfl))
              have e78 := d5
              refine os_know 74 (.slice (some ⟨b39, 0, none⟩) gr.length gr.length) e74 (by simp [undef]) ?_
              refine os_know 78 (.int .i64 (turnN gr.length kn k : Nat)) e78 (by simp [undef]) ?_
              refine os_rv (r_ia (i := (turnN gr.length kn k)) Tryd.underlying26 sz39 rfl rfl (by omega) rfl) ⟨Same.refl _ _, ?_, frsh_no⟩
              exact rfl
            | _ + 8, hix, _ => exact absurd hix (by omega)
          · intro gg w25 hs hR hdis
            have hs0 := hs
            replace hB := hB.tr0 hs
            replace hb3 := hb3.tr0 hs
            replace hb4 := hb4.tr0 hs
            replace hb39 := hb39.tr0 hs
            replace hb10 := hb10.tr0 hs
            replace hrows := fun x hx => (hrows x hx).tr hs (by simp)
            replace hbz := Nat.le_trans hbz (Same.size hs)
            replace hb13 := hb13.tr0 hs
            replace hrow5 := hrow5.tr hs (by simp)
            replace hz5 := Nat.le_trans hz5 (Same.size hs)
            clear hs
            have d6 : gg 79 = .agg #[.int .i64 (gr[k]'hlt).ty, .slice A5 (gr[k]'hlt).ln.length cap5] := hR 6 (by decide)
            have e79 := d6
            have d7 : gg 80 = .pointer (some ⟨b39, 0 + turnN gr.length kn k * 2, none⟩) := hR 7 (by decide)
            have e80 := d7
            refine wl_know 79 (.agg #[.int .i64 (gr[k]'hlt).ty, .slice A5 (gr[k]'hlt).ln.length cap5]) e79 (by simp [undef]) ?_
            refine wl_know 80 (.pointer (some ⟨b39, 0 + turnN gr.length kn k * 2, none⟩)) e80 (by simp [undef]) ?_
            refine wl_stM hb39 rfl rfl sz39 (by rw [row2_size]; show 0 + turnN gr.length kn k * 2 + 2 ≤ gr.length * 2; omega) (by repeat (first | rfl | refine one_cons (by first | rfl | assumption) ?_)) row2_splice (fun w26 hq hs => ?_)
            replace hB := hB.tr1 hs lo39
            replace hb3 := hb3.tr1 hs (by omega)
            replace hb4 := hb4.tr1 hs (by omega)
            replace hb10 := hb10.tr1 hs (by omega)
            replace hrows := fun x hx => (hrows x hx).tr hs (fun g hg => by rw [List.mem_singleton.1 hg]; first | exact .inr ⟨_, _, hb39, by decide⟩ | exact .inl (by omega))
            replace hbz := Nat.le_trans hbz (Same.size hs)
            replace hb13 := hb13.tr1 hs (by omega)
            replace hrow5 := hrow5.tr hs (fun g hg => by rw [List.mem_singleton.1 hg]; first | exact .inr ⟨_, _, hb39, by decide⟩ | exact .inl (by omega))
            replace hz5 := Nat.le_trans hz5 (Same.size hs)
            clear hs
            replace hb39 := hq
            refine x_nil ?_
            refine e_B ?_
            refine e_S ?_
            refine c_region ?_
            refine wl (r_add rfl rfl rfl (by omega)) ?_
            refine wl (r_mv (v := .int _ _) rfl) ?_
            refine x_nil ?_
            refine e_LS (gr.length - (k + 1)) (by omega) (by repeat (first | exact ag_refl | exact ag_ovr' | refine ag_upd rfl ?_ | refine ag_sub rfl ?_ | refine ag_kn (by assumption) ?_)) ?_
            refine ⟨k + 1, fun x => if x = k then .slice A5 (gr[k]'hlt).ln.length cap5 else V x, by omega, rfl, rfl, hB, hb3, hb4, hb10, ?_, fun x hx => ?_⟩
            · rw [row2_congr (f' := (fun x => if backN gr.length kn x < (k + 1) then .int .i64 (nd gr (backN gr.length kn x)).ty else .int .i64 0)) (h' := (fun x => if backN gr.length kn x < (k + 1) then (fun x => if x = k then .slice A5 (gr[k]'hlt).ln.length cap5 else V x) (backN gr.length kn x) else .slice none 0 0)) (fun x hx => by
                by_cases e : x = turnN gr.length kn k
                · subst e; simp [tn3 k hlt, hnd]
                · have e1 : ¬ backN gr.length kn x = k := fun h => e (by rw [← h]; exact (tn2 x hx).2.symm)
                  have e2 : (backN gr.length kn x < k + 1) ↔ (backN gr.length kn x < k) := by omega
                  simp [e, e2]) (fun x hx => by
                by_cases e : x = turnN gr.length kn k
                · subst e; simp [tn3 k hlt]
                · have e1 : ¬ backN gr.length kn x = k := fun h => e (by rw [← h]; exact (tn2 x hx).2.symm)
                  have e2 : (backN gr.length kn x < k + 1) ↔ (backN gr.length kn x < k) := by omega
                  simp [e, e1, e2])] at hb39
              exact hb39
            · by_cases e : x = k
              · subst e
                simp only [if_true]
                show RowO _ _ _ _ ((nd gr x).ln.map (fun (y : Int × Int) => (y.1, ((turnN gr.length kn y.2.toNat : Nat) : Int))))
                rw [hnd]; exact hrow5.up hz5
              · simp only [if_neg e]
                exact (hrows x (by omega)).up hbz
      · have hke : k = gr.length := by omega
        rw [hke] at hb39 hrows
        refine c_exit ?_
        refine e_Sx ?_
        refine e_LSx ?_
        refine e_Bx ?_
        refine e_S ?_
        refine c_seq ?_
        have hNT : NodesIn w14 (some ⟨b39, 0, none⟩) (turnG gr kn) := by
          refine nodes_row2 (lo := w.heap.size) (bs := bs) hb39 (turnG_len gr kn) (by unfold maxI; omega) (fun x hx => ?_) (fun x hx => ?_)
          · have hx2 := hx
            rw [turnG_len] at hx2
            rw [turnG_get hx, if_pos (tn2 x hx2).1]; rfl
          · have hx2 := hx
            rw [turnG_len] at hx2
            rw [turnG_get hx, if_pos (tn2 x hx2).1]
            exact hrows _ (tn2 x hx2).1
        have hBt : Bel w14 w14 := Below.refl _ _
        refine c_region ?_
        refine wl (r_ldS Tryd.underlying25 rfl rfl hb3.range0 sz25) ?_
        refine wl (r_ldS Tryd.underlying28 rfl rfl hb4.range0 sz28) ?_
        refine wl_cl fn12 (can_any A B G c d cg l fs gr _ (hTab.mono hB) (hT.mono hB) (hF.mono hB) (hG.mono hB)) rfl (fun e' w27 hr => ?_)
        obtain ⟨⟨AC, rfl, hNC, hC⟩, hs⟩ := hr
        replace hs := Same.of_bel hs
        replace hB := hB.tr0 hs
        replace hb3 := hb3.tr0 hs
        replace hb4 := hb4.tr0 hs
        replace hb10 := hb10.tr0 hs
        replace hBt := hBt.tr0 hs
        clear hs
        have hB3 : Bel w27 w27 := Below.refl _ _
        replace hNC := hNC w27 (FrSame.refl _ _)
        obtain ⟨o, hD, heC⟩ := hC h0
        have hv2 := turn_valid (turn_of gr kn) hgv
        have hcc := turn_can (turn_of gr kn) h0 hD
        refine ⟨_, rfl, ?_⟩
        refine wl (r_mv (v := .tuple _) rfl) ?_
        refine wl (r_ex (v := .agg _) rfl rfl) ?_
        refine wl (r_ex (v := .agg _) rfl rfl) ?_
        refine wl_al (cs := #[.slice none 0 0]) ze28 rfl (fun b16 w28 hb16 hs hr => ?_)
        have or_b3_b16 : b3 < b16 := Nat.lt_of_lt_of_le hb3.lt hr
        have or_b4_b16 : b4 < b16 := Nat.lt_of_lt_of_le hb4.lt hr
        have or_b10_b16 : b10 < b16 := Nat.lt_of_lt_of_le hb10.lt hr
        have lo16 := Nat.le_trans (Bel.size hB) hr
        have lo_hBt_b16 := Nat.le_trans (Bel.size hBt) hr
        have lo_hB3_b16 := Nat.le_trans (Bel.size hB3) hr
        replace hB := hB.tr0 hs
        replace hb3 := hb3.tr0 hs
        replace hb4 := hb4.tr0 hs
        replace hb10 := hb10.tr0 hs
        replace hBt := hBt.tr0 hs
        replace hB3 := hB3.tr0 hs
        clear hs
        clear hr
        refine wl_al (cs := #[.int .i64 0, .int .i64 0]) ze30 rfl (fun b17 w29 hb17 hs hr => ?_)
        have or_b3_b17 : b3 < b17 := Nat.lt_of_lt_of_le hb3.lt hr
        have or_b4_b17 : b4 < b17 := Nat.lt_of_lt_of_le hb4.lt hr
        have or_b10_b17 : b10 < b17 := Nat.lt_of_lt_of_le hb10.lt hr
        have or_b16_b17 : b16 < b17 := Nat.lt_of_lt_of_le hb16.lt hr
        have lo17 := Nat.le_trans (Bel.size hB) hr
        have lo_hBt_b17 := Nat.le_trans (Bel.size hBt) hr
        have lo_hB3_b17 := Nat.le_trans (Bel.size hB3) hr
        replace hB := hB.tr0 hs
        replace hb3 := hb3.tr0 hs
        replace hb4 := hb4.tr0 hs
        replace hb10 := hb10.tr0 hs
        replace hBt := hBt.tr0 hs
        replace hB3 := hB3.tr0 hs
        replace hb16 := hb16.tr0 hs
        clear hs
        clear hr
        refine wl_stW hb16 rfl rfl sz28 rfl (by repeat (first | rfl | refine one_cons (by first | rfl | assumption) ?_)) (fun w30 hq hs => ?_)
        replace hB := hB.tr1 hs lo16
        replace hb3 := hb3.tr1 hs (by omega)
        replace hb4 := hb4.tr1 hs (by omega)
        replace hb10 := hb10.tr1 hs (by omega)
        replace hBt := hBt.tr1 hs lo_hBt_b16
        replace hB3 := hB3.tr1 hs lo_hB3_b16
        replace hb17 := hb17.tr1 hs (by omega)
        clear hs
        replace hb16 := hq
        refine wl_stW hb17 rfl rfl sz30 rfl (by repeat (first | rfl | refine one_cons (by first | rfl | assumption) ?_)) (fun w31 hq hs => ?_)
        replace hB := hB.tr1 hs lo17
        replace hb3 := hb3.tr1 hs (by omega)
        replace hb4 := hb4.tr1 hs (by omega)
        replace hb10 := hb10.tr1 hs (by omega)
        replace hBt := hBt.tr1 hs lo_hBt_b17
        replace hB3 := hB3.tr1 hs lo_hB3_b17
        replace hb16 := hb16.tr1 hs (by omega)
        clear hs
        replace hb17 := hq
        refine x_nil ?_
        refine e_S ?_
        refine c_seq ?_
        refine c_region ?_
        refine wl (r_ldS Tryd.underlying25 rfl rfl hb3.range0 sz25) ?_
        refine wl (r_ldS Tryd.underlying28 rfl rfl hb10.range0 sz28) ?_
        refine wl_cl fn12 (cann_any A B (some ⟨b39, 0, none⟩) c d _ _ l fs (turnG gr kn) _ (hTab.mono hB) (hT.mono hB) (hF.mono hB) (hNT.mono hBt) (turnG_len gr kn)) rfl (fun e' w32 hr => ?_)
        obtain ⟨⟨AD, rfl, hND, hC2⟩, hs⟩ := hr
        replace hs := Same.of_bel hs
        replace hB := hB.tr0 hs
        replace hb3 := hb3.tr0 hs
        replace hb4 := hb4.tr0 hs
        replace hb10 := hb10.tr0 hs
        replace hBt := hBt.tr0 hs
        replace hB3 := hB3.tr0 hs
        replace hb16 := hb16.tr0 hs
        replace hb17 := hb17.tr0 hs
        clear hs
        have hB4 : Bel w32 w32 := Below.refl _ _
        replace hND := hND w32 (FrSame.refl _ _)
        refine ⟨_, rfl, ?_⟩
        refine wl (r_mv (v := .tuple _) rfl) ?_
        refine wl (r_ex (v := .agg _) rfl rfl) ?_
        refine wl (r_ex (v := .agg _) rfl rfl) ?_
        refine wl_al (cs := #[.slice none 0 0]) ze28 rfl (fun b18 w33 hb18 hs hr => ?_)
        have or_b3_b18 : b3 < b18 := Nat.lt_of_lt_of_le hb3.lt hr
        have or_b4_b18 : b4 < b18 := Nat.lt_of_lt_of_le hb4.lt hr
        have or_b10_b18 : b10 < b18 := Nat.lt_of_lt_of_le hb10.lt hr
        have or_b16_b18 : b16 < b18 := Nat.lt_of_lt_of_le hb16.lt hr
        have or_b17_b18 : b17 < b18 := Nat.lt_of_lt_of_le hb17.lt hr
        have lo18 := Nat.le_trans (Bel.size hB) hr
        have lo_hBt_b18 := Nat.le_trans (Bel.size hBt) hr
        have lo_hB3_b18 := Nat.le_trans (Bel.size hB3) hr
        have lo_hB4_b18 := Nat.le_trans (Bel.size hB4) hr
        replace hB := hB.tr0 hs
        replace hb3 := hb3.tr0 hs
        replace hb4 := hb4.tr0 hs
        replace hb10 := hb10.tr0 hs
        replace hBt := hBt.tr0 hs
        replace hB3 := hB3.tr0 hs
        replace hb16 := hb16.tr0 hs
        replace hb17 := hb17.tr0 hs
        replace hB4 := hB4.tr0 hs
        clear hs
        clear hr
        refine wl_al (cs := #[.int .i64 0, .int .i64 0]) ze30 rfl (fun b19 w34 hb19 hs hr => ?_)
        have or_b3_b19 : b3 < b19 := Nat.lt_of_lt_of_le hb3.lt hr
        have or_b4_b19 : b4 < b19 := Nat.lt_of_lt_of_le hb4.lt hr
        have or_b10_b19 : b10 < b19 := Nat.lt_of_lt_of_le hb10.lt hr
        have or_b16_b19 : b16 < b19 := Nat.lt_of_lt_of_le hb16.lt hr
        have or_b17_b19 : b17 < b19 := Nat.lt_of_lt_of_le hb17.lt hr
        have or_b18_b19 : b18 < b19 := Nat.lt_of_lt_of_le hb18.lt hr
        have lo19 := Nat.le_trans (Bel.size hB) hr
        have lo_hBt_b19 := Nat.le_trans (Bel.size hBt) hr
        have lo_hB3_b19 := Nat.le_trans (Bel.size hB3) hr
        have lo_hB4_b19 := Nat.le_trans (Bel.size hB4) hr
        replace hB := hB.tr0 hs
        replace hb3 := hb3.tr0 hs
        replace hb4 := hb4.tr0 hs
        replace hb10 := hb10.tr0 hs
        replace hBt := hBt.tr0 hs
        replace hB3 := hB3.tr0 hs
        replace hb16 := hb16.tr0 hs
        replace hb17 := hb17.tr0 hs
        replace hB4 := hB4.tr0 hs
        replace hb18 := hb18.tr0 hs
        clear hs
        clear hr
        refine wl_stW hb18 rfl rfl sz28 rfl (by repeat (first | rfl | refine one_cons (by first | rfl | assumption) ?_)) (fun w35 hq hs => ?_)
        replace hB := hB.tr1 hs lo18
        replace hb3 := hb3.tr1 hs (by omega)
        replace hb4 := hb4.tr1 hs (by omega)
        replace hb10 := hb10.tr1 hs (by omega)
        replace hBt := hBt.tr1 hs lo_hBt_b18
        replace hB3 := hB3.tr1 hs lo_hB3_b18
        replace hb16 := hb16.tr1 hs (by omega)
        replace hb17 := hb17.tr1 hs (by omega)
        replace hB4 := hB4.tr1 hs lo_hB4_b18
        replace hb19 := hb19.tr1 hs (by omega)
        clear hs
        replace hb18 := hq
        refine wl_stW hb19 rfl rfl sz30 rfl (by repeat (first | rfl | refine one_cons (by first | rfl | assumption) ?_)) (fun w36 hq hs => ?_)
        replace hB := hB.tr1 hs lo19
        replace hb3 := hb3.tr1 hs (by omega)
        replace hb4 := hb4.tr1 hs (by omega)
        replace hb10 := hb10.tr1 hs (by omega)
        replace hBt := hBt.tr1 hs lo_hBt_b19
        replace hB3 := hB3.tr1 hs lo_hB3_b19
        replace hb16 := hb16.tr1 hs (by omega)
        replace hb17 := hb17.tr1 hs (by omega)
        replace hB4 := hB4.tr1 hs lo_hB4_b19
        replace hb18 := hb18.tr1 hs (by omega)
        clear hs
        replace hb19 := hq
        refine x_nil ?_
        refine e_S ?_
        refine c_seq ?_
        refine c_region ?_
        refine wl (r_fa Tryd.underlying30 sz3 (by decide) rfl rfl rfl) ?_
        refine wl (r_ld1 (v := .int _ _) Tryd.underlying3 rfl rfl (hb17.cell rfl)) ?_
        refine wl (r_eql rfl rfl) ?_
        refine wl (r_mv (v := .bool true) (congrArg Value.bool (decide_eq_true h0))) ?_
        refine wl_gd 97 rfl rfl ?_
        refine wl (r_fa Tryd.underlying30 sz3 (by decide) rfl rfl rfl) ?_
        refine wl_gd 97 rfl rfl ?_
        refine wl (r_ld1 (v := .int _ _) Tryd.underlying3 rfl rfl (hb19.cell rfl)) ?_
        refine wl_gd 97 rfl rfl ?_
        refine wl (r_eql rfl rfl) ?_
        refine wl (r_pt (v := .bool _) rfl rfl) ?_
        refine wl (r_mv (v := .bool true) (congrArg Value.bool (decide_eq_true hv2))) ?_
        refine wl_gd 102 rfl rfl ?_
        refine wl (r_ldS Tryd.underlying28 rfl rfl hb16.range0 sz28) ?_
        refine wl_gd 102 rfl rfl ?_
        refine wl (r_ldS Tryd.underlying28 rfl rfl hb18.range0 sz28) ?_
        refine wl_gd 102 rfl rfl ?_
        refine wl_cl fn15 (same_any AC AD _ _ _ _ _ _ _ (hNC.mono hB3) (hND.mono hB4) rfl rfl hcc.symm) rfl (fun e' w37 hr => ?_)
        obtain ⟨rfl, hs⟩ := hr
        replace hs := Same.of_bel hs
        replace hB := hB.tr0 hs
        replace hb3 := hb3.tr0 hs
        replace hb4 := hb4.tr0 hs
        replace hb10 := hb10.tr0 hs
        replace hBt := hBt.tr0 hs
        replace hB3 := hB3.tr0 hs
        replace hb16 := hb16.tr0 hs
        replace hb17 := hb17.tr0 hs
        replace hB4 := hB4.tr0 hs
        replace hb18 := hb18.tr0 hs
        replace hb19 := hb19.tr0 hs
        clear hs
        refine ⟨_, rfl, ?_⟩
        refine wl (r_pt (v := .bool _) rfl rfl) ?_
        refine wl (r_as (v := .bool _) rfl) ?_
        refine x_nil ?_
        refine e_S ?_
        refine c_ret ?_
        refine fin1 (.inl rfl) rfl rfl ?_
        exact ⟨rfl, hB⟩
end Go.Proofs.YtdegobbnidddjaaDoor
