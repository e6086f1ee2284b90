/- What these functions of the program compute, at every world: glosswright/glosswrightequal.graphOf. -/
import Derived.Test.YthhkbhapfcfdjaaDoorMeans
namespace Go.Proofs.YthhkbhapfcfdjaaDoor
open Go.RowKit

/-- a slice of slices of ints -/
def RowsIn (w : World) (A : Option Addr) (rs : List (List Int)) : Prop :=
  rs.length ≤ 1000 ∧ (∀ r ∈ rs, 0 < r.length ∧ r.length ≤ 1000) ∧ (rs ≠ [] → ∃ b o, A = some ⟨b, o, none⟩ ∧ b < w.heap.size ∧ ∀ k (h : k < rs.length), ∃ A' c, w.cell? ⟨b, o + k * 1, none⟩ = some (.slice A' (rs[k]).length c) ∧ IntsIn w A' rs[k])
theorem RowsIn.at_ {w w' : World} {A : Option Addr} {rs : List (List Int)} (h : RowsIn w A rs) (hb : Bel w w') {k : Nat} (hk : k < rs.length) :
    ∃ b o A' c, A = some ⟨b, o, none⟩ ∧ w'.cell? ⟨b, o + k * 1, none⟩ = some (.slice A' (rs[k]).length c) ∧ IntsIn w A' rs[k] := by
  obtain ⟨b, o, e, hl, hc⟩ := h.2.2 (by rintro rfl; simp at hk)
  obtain ⟨A', c, h1, h2⟩ := hc k hk
  exact ⟨b, o, A', c, e, hb.cell hl h1, h2⟩
theorem RowsIn.mono {w w' : World} {A : Option Addr} {rs : List (List Int)} (h : RowsIn w A rs) (hb : Bel w w') : RowsIn w' A rs :=
  ⟨h.1, h.2.1, fun hn => by
    obtain ⟨b, o, e, hl, hc⟩ := h.2.2 hn
    refine ⟨b, o, e, Nat.lt_of_lt_of_le hl hb.size, fun k hk => ?_⟩
    obtain ⟨A', c, h1, h2⟩ := hc k hk
    exact ⟨A', c, hb.cell hl h1, h2.mono hb⟩⟩

theorem in100 : (Tryd.prog.info? 100).map (fun i => (i.zero, i.size, i.bytes)) = some (some (.agg #[.int .i64 0, .slice none 0 0]), 2, 32) := by kernel_rfl
theorem in102 : (Tryd.prog.info? 102).map (fun i => (i.zero, i.size, i.bytes)) = some (some (.agg #[.int .i64 0, .int .i64 0]), 2, 16) := by kernel_rfl
theorem sz100 : (Tryd.prog.info? 100).map (·.size) = some 2 := by kernel_rfl
theorem sz102 : (Tryd.prog.info? 102).map (·.size) = some 2 := by kernel_rfl
theorem sz32 : (Tryd.prog.info? 32).map (·.size) = some 1 := by kernel_rfl
theorem sz34 : (Tryd.prog.info? 34).map (·.size) = some 1 := by kernel_rfl
theorem sz98 : (Tryd.prog.info? 98).map (·.size) = some 1 := by kernel_rfl
theorem ze100 : (Tryd.prog.info? 100).map (·.zero) = some (some (.agg #[.int .i64 0, .slice none 0 0])) := by kernel_rfl
theorem ze102 : (Tryd.prog.info? 102).map (·.zero) = some (some (.agg #[.int .i64 0, .int .i64 0])) := by kernel_rfl
theorem ze34 : (Tryd.prog.info? 34).map (·.zero) = some (some (.agg #[.slice none 0 0])) := by kernel_rfl
set_option maxHeartbeats 1000000 in
theorem graphOf_any (A : Option Addr) (c : Nat) (rs : List (List Int)) (w : World) (hR : RowsIn w A rs) : Calls Tryd.prog 28 #[.slice A rs.length c] w fun e w' => (∃ p0, e = .returned (.agg #[p0]) ∧ p0.oneCell' = true) ∧ Bel w w' := by
  have hrl := hR.1
  have hrr := hR.2.1
  refine enter Tryd.func28 Tryd.ntmps28 rfl (Nat.le_of_ble_eq_true rfl) ?_
  have hB : Bel w w := Below.refl _ _
  refine c_seq ?_
  refine c_region ?_
  refine wl_al (cs := #[.slice none 0 0]) ze34 rfl (fun b2 w1 hb2 hs hr => ?_)
  have lo2 := Nat.le_trans (Bel.size hB) hr
  replace hB := hB.tr0 hs
  clear hs
  clear hr
  refine x_nil ?_
  refine e_S ?_
  refine c_seq ?_
  refine c_region ?_
  refine wl_al (cs := #[.slice none 0 0]) ze34 rfl (fun b3 w2 hb3 hs hr => ?_)
  have or_b2_b3 : b2 < b3 := Nat.lt_of_lt_of_le hb2.lt hr
  have lo3 := Nat.le_trans (Bel.size hB) hr
  replace hB := hB.tr0 hs
  replace hb2 := hb2.tr0 hs
  clear hs
  clear hr
  refine x_nil ?_
  refine e_S ?_
  refine c_seq ?_
  refine c_seq ?_
  refine c_region ?_
  refine wl (r_mv (v := .slice _ _ _) rfl) ?_
  refine wl (r_len Tryd.underlying82 rfl) ?_
  refine wl (r_mv (v := .int _ _) rfl) ?_
  refine x_nil ?_
  refine e_S ?_
  refine c_block ?_
  refine c_loopS [5, 6, 7, 10, 11, 12, 13, 14, 15, 16, 17, 18, 19, 20, 21, 22, 23, 24, 25, 26, 27, 28, 29, 30, 31, 32, 33, 34, 35, 36, 37, 38, 39, 40, 41, 42, 43, 44, 45, 46] (fun m g w' => ∃ (k : Nat) (A3 : Option Addr) (cap3 : Nat) (xs3 : List Value), k ≤ rs.length ∧ m = rs.length - k ∧ g 10 = .int .i64 k ∧ Bel w w' ∧ Blk w' b2 34 #[.slice none 0 0] ∧ Blk w' b3 34 #[.slice A3 k cap3] ∧ Own w' (b3 + 1) 100 2 A3 k cap3 xs3) (rs.length) ?_ (fun m g3 w3 hI => ?_)
  · exact ⟨0, none, 0, [], Nat.zero_le _, rfl, rfl, hB, hb2, hb3, Own.nil _ _ _ _⟩
  obtain ⟨k, A3, cap3, xs3, hk, hm, h10, hB, hb2, hb3, ho3⟩ := hI
  refine c_know 10 (.int .i64 k) h10 (by simp [undef]) ?_
  refine c_seq ?_
  refine c_region ?_
  refine wl (r_lss rfl rfl) ?_
  refine x_nil ?_
  refine e_S ?_
  refine c_seq ?_
  refine c_ifd rfl (fun c11 => ?_) (fun c11 => ?_)
  · have hlt : k < rs.length := by omega
    have hrk := hrr _ (List.getElem_mem hlt)
    obtain ⟨rb, ro, Ar, cr, rfl, hrc, hri⟩ := hR.at_ hB hlt
    refine c_skip ?_
    refine e_S ?_
    refine c_seq ?_
    refine c_block ?_
    refine c_seq ?_
    refine c_region ?_
    refine wl (r_ia (i := k) Tryd.underlying82 sz45 rfl rfl (by omega) rfl) ?_
    refine wl (r_ld1 (v := .slice _ _ _) Tryd.underlying45 rfl rfl hrc) ?_
    refine wl (r_as (v := .slice _ _ _) rfl) ?_
    refine x_nil ?_
    refine e_S ?_
    refine c_seq ?_
    obtain ⟨pb, po, rfl, hpb, hpc⟩ := hri.2 (by intro h; rw [h] at hrk; simp at hrk)
    have hc0 := hB.cell hpb (hpc 0 hrk.1)
    obtain ⟨z0, hz0⟩ : ∃ z, z = (rs[k]'hlt)[0]'hrk.1 := ⟨_, rfl⟩
    rw [← hz0] at hc0
    refine c_region ?_
    refine wl (r_mv (v := .slice _ _ _) rfl) ?_
    refine wl (r_ia (i := 0) Tryd.underlying45 sz3 rfl rfl (by omega) rfl) ?_
    refine wl (r_ld1 (v := .int _ _) Tryd.underlying3 rfl rfl hc0) ?_
    refine wl (r_bd1 (v0 := .int _ _) (fun v0 => #[v0, .slice none 0 0]) rfl (by kernel_rfl)) ?_
    refine wl_al (cs := #[.int .i64 0, .slice none 0 0]) ze100 rfl (fun b6 w4 hb6 hs hr => ?_)
    have or_b2_b6 : b2 < b6 := Nat.lt_of_lt_of_le hb2.lt hr
    have or_b3_b6 : b3 < b6 := Nat.lt_of_lt_of_le hb3.lt hr
    have or_ho3_b6 := fun g hg => Nat.lt_of_lt_of_le (ho3.lt g hg).2 hr
    have lo6 := Nat.le_trans (Bel.size hB) hr
    replace hB := hB.tr0 hs
    replace hb2 := hb2.tr0 hs
    replace hb3 := hb3.tr0 hs
    replace ho3 := ho3.tr0 hs
    clear hs
    clear hr
    refine wl_stW hb6 rfl rfl sz100 rfl (by repeat (first | rfl | refine one_cons (by first | rfl | assumption) ?_)) (fun w5 hq hs => ?_)
    replace hB := hB.tr1 hs lo6
    replace hb2 := hb2.tr1 hs (by omega)
    replace hb3 := hb3.tr1 hs (by omega)
    replace ho3 := ho3.tr1 hs (fun g hg => by have := (ho3.lt g hg).1; (try have := or_ho3_b6 g hg); (try simp only [aL, List.mem_singleton] at hg); omega)
    clear hs
    replace hb6 := hq
    refine x_nil ?_
    refine e_S ?_
    refine c_seq ?_
    refine c_seq ?_
    refine c_region ?_
    refine wl (r_as (v := .int _ _) rfl) ?_
    refine x_nil ?_
    refine e_S ?_
    refine c_block ?_
    refine c_loopS [7, 18, 19, 20, 21, 22, 23, 24, 25, 26, 27, 28, 29, 30, 31, 32, 33, 34, 35, 36, 37, 38, 39] (fun m g w' => ∃ (i j : Nat) (A6 : Option Addr) (cap6 : Nat) (xs6 : List Value), 1 ≤ i ∧ j ≤ i ∧ i ≤ (rs[k]'hlt).length + 1 ∧ m = (rs[k]'hlt).length + 2 - i ∧ g 7 = .int .i64 i ∧ Bel w w' ∧ Blk w' b2 34 #[.slice none 0 0] ∧ Blk w' b3 34 #[.slice A3 k cap3] ∧ Own w' (b3 + 1) 100 2 A3 k cap3 xs3 ∧ Blk w' b6 100 #[.int .i64 z0, .slice A6 j cap6] ∧ Own w' (b6 + 1) 102 2 A6 j cap6 xs6) ((rs[k]'hlt).length + 1) ?_ (fun m g7 w6 hI => ?_)
    · exact ⟨1, 0, none, 0, [], Nat.le_refl _, Nat.zero_le _, by omega, rfl, rfl, hB, hb2, hb3, ho3, hb6, Own.nil _ _ _ _⟩
    obtain ⟨i, j, A6, cap6, xs6, hi1, hji, hil, hm7, h7, hB, hb2, hb3, ho3, hb6, ho6⟩ := hI
    refine c_know 7 (.int .i64 i) h7 (by simp [undef]) ?_
    refine c_seq ?_
    refine c_seq ?_
    refine c_region ?_
    refine wl (r_mv (v := .int _ _) rfl) ?_
    refine wl (r_add (c := ((i + 1 : Nat) : Int)) rfl rfl rfl (by omega)) ?_
    refine wl (r_mv (v := .slice _ _ _) rfl) ?_
    refine wl (r_len Tryd.underlying45 rfl) ?_
    refine wl (r_lss rfl rfl) ?_
    refine x_nil ?_
    refine e_S ?_
    refine c_ifd rfl (fun c22 => ?_) (fun c22 => ?_)
    · have hi0 : i < (rs[k]'hlt).length := by omega
      have hi2 : i + 1 < (rs[k]'hlt).length := by omega
      have hca := hB.cell hpb (hpc i hi0)
      have hcb := hB.cell hpb (hpc (i + 1) hi2)
      obtain ⟨za, hza⟩ : ∃ z, z = (rs[k]'hlt)[i]'hi0 := ⟨_, rfl⟩
      obtain ⟨zb, hzb⟩ : ∃ z, z = (rs[k]'hlt)[i + 1]'hi2 := ⟨_, rfl⟩
      rw [← hza] at hca
      rw [← hzb] at hcb
      refine c_skip ?_
      refine e_S ?_
      refine c_seq ?_
      refine c_block ?_
      have z2 := hb2.lt
      have z3 := hb3.lt
      have z6 := hb6.lt
      have zo3 := fun g hg => (ho3.lt g hg).2
      have zo6 := fun g hg => (ho6.lt g hg).2
      have hsz := Bel.size hB
      replace hca := fun (w1 : World) (h : Bel w6 w1) => h.cell (Nat.lt_of_lt_of_le hpb hsz) hca
      replace hcb := fun (w1 : World) (h : Bel w6 w1) => h.cell (Nat.lt_of_lt_of_le hpb hsz) hcb
      refine c_monoTO 13 [25, 26, 27, 28, 29, 30, 31, 32, 33, 34, 35, 36, 37] (fun ix => Nat.beq ix 12) (fun ix v wv => match ix with | 0 => v = .pointer (some ⟨b6, 1, none⟩) | 1 => v = .slice A6 j cap6 | 2 => v = .slice (some ⟨pb, po, none⟩) (rs[k]'hlt).length cr | 3 => v = .int .i64 i | 4 => v = .pointer (some ⟨pb, po + i * 1, none⟩) | 5 => v = .int .i64 za | 6 => v = .slice (some ⟨pb, po, none⟩) (rs[k]'hlt).length cr | 7 => v = .int .i64 i | 8 => v = .int .i64 ((i + 1 : Nat) : Int) | 9 => v = .pointer (some ⟨pb, po + (i + 1) * 1, none⟩) | 10 => v = .int .i64 zb | 11 => v = .agg #[.int .i64 za, .int .i64 zb] | 12 => ∃ b, v = .slice (some ⟨b, 0, none⟩) 1 1 ∧ w6.heap.size ≤ b ∧ Blk wv b 102 #[.int .i64 za, .int .i64 zb] | _ => True) (by kernel_rfl) (by kernel_rfl) ?_ ?_ ?_
      · intro ix v wv wv2 h hs
        match ix, h with
        | 0, h => exact h
        | 1, h => exact h
        | 2, h => exact h
        | 3, h => exact h
        | 4, h => exact h
        | 5, h => exact h
        | 6, h => exact h
        | 7, h => exact h
        | 8, h => exact h
        | 9, h => exact h
        | 10, h => exact h
        | 11, h => exact h
        | 12, h =>
          obtain ⟨b37, e37, lo37, hb37⟩ := (show ∃ b, v = .slice (some ⟨b, 0, none⟩) 1 1 ∧ w6.heap.size ≤ b ∧ Blk wv b 102 #[.int .i64 za, .int .i64 zb] from h)
          exact ⟨b37, e37, lo37, hb37.tr0 hs⟩
        | _ + 13, h => exact trivial
      · intro ix o hix hoq gg wx hs hd hdis
        match ix, hix, hoq with
        | 0, _, hoq =>
          obtain rfl : _ = o := Option.some.inj hoq
          have hs0 := hs
          replace hB := hB.tr0 hs
          replace hb2 := hb2.tr0 hs
          replace hb3 := hb3.tr0 hs
          replace ho3 := ho3.tr0 hs
          replace hb6 := hb6.tr0 hs
          replace ho6 := ho6.tr0 hs
          clear hs
          refine os_rv (r_fa Tryd.underlying100 sz98 (by decide) rfl rfl rfl) ⟨Same.refl _ _, ?_, frsh_no⟩
          exact rfl
        | 1, _, hoq =>
          obtain rfl : _ = o := Option.some.inj hoq
          have hs0 := hs
          replace hB := hB.tr0 hs
          replace hb2 := hb2.tr0 hs
          replace hb3 := hb3.tr0 hs
          replace ho3 := ho3.tr0 hs
          replace hb6 := hb6.tr0 hs
          replace ho6 := ho6.tr0 hs
          clear hs
          have d0 : gg 25 = .pointer (some ⟨b6, 1, none⟩) := hd 0 (dep_of (by kernel_rfl))
          have e25 := d0
          refine os_know 25 (.pointer (some ⟨b6, 1, none⟩)) e25 (by simp [undef]) ?_
          refine os_rv (r_ld1 (v := .slice _ _ _) Tryd.underlying98 rfl rfl (hb6.cell rfl)) ⟨Same.refl _ _, ?_, frsh_no⟩
          exact rfl
        | 2, _, hoq =>
          obtain rfl : _ = o := Option.some.inj hoq
          have hs0 := hs
          replace hB := hB.tr0 hs
          replace hb2 := hb2.tr0 hs
          replace hb3 := hb3.tr0 hs
          replace ho3 := ho3.tr0 hs
          replace hb6 := hb6.tr0 hs
          replace ho6 := ho6.tr0 hs
          clear hs
          refine os_rv (r_mv (v := .slice _ _ _) rfl) ⟨Same.refl _ _, ?_, frsh_no⟩
          exact rfl
        | 3, _, hoq =>
          obtain rfl : _ = o := Option.some.inj hoq
          have hs0 := hs
          replace hB := hB.tr0 hs
          replace hb2 := hb2.tr0 hs
          replace hb3 := hb3.tr0 hs
          replace ho3 := ho3.tr0 hs
          replace hb6 := hb6.tr0 hs
          replace ho6 := ho6.tr0 hs
          clear hs
          refine os_rv (r_mv (v := .int _ _) rfl) ⟨Same.refl _ _, ?_, frsh_no⟩
          exact rfl
        | 4, _, hoq =>
          obtain rfl : _ = o := Option.some.inj hoq
          have hs0 := hs
          replace hB := hB.tr0 hs
          replace hb2 := hb2.tr0 hs
          replace hb3 := hb3.tr0 hs
          replace ho3 := ho3.tr0 hs
          replace hb6 := hb6.tr0 hs
          replace ho6 := ho6.tr0 hs
          clear hs
          have d2 : gg 27 = .slice (some ⟨pb, po, none⟩) (rs[k]'hlt).length cr := hd 2 (dep_of (by kernel_rfl))
          have e27 := d2
          have d3 : gg 28 = .int .i64 i := hd 3 (dep_of (by kernel_rfl))
          have e28 := d3
          refine os_know 27 (.slice (some ⟨pb, po, none⟩) (rs[k]'hlt).length cr) e27 (by simp [undef]) ?_
          refine os_know 28 (.int .i64 i) e28 (by simp [undef]) ?_
          refine os_rv (r_ia (i := i) Tryd.underlying45 sz3 rfl rfl (by omega) rfl) ⟨Same.refl _ _, ?_, frsh_no⟩
          exact rfl
        | 5, _, hoq =>
          obtain rfl : _ = o := Option.some.inj hoq
          have hs0 := hs
          replace hB := hB.tr0 hs
          replace hb2 := hb2.tr0 hs
          replace hb3 := hb3.tr0 hs
          replace ho3 := ho3.tr0 hs
          replace hb6 := hb6.tr0 hs
          replace ho6 := ho6.tr0 hs
          clear hs
          have d4 : gg 29 = .pointer (some ⟨pb, po + i * 1, none⟩) := hd 4 (dep_of (by kernel_rfl))
          have e29 := d4
          refine os_know 29 (.pointer (some ⟨pb, po + i * 1, none⟩)) e29 (by simp [undef]) ?_
          refine os_rv (r_ld1 (v := .int _ _) Tryd.underlying3 rfl rfl (hca _ hs0.bel)) ⟨Same.refl _ _, ?_, frsh_no⟩
          exact rfl
        | 6, _, hoq =>
          obtain rfl : _ = o := Option.some.inj hoq
          have hs0 := hs
          replace hB := hB.tr0 hs
          replace hb2 := hb2.tr0 hs
          replace hb3 := hb3.tr0 hs
          replace ho3 := ho3.tr0 hs
          replace hb6 := hb6.tr0 hs
          replace ho6 := ho6.tr0 hs
          clear hs
          refine os_rv (r_mv (v := .slice _ _ _) rfl) ⟨Same.refl _ _, ?_, frsh_no⟩
          exact rfl
        | 7, _, hoq =>
          obtain rfl : _ = o := Option.some.inj hoq
          have hs0 := hs
          replace hB := hB.tr0 hs
          replace hb2 := hb2.tr0 hs
          replace hb3 := hb3.tr0 hs
          replace ho3 := ho3.tr0 hs
          replace hb6 := hb6.tr0 hs
          replace ho6 := ho6.tr0 hs
          clear hs
          refine os_rv (r_mv (v := .int _ _) rfl) ⟨Same.refl _ _, ?_, frsh_no⟩
          exact rfl
        | 8, _, hoq =>
          obtain rfl : _ = o := Option.some.inj hoq
          have hs0 := hs
          replace hB := hB.tr0 hs
          replace hb2 := hb2.tr0 hs
          replace hb3 := hb3.tr0 hs
          replace ho3 := ho3.tr0 hs
          replace hb6 := hb6.tr0 hs
          replace ho6 := ho6.tr0 hs
          clear hs
          have d7 : gg 32 = .int .i64 i := hd 7 (dep_of (by kernel_rfl))
          have e32 := d7
          refine os_know 32 (.int .i64 i) e32 (by simp [undef]) ?_
          refine os_rv (r_add (c := ((i + 1 : Nat) : Int)) rfl rfl rfl (by omega)) ⟨Same.refl _ _, ?_, frsh_no⟩
          exact rfl
        | 9, _, hoq =>
          obtain rfl : _ = o := Option.some.inj hoq
          have hs0 := hs
          replace hB := hB.tr0 hs
          replace hb2 := hb2.tr0 hs
          replace hb3 := hb3.tr0 hs
          replace ho3 := ho3.tr0 hs
          replace hb6 := hb6.tr0 hs
          replace ho6 := ho6.tr0 hs
          clear hs
          have d6 : gg 31 = .slice (some ⟨pb, po, none⟩) (rs[k]'hlt).length cr := hd 6 (dep_of (by kernel_rfl))
          have e31 := d6
          have d8 : gg 33 = .int .i64 ((i + 1 : Nat) : Int) := hd 8 (dep_of (by kernel_rfl))
          have e33 := d8
          refine os_know 31 (.slice (some ⟨pb, po, none⟩) (rs[k]'hlt).length cr) e31 (by simp [undef]) ?_
          refine os_know 33 (.int .i64 ((i + 1 : Nat) : Int)) e33 (by simp [undef]) ?_
          refine os_rv (r_ia (i := i + 1) Tryd.underlying45 sz3 rfl rfl (by omega) rfl) ⟨Same.refl _ _, ?_, frsh_no⟩
          exact rfl
        | 10, _, hoq =>
          obtain rfl : _ = o := Option.some.inj hoq
          have hs0 := hs
          replace hB := hB.tr0 hs
          replace hb2 := hb2.tr0 hs
          replace hb3 := hb3.tr0 hs
          replace ho3 := ho3.tr0 hs
          replace hb6 := hb6.tr0 hs
          replace ho6 := ho6.tr0 hs
          clear hs
          have d9 : gg 34 = .pointer (some ⟨pb, po + (i + 1) * 1, none⟩) := hd 9 (dep_of (by kernel_rfl))
          have e34 := d9
          refine os_know 34 (.pointer (some ⟨pb, po + (i + 1) * 1, none⟩)) e34 (by simp [undef]) ?_
          refine os_rv (r_ld1 (v := .int _ _) Tryd.underlying3 rfl rfl (hcb _ hs0.bel)) ⟨Same.refl _ _, ?_, frsh_no⟩
          exact rfl
        | 11, _, hoq =>
          obtain rfl : _ = o := Option.some.inj hoq
          have hs0 := hs
          replace hB := hB.tr0 hs
          replace hb2 := hb2.tr0 hs
          replace hb3 := hb3.tr0 hs
          replace ho3 := ho3.tr0 hs
          replace hb6 := hb6.tr0 hs
          replace ho6 := ho6.tr0 hs
          clear hs
          have d5 : gg 30 = .int .i64 za := hd 5 (dep_of (by kernel_rfl))
          have e30 := d5
          have d10 : gg 35 = .int .i64 zb := hd 10 (dep_of (by kernel_rfl))
          have e35 := d10
          refine os_know 30 (.int .i64 za) e30 (by simp [undef]) ?_
          refine os_know 35 (.int .i64 zb) e35 (by simp [undef]) ?_
          refine os_rv (r_bd2 (v0 := .int _ _) (v1 := .int _ _) (fun v0 v1 => #[v0, v1]) rfl rfl (by kernel_rfl)) ⟨Same.refl _ _, ?_, frsh_no⟩
          exact rfl
        | 12, _, hoq =>
          obtain rfl : _ = o := Option.some.inj hoq
          have hs0 := hs
          replace hB := hB.tr0 hs
          replace hb2 := hb2.tr0 hs
          replace hb3 := hb3.tr0 hs
          replace ho3 := ho3.tr0 hs
          replace hb6 := hb6.tr0 hs
          replace ho6 := ho6.tr0 hs
          clear hs
          have d11 : gg 36 = .agg #[.int .i64 za, .int .i64 zb] := hd 11 (dep_of (by kernel_rfl))
          have e36 := d11
          refine os_know 36 (.agg #[.int .i64 za, .int .i64 zb]) e36 (by simp [undef]) ?_
          refine os_wl (fun ops Q K => ?_)
          refine wl_bs (cs := #[_, _]) [(0, .agg _)] rfl Tryd.underlying98 sz102 ze102 (by decide) (by decide) (by kernel_rfl) rfl (fun b37 w7 hb37 hs hr => ?_)
          exact K _ _ ⟨hs, ⟨_, rfl, Nat.le_trans hs0.size hr, hb37⟩, fun _ g hg => by cases hg; exact ⟨hr, hb37.lt⟩⟩
        | _ + 13, hix, _ => exact absurd hix (by omega)
      · intro gg w8 hs hR hdis
        have hs0 := hs
        replace hB := hB.tr0 hs
        replace hb2 := hb2.tr0 hs
        replace hb3 := hb3.tr0 hs
        replace ho3 := ho3.tr0 hs
        replace hb6 := hb6.tr0 hs
        replace ho6 := ho6.tr0 hs
        clear hs
        have d1 : gg 26 = .slice A6 j cap6 := hR 1 (by decide)
        have e26 := d1
        have d12 : ∃ b, gg 37 = .slice (some ⟨b, 0, none⟩) 1 1 ∧ w6.heap.size ≤ b ∧ Blk w8 b 102 #[.int .i64 za, .int .i64 zb] := hR 12 (by decide)
        obtain ⟨b37, e37, lo37, hb37⟩ := d12
        have hsm : _ ≤ w8.heap.size := hs0.size
        refine wl_know 26 (.slice A6 j cap6) e26 (by simp [undef]) ?_
        refine wl_know 37 (.slice (some ⟨b37, 0, none⟩) 1 1) e37 (by simp [undef]) ?_
        refine wl_app Tryd.underlying98 in102 rfl (by decide) ho6 hb37 rfl rfl rfl (by repeat (first | rfl | refine one_cons (by first | rfl | assumption) ?_)) (by decide) (by omega) (by omega) (Nat.le_trans z6 hsm) (fun g38 cap38 w9 ho38 hs hg => ?_)
        have ne_ho38_b2 : g38 ≠ b2 := fun e => by
          have hl := hb2.lt
          rcases hg with hg | hg
          · have h1 := ho6.lt g38 (by rw [hg]; exact List.mem_singleton.2 rfl)
            (try have := or_ho6_b2 g38 (by rw [hg]; exact List.mem_singleton.2 rfl)); omega
          · omega
        have ne_ho38_b3 : g38 ≠ b3 := fun e => by
          have hl := hb3.lt
          rcases hg with hg | hg
          · have h1 := ho6.lt g38 (by rw [hg]; exact List.mem_singleton.2 rfl)
            (try have := or_ho6_b3 g38 (by rw [hg]; exact List.mem_singleton.2 rfl)); omega
          · omega
        have ne_ho38_b6 : g38 ≠ b6 := fun e => by
          have hl := hb6.lt
          rcases hg with hg | hg
          · have h1 := ho6.lt g38 (by rw [hg]; exact List.mem_singleton.2 rfl)
            (try have := or_ho6_b6 g38 (by rw [hg]; exact List.mem_singleton.2 rfl)); omega
          · omega
        replace hB := hB.tr hs (fun g hg => Nat.le_trans (Nat.le_succ_of_le lo6) (ho6.lt g hg).1)
        replace hb2 := hb2.tr hs (fun hx => by have := (ho6.lt _ hx).1; (try have := or_ho6_b2 _ hx); omega)
        replace hb3 := hb3.tr hs (fun hx => by have := (ho6.lt _ hx).1; (try have := or_ho6_b3 _ hx); omega)
        replace ho3 := ho3.tr hs (fun g hg hx => by have := (ho6.lt _ hx).1; have := (ho3.lt _ hg).1; (try have := or_ho3_b2 _ hg); (try have := or_ho6_b2 _ hx); (try have := or_ho3_b3 _ hg); (try have := or_ho6_b3 _ hx); (try have := or_ho3_b6 _ hg); (try have := or_ho6_b6 _ hx); (try have := or_ho3_b37 _ hg); (try have := or_ho6_b37 _ hx); omega)
        replace hb6 := hb6.tr hs (fun hx => by have := (ho6.lt _ hx).1; (try have := or_ho6_b6 _ hx); omega)
        refine wl (r_fa Tryd.underlying100 sz98 (by decide) rfl rfl rfl) ?_
        refine wl_st1 (v := .slice _ _ _) hb6 rfl rfl sz98 (by first | decide | simp) rfl rfl (fun w10 hq hs => ?_)
        replace hB := hB.tr1 hs lo6
        replace hb2 := hb2.tr1 hs (by omega)
        replace hb3 := hb3.tr1 hs (by omega)
        replace ho3 := ho3.tr1 hs (fun g hg => by have := (ho3.lt g hg).1; (try have := or_ho3_b6 g hg); (try simp only [aL, List.mem_singleton] at hg); omega)
        replace ho38 := ho38.tr1 hs (fun g hg => by have := (ho38.lt g hg).1; (try have := or_ho38_b6 g hg); (try simp only [aL, List.mem_singleton] at hg); omega)
        clear hs
        replace hb6 := hq
        refine x_nil ?_
        refine e_B ?_
        refine e_S ?_
        refine c_region ?_
        refine wl (r_mv (v := .int _ _) rfl) ?_
        refine wl (r_add (c := ((i + 2 : Nat) : Int)) rfl rfl rfl (by omega)) ?_
        refine wl (r_as (v := .int _ _) rfl) ?_
        refine x_nil ?_
        refine e_LS ((rs[k]'hlt).length + 2 - (i + 2)) (by omega) (by repeat (first | exact ag_refl | exact ag_ovr' | refine ag_upd rfl ?_ | refine ag_sub rfl ?_ | refine ag_kn (by assumption) ?_)) ?_
        exact ⟨i + 2, j + 1, _, _, _, by omega, by omega, by omega, rfl, rfl, hB, hb2, hb3, ho3, hb6, ho38⟩
    · skip
      refine c_exit ?_
      refine e_Sx ?_
      refine e_LSx ?_
      refine e_Bx ?_
      refine e_S ?_
      refine c_region ?_
      refine wl (r_fa Tryd.underlying34 sz32 (by decide) rfl rfl rfl) ?_
      refine wl (r_ld1 (v := .slice _ _ _) Tryd.underlying32 rfl rfl (hb3.cell rfl)) ?_
      refine wl (r_ldS Tryd.underlying100 rfl rfl hb6.range0 sz100) ?_
      refine wl_bs (cs := #[_, _]) [(0, .agg _)] rfl Tryd.underlying32 sz100 ze100 (by decide) (by decide) (by kernel_rfl) rfl (fun b43 w11 hb43 hs hr => ?_)
      have or_b2_b43 : b2 < b43 := Nat.lt_of_lt_of_le hb2.lt hr
      have or_b3_b43 : b3 < b43 := Nat.lt_of_lt_of_le hb3.lt hr
      have or_ho3_b43 := fun g hg => Nat.lt_of_lt_of_le (ho3.lt g hg).2 hr
      have or_b6_b43 : b6 < b43 := Nat.lt_of_lt_of_le hb6.lt hr
      have or_ho6_b43 := fun g hg => Nat.lt_of_lt_of_le (ho6.lt g hg).2 hr
      have lo43 := Nat.le_trans (Bel.size hB) hr
      replace hB := hB.tr0 hs
      replace hb2 := hb2.tr0 hs
      replace hb3 := hb3.tr0 hs
      replace ho3 := ho3.tr0 hs
      replace hb6 := hb6.tr0 hs
      replace ho6 := ho6.tr0 hs
      clear hs
      clear hr
      refine wl_app Tryd.underlying32 in100 rfl (by decide) ho3 hb43 rfl rfl rfl (by repeat (first | rfl | refine one_cons (by first | rfl | assumption) ?_)) (by decide) (by omega) (by omega) hb3.lt (fun g44 cap44 w12 ho44 hs hg => ?_)
      have ne_ho44_b2 : g44 ≠ b2 := fun e => by
        have hl := hb2.lt
        rcases hg with hg | hg
        · have h1 := ho3.lt g44 (by rw [hg]; exact List.mem_singleton.2 rfl)
          (try have := or_ho3_b2 g44 (by rw [hg]; exact List.mem_singleton.2 rfl)); omega
        · omega
      have ne_ho44_b3 : g44 ≠ b3 := fun e => by
        have hl := hb3.lt
        rcases hg with hg | hg
        · have h1 := ho3.lt g44 (by rw [hg]; exact List.mem_singleton.2 rfl)
          (try have := or_ho3_b3 g44 (by rw [hg]; exact List.mem_singleton.2 rfl)); omega
        · omega
      have ne_ho44_b6 : g44 ≠ b6 := fun e => by
        have hl := hb6.lt
        rcases hg with hg | hg
        · have h1 := ho3.lt g44 (by rw [hg]; exact List.mem_singleton.2 rfl)
          (try have := or_ho3_b6 g44 (by rw [hg]; exact List.mem_singleton.2 rfl)); omega
        · omega
      replace hB := hB.tr hs (fun g hg => Nat.le_trans (Nat.le_succ_of_le lo3) (ho3.lt g hg).1)
      replace hb2 := hb2.tr hs (fun hx => by have := (ho3.lt _ hx).1; (try have := or_ho3_b2 _ hx); omega)
      replace hb3 := hb3.tr hs (fun hx => by have := (ho3.lt _ hx).1; (try have := or_ho3_b3 _ hx); omega)
      replace hb6 := hb6.tr hs (fun hx => by have := (ho3.lt _ hx).1; (try have := or_ho3_b6 _ hx); omega)
      replace ho6 := ho6.tr hs (fun g hg hx => by have := (ho3.lt _ hx).1; have := (ho6.lt _ hg).1; (try have := or_ho6_b2 _ hg); (try have := or_ho3_b2 _ hx); (try have := or_ho6_b3 _ hg); (try have := or_ho3_b3 _ hx); (try have := or_ho6_b6 _ hg); (try have := or_ho3_b6 _ hx); (try have := or_ho6_b43 _ hg); (try have := or_ho3_b43 _ hx); omega)
      refine wl (r_fa Tryd.underlying34 sz32 (by decide) rfl rfl rfl) ?_
      refine wl_st1 (v := .slice _ _ _) hb3 rfl rfl sz32 (by first | decide | simp) rfl rfl (fun w13 hq hs => ?_)
      replace hB := hB.tr1 hs lo3
      replace hb2 := hb2.tr1 hs (by omega)
      replace hb6 := hb6.tr1 hs (by omega)
      replace ho6 := ho6.tr1 hs (fun g hg => by have := (ho6.lt g hg).1; (try have := or_ho6_b3 g hg); (try simp only [aL, List.mem_singleton] at hg); omega)
      replace ho44 := ho44.tr1 hs (fun g hg => by have := (ho44.lt g hg).1; (try have := or_ho44_b3 g hg); (try simp only [aL, List.mem_singleton] at hg); omega)
      clear hs
      replace hb3 := hq
      refine x_nil ?_
      refine e_B ?_
      refine e_S ?_
      refine c_region ?_
      refine wl (r_add rfl rfl rfl (by omega)) ?_
      refine wl (r_mv (v := .int _ _) rfl) ?_
      refine x_nil ?_
      refine e_LS (rs.length - (k + 1)) (by omega) (by repeat (first | exact ag_refl | exact ag_ovr' | refine ag_upd rfl ?_ | refine ag_sub rfl ?_ | refine ag_kn (by assumption) ?_)) ?_
      exact ⟨k + 1, _, _, _, by omega, rfl, rfl, hB, hb2, hb3, ho44⟩
  · skip
    refine c_exit ?_
    refine e_Sx ?_
    refine e_LSx ?_
    refine e_Bx ?_
    refine e_S ?_
    refine c_seq ?_
    refine c_region ?_
    refine wl (r_ldS Tryd.underlying34 rfl rfl hb3.range0 sz34) ?_
    refine wl_stW hb2 rfl rfl sz34 rfl (by repeat (first | rfl | refine one_cons (by first | rfl | assumption) ?_)) (fun w14 hq hs => ?_)
    replace hB := hB.tr1 hs lo2
    replace hb3 := hb3.tr1 hs (by omega)
    replace ho3 := ho3.tr1 hs (fun g hg => by have := (ho3.lt g hg).1; (try have := or_ho3_b2 g hg); (try simp only [aL, List.mem_singleton] at hg); omega)
    clear hs
    replace hb2 := hq
    refine x_nil ?_
    refine e_S ?_
    refine c_ret ?_
    refine fin1 (.inl rfl) rfl (rr_cell Tryd.underlying34 rfl rfl hb2.range0 sz34) ?_
    exact ⟨⟨_, rfl, rfl⟩, hB⟩
end Go.Proofs.YthhkbhapfcfdjaaDoor
