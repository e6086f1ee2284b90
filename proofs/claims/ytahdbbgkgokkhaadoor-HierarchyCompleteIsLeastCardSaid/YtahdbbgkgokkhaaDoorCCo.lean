/- What these functions of the program compute, at every world: glosswright/hierarchy.Complete. -/
import Derived.Test.YtahdbbgkgokkhaaDoorCMo
import Derived.Test.YtahdbbgkgokkhaaDoorCpq
import Derived.Test.YtahdbbgkgokkhaaDoorTypes
import Derived.Test.YtahdbbgkgokkhaaDoorValid
namespace Go.Proofs.YtahdbbgkgokkhaaDoor
open Go.RowKit

theorem fn14 : callable Tryd.prog 14 = true := by kernel_rfl
theorem fn15 : callable Tryd.prog 15 = true := by kernel_rfl
theorem fn16 : callable Tryd.prog 16 = true := by kernel_rfl
theorem fn17 : callable Tryd.prog 17 = true := by kernel_rfl
theorem fn19 : callable Tryd.prog 19 = true := by kernel_rfl
theorem fn26 : callable Tryd.prog 26 = true := by kernel_rfl
theorem in3 : (Tryd.prog.info? 3).map (fun i => (i.zero, i.size, i.bytes)) = some (some (.int .i64 0), 1, 8) := by kernel_rfl
theorem in35 : (Tryd.prog.info? 35).map (fun i => (i.zero, i.size, i.bytes)) = some (some (.agg #[.string ⟨#[]⟩, .slice none 0 0]), 2, 40) := by kernel_rfl
theorem ze49 : (Tryd.prog.info? 49).map (·.zero) = some (some (.int .u64 0)) := by kernel_rfl
set_option maxRecDepth 100000 in
set_option maxHeartbeats 4000000 in
theorem complete_any (A : Option Addr) (c : Nat) (l : List Ty) (w : World) (hT : TypesIn w A l) (hTab : TabIn w) : Calls Tryd.prog 5 #[.slice A l.length c] w fun e w' => (((typesFault l).1 ≠ 0 ∧ e = .returned (.tuple #[.slice none 0 0, flV (typesFault l)])) ∨ ((typesFault l).1 = 0 ∧ compS l = none ∧ e = .returned (.tuple #[.slice none 0 0, flV (17, -1)])) ∨ ((typesFault l).1 = 0 ∧ ∃ (ds D : List Nat) (B : Option Addr) (cp : Nat), compS l = some (base l ++ ds) ∧ D.Perm ds ∧ D.Pairwise (fun x y => ¬ cmpU y x < 0) ∧ e = .returned (.tuple #[.slice B (outL l D).length cp, flV (0, 0)]) ∧ TypesIn w' B (outT (outL l D)) ∧ (outL l D).length ≤ cp)) ∧ Bel w w' := by
 refine enter Tryd.func5 Tryd.ntmps5 rfl (Nat.le_of_ble_eq_true rfl) ?_
 have hB : Bel w w := Below.refl _ _
 refine c_seq ?_
 refine c_region ?_
 refine wl (r_as (v := .slice _ _ _) rfl) ?_
 refine wl_al (cs := #[.int .i64 0, .int .i64 0]) ze24 rfl (fun b3 w1 hb3 hs hr => ?_)
 have lo3 := Nat.le_trans (Bel.size hB) hr
 replace hB := hB.tr0 hs
 clear hs
 clear hr
 refine x_nil ?_
 refine e_S ?_
 refine c_seq ?_
 refine c_seq ?_
 refine c_region ?_
 refine wl (r_mv (v := .slice _ _ _) rfl) ?_
 refine wl_cl fn14 (types_any _ _ _ _ (hT.mono hB)) rfl (fun e' w2 hr => ?_)
 obtain ⟨rfl, hs⟩ := hr
 replace hs := Same.of_bel hs
 replace hB := hB.tr0 hs
 replace hb3 := hb3.tr0 hs
 clear hs
 refine ⟨_, rfl, ?_⟩
 refine wl_al (cs := #[.int .i64 0, .int .i64 0]) ze24 rfl (fun b4 w3 hb4 hs hr => ?_)
 have or_b3_b4 : b3 < b4 := Nat.lt_of_lt_of_le hb3.lt hr
 have lo4 := Nat.le_trans (Bel.size hB) hr
 replace hB := hB.tr0 hs
 replace hb3 := hb3.tr0 hs
 clear hs
 clear hr
 refine wl_stW hb4 rfl rfl sz24 rfl (by repeat (first | rfl | refine one_cons (by first | rfl | assumption) ?_)) (fun w4 hq hs => ?_)
 replace hB := hB.tr1 hs lo4
 replace hb3 := hb3.tr1 hs (by omega)
 clear hs
 replace hb4 := hq
 refine x_nil ?_
 refine e_S ?_
 refine c_seq ?_
 refine c_region ?_
 refine wl (r_fa Tryd.underlying24 sz3_Tables (by decide) rfl rfl rfl) ?_
 refine wl (r_ld1 (v := .int _ _) Tryd.underlying3 rfl rfl (hb4.cell rfl)) ?_
 refine wl (r_neq rfl rfl) ?_
 refine x_nil ?_
 refine e_S ?_
 refine c_ifd rfl (fun c31 => ?_) (fun c31 => ?_)
 ·
  have hf : (typesFault l).1 ≠ 0 := c31
  refine c_seq ?_
  refine c_tail 2 (by kernel_rfl) (by kernel_rfl) (fun w5 hs => ?_)
  replace hB := hB.tr0 hs
  replace hb3 := hb3.tr0 hs
  replace hb4 := hb4.tr0 hs
  clear hs
  refine ws (r_ldS Tryd.underlying24 rfl rfl hb4.range0 sz24) ?_
  refine ws (r_as (v := .slice _ _ _) rfl) ?_
  refine s_tail ?_
  refine wl_stW hb3 rfl rfl sz24 rfl (by repeat (first | rfl | refine one_cons (by first | rfl | assumption) ?_)) (fun w6 hq hs => ?_)
  replace hB := hB.tr1 hs lo3
  replace hb4 := hb4.tr1 hs (by omega)
  clear hs
  replace hb3 := hq
  refine x_nil ?_
  refine e_S ?_
  refine c_ret ?_
  refine e_Sr ?_
  refine fin2 (.inl rfl) rfl rfl (rr_cell Tryd.underlying24 rfl rfl hb3.range0 sz24) ?_
  exact ⟨.inl ⟨hf, rfl⟩, hB⟩
 ·
  have ht0 : (typesFault l).1 = 0 := Decidable.not_not.1 c31
  have hv := vt_of ht0
  have htl := types_len ht0
  have h60 : l.length ≤ 60 := by omega
  have hpos : 0 < l.length := by omega
  refine c_skip ?_
  refine e_S ?_
  refine c_seq ?_
  refine c_region ?_
  refine wl (r_mv (v := .slice _ _ _) rfl) ?_
  refine wl_cl fn15 (tables_any _ _ _ _ (hT.mono hB) hv h60) rfl (fun e' w7 hr => ?_)
  obtain ⟨bu, bd, rfl, ⟨hbu, hbd⟩, hs⟩ := hr
  replace hs := Same.of_bel hs
  replace hB := hB.tr0 hs
  replace hb3 := hb3.tr0 hs
  replace hb4 := hb4.tr0 hs
  clear hs
  obtain ⟨wU, hwU⟩ : ∃ z, z = w7 := ⟨_, rfl⟩
  have hBU : Bel wU w7 := by rw [hwU]; exact Below.refl _ _
  have hS0 : UIn wU (some ⟨bd, 0, none⟩) (base l) := by rw [hwU]; exact row_uin hbd (by omega)
  have hTU : TypesIn wU A l := by rw [hwU]; exact hT.mono hB
  have hTabU : TabIn wU := by rw [hwU]; exact hTab.mono hB
  have sU : w.heap.size ≤ wU.heap.size := by rw [hwU]; exact Bel.size hB
  have lt3U : b3 < wU.heap.size := by rw [hwU]; exact hb3.lt
  have hbl := base_len l
  have hbb : ∀ x ∈ base l, x < 18446744073709551616 := fun x hx => by
    obtain ⟨k, _, rfl⟩ := List.mem_map.1 hx
    exact downN_lt h60 k
  clear hwU hbu hbd
  refine ⟨_, rfl, ?_⟩
  refine wl (r_fd1 (v := .slice _ _ _) Tryd.underlying47 rfl Tryd.underlying45 rfl rfl rfl) ?_
  refine wl (r_as (v := .slice _ _ _) rfl) ?_
  refine x_nil ?_
  refine e_S ?_
  refine c_seq ?_
  refine c_region ?_
  refine wl (r_as (v := .slice _ _ _) rfl) ?_
  refine x_nil ?_
  refine e_S ?_
  refine c_seq ?_
  refine c_seq ?_
  refine c_region ?_
  refine wl (r_as (v := .int _ _) rfl) ?_
  refine x_nil ?_
  refine e_S ?_
  refine c_block ?_
  refine c_loopS [2, 6, 7, 8, 9, 36, 37, 38, 39, 40, 41, 42, 43, 44, 45, 46, 47, 48, 49, 50, 51, 52, 53, 54, 55, 56, 57, 58, 59, 60, 61, 62, 63, 64, 65, 66, 67, 68, 69, 70, 71, 72, 73, 74, 75, 76, 77, 78, 79, 80, 81] (fun m g w' => ∃ (i f : Nat) (ds : List Nat) (A6 : Option Addr) (c6 : Nat), i + f = 61 ∧ m = f ∧ g 7 = .int .i64 i ∧ g 6 = .slice A6 ds.length c6 ∧ i ≤ l.length + ds.length ∧ compS l = clO f (base l ++ ds) i ∧ l.length + ds.length ≤ 60 ∧ (∀ x ∈ ds, x < 18446744073709551616) ∧ Bel w w' ∧ Bel wU w' ∧ Blk w' b3 24 #[.int .i64 0, .int .i64 0] ∧ Own w' wU.heap.size 49 1 A6 (ds).length c6 ((ds).map uV)) (61) ?_ (fun m g7 w8 hI => ?_)
  ·
   exact ⟨0, 61, [], none, 0, rfl, rfl, rfl, rfl, Nat.zero_le _, by rw [List.append_nil]; rfl, h60, (fun x hx => by cases hx), hB, hBU, hb3, Own.nil _ _ _ _⟩
  obtain ⟨i, f, ds, A6, c6, hif, hm, h7, h6, hil, hC, hd60, hdb, hB, hBU, hb3, ho⟩ := hI
  refine c_know 7 (.int .i64 i) h7 (by simp [undef]) ?_
  refine c_know 6 (.slice A6 ds.length c6) h6 (by simp [undef]) ?_
  refine c_seq ?_
  refine c_seq ?_
  refine c_region ?_
  refine wl (r_mv (v := .int _ _) rfl) ?_
  refine wl (r_mv (v := .slice _ _ _) rfl) ?_
  refine wl (r_len Tryd.underlying22 rfl) ?_
  refine wl (r_mv (v := .slice _ _ _) rfl) ?_
  refine wl (r_len Tryd.underlying45 rfl) ?_
  refine wl (r_add rfl rfl rfl (by omega)) ?_
  refine wl (r_lss rfl rfl) ?_
  refine x_nil ?_
  refine e_S ?_
  refine c_ifd rfl (fun c42 => ?_) (fun c42 => ?_)
  ·
   have hlt : i < l.length + ds.length := by omega
   obtain ⟨f', rfl⟩ : ∃ f', f = f' + 1 := ⟨f - 1, by omega⟩
   rw [clO_row (by rw [List.length_append, hbl]; exact hlt)] at hC
   refine c_skip ?_
   refine e_S ?_
   refine c_seq ?_
   refine c_block ?_
   refine c_seq ?_
   refine c_region ?_
   refine wl (r_mv (v := .int _ _) rfl) ?_
   refine wl (r_mv (v := .int _ _) rfl) ?_
   refine x_nil ?_
   refine e_S ?_
   refine c_block ?_
   refine c_loopS [2, 6, 8, 9, 46, 47, 48, 49, 50, 51, 52, 53, 54, 55, 56, 57, 58, 59, 60, 61, 62, 63, 64, 65, 66, 67, 68, 69, 70, 71, 72, 73, 74, 75, 76, 77, 78, 79, 80, 81] (fun m g w' => ∃ (j : Nat) (ds : List Nat) (A6 : Option Addr) (c6 : Nat), j ≤ i ∧ m = i - j ∧ g 46 = .int .i64 j ∧ g 6 = .slice A6 ds.length c6 ∧ i < l.length + ds.length ∧ compS l = clK f' (base l ++ ds) i j ∧ l.length + ds.length ≤ 60 ∧ (∀ x ∈ ds, x < 18446744073709551616) ∧ Bel w w' ∧ Bel wU w' ∧ Blk w' b3 24 #[.int .i64 0, .int .i64 0] ∧ Own w' wU.heap.size 49 1 A6 (ds).length c6 ((ds).map uV)) (i) ?_ (fun m g10 w9 hI => ?_)
   ·
    exact ⟨0, ds, A6, c6, Nat.zero_le _, rfl, rfl, rfl, hlt, hC, hd60, hdb, hB, hBU, hb3, ho⟩
   obtain ⟨j, ds, A6, c6, hj, hmj, h46, h6, hlt, hC, hd60, hdb, hB, hBU, hb3, ho⟩ := hI
   refine c_know 46 (.int .i64 j) h46 (by simp [undef]) ?_
   refine c_know 6 (.slice A6 ds.length c6) h6 (by simp [undef]) ?_
   refine c_seq ?_
   refine c_region ?_
   refine wl (r_lss rfl rfl) ?_
   refine x_nil ?_
   refine e_S ?_
   refine c_seq ?_
   refine c_ifd rfl (fun c47 => ?_) (fun c47 => ?_)
   ·
    have hji : j < i := by omega
    have hDs := (UOwn.in_ ho)
    have hxi : (base l ++ ds).getD i 0 < 18446744073709551616 := by
      rcases List.mem_append.1 (getD_mem (S := (base l ++ ds)) (i := i) (by rw [List.length_append, hbl]; exact hlt)) with h | h
      · exact hbb _ h
      · exact hdb _ h
    have hxj : (base l ++ ds).getD j 0 < 18446744073709551616 := by
      rcases List.mem_append.1 (getD_mem (S := (base l ++ ds)) (i := j) (by rw [List.length_append, hbl]; omega)) with h | h
      · exact hbb _ h
      · exact hdb _ h
    have hxb : mt (base l ++ ds) i j < 18446744073709551616 := Nat.lt_of_le_of_lt Nat.and_le_left hxi
    refine c_skip ?_
    refine e_S ?_
    refine c_seq ?_
    refine c_block ?_
    refine c_seq ?_
    refine c_region ?_
    refine wl (r_mv (v := .int _ _) rfl) ?_
    refine wl (r_as (v := .int _ _) rfl) ?_
    refine x_nil ?_
    refine e_S ?_
    refine c_seq ?_
    refine c_region ?_
    refine wl (r_mv (v := .slice _ _ _) rfl) ?_
    refine wl (r_mv (v := .slice _ _ _) rfl) ?_
    refine wl (r_mv (v := .int _ _) rfl) ?_
    refine wl_cl fn16 (mof_any _ (hS0.mono hBU) (UOwn.in_ ho) hbl rfl hlt) rfl (fun e' w10 hr => ?_)
    obtain ⟨rfl, rfl⟩ := hr
    refine ⟨_, rfl, ?_⟩
    refine wl (r_mv (v := .slice _ _ _) rfl) ?_
    refine wl (r_mv (v := .slice _ _ _) rfl) ?_
    refine wl (r_mv (v := .int _ _) rfl) ?_
    refine wl_cl fn16 (mof_any _ (hS0.mono hBU) (UOwn.in_ ho) hbl rfl (by omega)) rfl (fun e' w11 hr => ?_)
    obtain ⟨rfl, rfl⟩ := hr
    refine ⟨_, rfl, ?_⟩
    refine wl (r_andU rfl rfl hxi hxj) ?_
    refine wl (r_as (v := .int .u64 ((mt (base l ++ ds) i j : Nat) : Int)) rfl) ?_
    refine x_nil ?_
    refine e_S ?_
    refine c_seq ?_
    refine c_seq ?_
    refine c_cut1 [58, 59, 60, 61, 62, 63, 64, 65, 66, 67, 68, 69] 69 (.bool (decide (mt (base l ++ ds) i j = 0 ∨ mt (base l ++ ds) i j ∈ (base l ++ ds)))) (by simp [undef]) ?_ (fun gq => ?_)
    ·
     refine c_region ?_
     refine wl (r_mv (v := .int _ _) rfl) ?_
     refine wl (r_eql rfl rfl) ?_
     refine wl (r_mv (v := .bool _) rfl) ?_
     refine wl_casesd 60 rfl (fun g60 => ?_) (fun g60 => ?_)
     ·
      refine wlgn 60 rfl rfl rfl ?_
      refine wlgn 60 rfl rfl rfl ?_
      refine wlgn 60 rfl rfl rfl ?_
      refine wl (r_pt (v := .bool _) rfl rfl) ?_
      refine wl (r_mv (v := .bool _) rfl) ?_
      refine wlgn 65 rfl rfl rfl ?_
      refine wlgn 65 rfl rfl rfl ?_
      refine wlgn 65 rfl rfl rfl ?_
      refine wl (r_pt (v := .bool _) rfl rfl) ?_
      refine x_nil (e_R ⟨rfl, (by repeat (first | exact ag_refl | exact ag_ovr' | refine ag_upd rfl ?_ | refine ag_sub rfl ?_ | refine ag_kn (by assumption) ?_)), ?_⟩)
      show Value.bool _ = Value.bool _
      first | exact cl1 g60 | exact cl2 g65 | exact cl3 g60 g65
     ·
      refine wl_gd 60 rfl rfl ?_
      refine wl (r_mv (v := .slice _ _ _) rfl) ?_
      refine wl_gd 60 rfl rfl ?_
      refine wl (r_mv (v := .int _ _) rfl) ?_
      refine wl_gd 60 rfl rfl ?_
      refine wl_cl fn17 (uct_any _ (hS0.mono hBU) hbl) rfl (fun e' w12 hr => ?_)
      obtain ⟨rfl, rfl⟩ := hr
      refine ⟨_, rfl, ?_⟩
      refine wl (r_pf (v := .bool _) rfl rfl) ?_
      refine wl (r_mv (v := .bool _) rfl) ?_
      refine wl_cases 65 rfl (fun g65 => ?_) (fun g65 => ?_)
      ·
       refine wlgn 65 rfl rfl rfl ?_
       refine wlgn 65 rfl rfl rfl ?_
       refine wlgn 65 rfl rfl rfl ?_
       refine wl (r_pt (v := .bool _) rfl rfl) ?_
       refine x_nil (e_R ⟨rfl, (by repeat (first | exact ag_refl | exact ag_ovr' | refine ag_upd rfl ?_ | refine ag_sub rfl ?_ | refine ag_kn (by assumption) ?_)), ?_⟩)
       show Value.bool _ = Value.bool _
       first | exact cl1 g60 | exact cl2 g65 | exact cl3 g60 g65
      ·
       refine wl_gd 65 rfl rfl ?_
       refine wl (r_mv (v := .slice _ _ _) rfl) ?_
       refine wl_gd 65 rfl rfl ?_
       refine wl (r_mv (v := .int _ _) rfl) ?_
       refine wl_gd 65 rfl rfl ?_
       refine wl_cl fn17 (uct_any _ (UOwn.in_ ho) rfl) rfl (fun e' w13 hr => ?_)
       obtain ⟨rfl, rfl⟩ := hr
       refine ⟨_, rfl, ?_⟩
       refine wl (r_pf (v := .bool _) rfl rfl) ?_
       refine x_nil (e_R ⟨rfl, (by repeat (first | exact ag_refl | exact ag_ovr' | refine ag_upd rfl ?_ | refine ag_sub rfl ?_ | refine ag_kn (by assumption) ?_)), ?_⟩)
       show Value.bool _ = Value.bool _
       first | exact cl1 g60 | exact cl2 g65 | exact cl3 g60 g65
    refine e_S ?_
    refine c_ifd rfl (fun c69 => ?_) (fun c69 => ?_)
    ·
     have hx := c69
     refine c_exit ?_
     refine e_Sx ?_
     refine e_Bx ?_
     refine e_S ?_
     refine c_region ?_
     refine wl (r_add rfl rfl rfl (by omega)) ?_
     refine wl (r_mv (v := .int _ _) rfl) ?_
     refine x_nil ?_
     refine e_LS (i - (j + 1)) (by omega) (by repeat (first | exact ag_refl | exact ag_ovr' | refine ag_upd rfl ?_ | refine ag_sub rfl ?_ | refine ag_kn (by assumption) ?_)) ?_
     first
       | exact ⟨j + 1, ds, A6, c6, by omega, rfl, rfl, rfl, hlt, by rw [hC, clK_skip hji hx], hd60, hdb, hB, hBU, hb3, ho⟩
       | exact ⟨j + 1, ds ++ [mt (base l ++ ds) i j], _, _, by omega, rfl, rfl, usl_snoc _ _ _ _, by rw [List.length_append]; omega, by rw [hC, clK_add hji hx (by rw [List.length_append, hbl]; omega), List.append_assoc], by rw [List.length_append]; simp only [List.length_cons, List.length_nil]; omega, fun x hxm => (List.mem_append.1 hxm).elim (hdb x) (fun h => by rw [List.mem_singleton.1 h]; exact hxb), hB, hBU, hb3, uown_snoc ho73⟩
    ·
     have hx := c69
     refine c_skip ?_
     refine e_S ?_
     refine c_seq ?_
     refine c_region ?_
     refine wl (r_mv (v := .slice _ _ _) rfl) ?_
     refine wl (r_mv (v := .int _ _) rfl) ?_
     refine wl_bs (cs := #[_]) [(0, .int _ _)] rfl Tryd.underlying45 sz49_CMo ze49 (by decide) (by decide) (by kernel_rfl) rfl (fun b72 w14 hb72 hs hr => ?_)
     have or_b3_b72 : b3 < b72 := Nat.lt_of_lt_of_le hb3.lt hr
     have or_ho_b72 := fun g hg => Nat.lt_of_lt_of_le (ho.lt g hg).2 hr
     have lo72 := Nat.le_trans (Bel.size hB) hr
     have lo_hBU_b72 := Nat.le_trans (Bel.size hBU) hr
     replace hB := hB.tr0 hs
     replace hb3 := hb3.tr0 hs
     replace hBU := hBU.tr0 hs
     replace ho := ho.tr0 hs
     clear hs
     clear hr
     refine wl_app Tryd.underlying45 in49 rfl (by decide) ho hb72 rfl rfl rfl (by repeat (first | rfl | refine one_cons (by first | rfl | assumption) ?_)) (by decide) (by omega) (by omega) (Bel.size hBU) (fun g73 cap73 w15 ho73 hs hg => ?_)
     have ne_ho73_b3 : g73 ≠ b3 := fun e => by
      have hl := hb3.lt
      rcases hg with hg | hg
      · have h1 := ho.lt g73 (by rw [hg]; exact List.mem_singleton.2 rfl)
        (try have := or_ho_b3 g73 (by rw [hg]; exact List.mem_singleton.2 rfl)); omega
      · omega
     replace hB := hB.tr hs (fun g hg => Nat.le_trans (by omega) (ho.lt g hg).1)
     replace hb3 := hb3.tr hs (fun hx => by have := (ho.lt _ hx).1; (try have := or_ho_b3 _ hx); omega)
     replace hBU := hBU.tr hs (fun g hg => Nat.le_trans (by omega) (ho.lt g hg).1)
     refine wl (r_as (v := .slice _ _ _) rfl) ?_
     refine x_nil ?_
     refine e_S ?_
     refine c_seq ?_
     refine c_region ?_
     refine wl (r_mv (v := .slice _ _ _) rfl) ?_
     refine wl (r_len Tryd.underlying22 rfl) ?_
     refine wl (r_mv (v := .slice _ _ _) rfl) ?_
     refine wl (r_len Tryd.underlying45 rfl) ?_
     refine wl (r_add rfl rfl rfl (by omega)) ?_
     refine wl (r_gtr rfl rfl) ?_
     refine x_nil ?_
     refine e_S ?_
     refine c_ifd rfl (fun c79 => ?_) (fun c79 => ?_)
     ·
      have hN : compS l = none := by rw [hC]; exact clK_full hji hx (by rw [List.length_append, hbl]; omega)
      refine c_seq ?_
      refine c_region ?_
      refine wl_cl fn18 (fault_any _ _ _) rfl (fun e' w16 hr => ?_)
      obtain ⟨rfl, hs⟩ := hr
      replace hs := Same.of_bel hs
      replace hB := hB.tr0 hs
      replace hb3 := hb3.tr0 hs
      replace hBU := hBU.tr0 hs
      replace ho73 := ho73.tr0 hs
      clear hs
      refine ⟨_, rfl, ?_⟩
      refine wl (r_as (v := .slice _ _ _) rfl) ?_
      refine wl_stW hb3 rfl rfl sz24 rfl (by repeat (first | rfl | refine one_cons (by first | rfl | assumption) ?_)) (fun w17 hq hs => ?_)
      replace hB := hB.tr1 hs lo3
      replace ho73 := ho73.tr1 hs (fun g hg => by have := (ho73.lt g hg).1; (try have := or_ho73_b3 g hg); (try simp only [aL] at hg); (try simp only [List.mem_singleton] at hg); omega)
      clear hs
      replace hb3 := hq
      refine x_nil ?_
      refine e_S ?_
      refine c_ret ?_
      refine e_Br ?_
      refine e_Sr ?_
      refine e_LSr ?_
      refine e_Br ?_
      refine e_Br ?_
      refine e_Sr ?_
      refine e_LSr ?_
      refine e_Br ?_
      refine e_Sr ?_
      refine fin2 (.inl rfl) rfl rfl (rr_cell Tryd.underlying24 rfl rfl hb3.range0 sz24) ?_
      exact ⟨.inr (.inl ⟨ht0, hN, rfl⟩), hB⟩
     ·
      refine c_skip ?_
      refine e_B ?_
      refine e_S ?_
      refine c_region ?_
      refine wl (r_add rfl rfl rfl (by omega)) ?_
      refine wl (r_mv (v := .int _ _) rfl) ?_
      refine x_nil ?_
      refine e_LS (i - (j + 1)) (by omega) (by repeat (first | exact ag_refl | exact ag_ovr' | refine ag_upd rfl ?_ | refine ag_sub rfl ?_ | refine ag_kn (by assumption) ?_)) ?_
      first
        | exact ⟨j + 1, ds, A6, c6, by omega, rfl, rfl, rfl, hlt, by rw [hC, clK_skip hji hx], hd60, hdb, hB, hBU, hb3, ho⟩
        | exact ⟨j + 1, ds ++ [mt (base l ++ ds) i j], _, _, by omega, rfl, rfl, usl_snoc _ _ _ _, by rw [List.length_append]; omega, by rw [hC, clK_add hji hx (by rw [List.length_append, hbl]; omega), List.append_assoc], by rw [List.length_append]; simp only [List.length_cons, List.length_nil]; omega, fun x hxm => (List.mem_append.1 hxm).elim (hdb x) (fun h => by rw [List.mem_singleton.1 h]; exact hxb), hB, hBU, hb3, uown_snoc ho73⟩
   ·
    have hji : j = i := by omega
    refine c_exit ?_
    refine e_Sx ?_
    refine e_LSx ?_
    refine e_Bx ?_
    refine e_B ?_
    refine e_S ?_
    refine c_region ?_
    refine wl (r_mv (v := .int _ _) rfl) ?_
    refine wl (r_add rfl rfl rfl (by omega)) ?_
    refine wl (r_as (v := .int _ _) rfl) ?_
    refine x_nil ?_
    refine e_LS (f') (by omega) (by repeat (first | exact ag_refl | exact ag_ovr' | refine ag_upd rfl ?_ | refine ag_sub rfl ?_ | refine ag_kn (by assumption) ?_)) ?_
    exact ⟨i + 1, f', ds, A6, c6, by omega, rfl, rfl, rfl, by omega, by rw [hC, hji, clK_end], hd60, hdb, hB, hBU, hb3, ho⟩
  ·
   have hC2 : compS l = some (base l ++ ds) := by
     obtain ⟨f', rfl⟩ : ∃ f', f = f' + 1 := ⟨f - 1, by omega⟩
     rw [hC]; exact clO_end (by rw [List.length_append, hbl]; omega)
   refine c_exit ?_
   refine e_Sx ?_
   refine e_LSx ?_
   refine e_Bx ?_
   refine e_S ?_
   refine c_seq ?_
   have hdl : ds.length ≤ 60 := by omega
   have htb : 0 < wU.heap.size := hTabU.1
   refine c_region ?_
   refine wl (r_mv (v := .slice _ _ _) rfl) ?_
   refine wl_cl fn19 (sort_any ho hdl hdb (hTabU.mono hBU) htb) rfl (fun e' w18 hr => ?_)
   obtain ⟨rfl, D, hperm, hpw, hDl, hoD, hs⟩ := hr
   replace hB := hB.tr hs (fun g hg => Nat.le_trans (by omega) (ho.lt g hg).1)
   replace hb3 := hb3.tr hs (fun hx => by have := (ho.lt _ hx).1; (try have := or_ho_b3 _ hx); omega)
   replace hBU := hBU.tr hs (fun g hg => Nat.le_trans (by omega) (ho.lt g hg).1)
   refine ⟨_, rfl, ?_⟩
   refine x_nil ?_
   refine e_S ?_
   refine c_seq ?_
   obtain ⟨wD, hwD⟩ : ∃ z, z = w18 := ⟨_, rfl⟩
   have hBD : Bel wD w18 := by rw [hwD]; exact Below.refl _ _
   have hBU2 : Bel wU wD := by rw [hwD]; exact hBU
   have hDn : UIn wD A6 D := by rw [hwD]; exact UOwn.in_ hoD
   have hcD : D.length ≤ c6 := Own.cap_le hoD
   have hS1 := hS0.mono hBU2
   have hT1 := hTU.mono hBU2
   have hTab1 := hTabU.mono hBU2
   have sD : wU.heap.size ≤ wD.heap.size := Bel.size hBU2
   have hdd : ∀ x ∈ D, x < 18446744073709551616 := fun x hx => hdb x (hperm.mem_iff.1 hx)
   clear hwD hBU2 hBU hoD
   refine c_region ?_
   refine wl_mm (fun b84 w19 hb84 hs hr => ?_)
   have or_b3_b84 : b3 < b84 := Nat.lt_of_lt_of_le hb3.lt hr
   have lo84 := Nat.le_trans (Bel.size hB) hr
   have lo_hBD_b84 := Nat.le_trans (Bel.size hBD) hr
   replace hB := hB.tr0 hs
   replace hb3 := hb3.tr0 hs
   replace hBD := hBD.tr0 hs
   clear hs
   clear hr
   refine wl (r_as (v := .map _) rfl) ?_
   refine x_nil ?_
   refine e_S ?_
   refine c_seq ?_
   refine c_seq ?_
   refine c_region ?_
   refine wl (r_mv (v := .slice _ _ _) rfl) ?_
   refine wl (r_len Tryd.underlying22 rfl) ?_
   refine wl (r_mv (v := .int _ _) rfl) ?_
   refine x_nil ?_
   refine e_S ?_
   refine c_block ?_
   refine c_loopS [11, 12, 87, 88, 89, 90, 91, 92, 93, 94, 95, 96] (fun m g w' => ∃ (k : Nat) (mp : List (ByteArray × Value)), k ≤ l.length ∧ m = l.length - k ∧ g 87 = .int .i64 k ∧ (∀ s, lkB mp s = seen ((l.take k).map (·.name)) s) ∧ Bel w w' ∧ Bel wD w' ∧ Blk w' b3 24 #[.int .i64 0, .int .i64 0] ∧ MapS w' b84 mp) (l.length) ?_ (fun m g21 w20 hI => ?_)
   ·
    exact ⟨0, [], Nat.zero_le _, rfl, rfl, fun s => rfl, hB, hBD, hb3, hb84⟩
   obtain ⟨k, mp, hk, hm, h87, hmp, hB, hBD, hb3, hb84⟩ := hI
   refine c_know 87 (.int .i64 k) h87 (by simp [undef]) ?_
   refine c_seq ?_
   refine c_region ?_
   refine wl (r_lss rfl rfl) ?_
   refine x_nil ?_
   refine e_S ?_
   refine c_seq ?_
   refine c_ifd rfl (fun c88 => ?_) (fun c88 => ?_)
   ·
    have hlt : k < l.length := by omega
    obtain ⟨tb, to, A', cp, rfl, htb, htr, _⟩ := hT1.at_ hBD hlt
    refine c_skip ?_
    refine e_S ?_
    refine c_seq ?_
    refine c_block ?_
    refine c_seq ?_
    refine c_region ?_
    refine wl (r_mv (v := .int _ _) rfl) ?_
    refine wl (r_ia (i := k) Tryd.underlying22 sz35_Tables rfl rfl hlt rfl) ?_
    refine wl (r_ldS Tryd.underlying35 rfl rfl htr sz35_Tables) ?_
    refine wl_al (cs := #[.string ⟨#[]⟩, .slice none 0 0]) ze35_Tables rfl (fun b12 w21 hb12 hs hr => ?_)
    have or_b3_b12 : b3 < b12 := Nat.lt_of_lt_of_le hb3.lt hr
    have or_b84_b12 : b84 < b12 := Nat.lt_of_lt_of_le hb84.lt hr
    have lo12 := Nat.le_trans (Bel.size hB) hr
    have lo_hBD_b12 := Nat.le_trans (Bel.size hBD) hr
    replace hB := hB.tr0 hs
    replace hb3 := hb3.tr0 hs
    replace hBD := hBD.tr0 hs
    replace hb84 := hb84.tr0 hs
    clear hs
    clear hr
    refine wl (r_as (v := .int _ _) rfl) ?_
    refine wl_stW hb12 rfl rfl sz35_Tables rfl (by repeat (first | rfl | refine one_cons (by first | rfl | assumption) ?_)) (fun w22 hq hs => ?_)
    replace hB := hB.tr1 hs lo12
    replace hb3 := hb3.tr1 hs (by omega)
    replace hBD := hBD.tr1 hs lo_hBD_b12
    replace hb84 := hb84.tr1 hs (by omega)
    clear hs
    replace hb12 := hq
    refine x_nil ?_
    refine e_S ?_
    refine c_region ?_
    refine wl (r_mv (v := .map _) rfl) ?_
    refine wl (r_fa Tryd.underlying35 sz9 (by decide) rfl rfl rfl) ?_
    refine wl (r_ld1 (v := .string _) Tryd.underlying9 rfl rfl (hb12.cell rfl)) ?_
    refine wl (r_mv (v := .int _ _) rfl) ?_
    refine wl_muS (v := .int _ _) hb84 Tryd.underlying58 Tryd.underlying9 rfl rfl rfl (fun w23 hq hs => ?_)
    replace hB := hB.tr1 hs lo84
    replace hb3 := hb3.tr1 hs (by omega)
    replace hBD := hBD.tr1 hs lo_hBD_b84
    replace hb12 := hb12.tr1 hs (by omega)
    clear hs
    replace hb84 := hq
    refine x_nil ?_
    refine e_B ?_
    refine e_S ?_
    refine c_region ?_
    refine wl (r_add rfl rfl rfl (by omega)) ?_
    refine wl (r_mv (v := .int _ _) rfl) ?_
    refine x_nil ?_
    refine e_LS (l.length - (k + 1)) (by omega) (by repeat (first | exact ag_refl | exact ag_ovr' | refine ag_upd rfl ?_ | refine ag_sub rfl ?_ | refine ag_kn (by assumption) ?_)) ?_
    exact ⟨k + 1, setS mp (l[k]'hlt).name (.int .i64 k), by omega, rfl, rfl, fun s => by rw [lkB_set, hmp, take_snoc l hlt, List.map_append, List.map_cons, List.map_nil, seen_snoc], hB, hBD, hb3, hb84⟩
   ·
    have hke : k = l.length := by omega
    rw [hke, List.take_length] at hmp
    have hmu : ∀ q, lkB mp (glb q) = usedB l q := fun q => hmp _
    refine c_exit ?_
    refine e_Sx ?_
    refine e_LSx ?_
    refine e_Bx ?_
    refine e_S ?_
    refine c_seq ?_
    refine c_region ?_
    refine wl (r_as (v := .slice _ _ _) rfl) ?_
    refine x_nil ?_
    refine e_S ?_
    refine c_seq ?_
    refine c_region ?_
    refine wl (r_as (v := .slice _ _ _) rfl) ?_
    refine x_nil ?_
    refine e_S ?_
    refine c_seq ?_
    refine c_region ?_
    refine wl (r_as (v := .int _ _) rfl) ?_
    refine x_nil ?_
    refine e_S ?_
    refine c_seq ?_
    refine c_seq ?_
    have hCD : ∀ x ∈ D, DnS l x := comp_dn hv h60 hC2 hperm
    refine c_region ?_
    refine wl (r_mv (v := .slice _ _ _) rfl) ?_
    refine wl (r_len Tryd.underlying22 rfl) ?_
    refine wl (r_mv (v := .int _ _) rfl) ?_
    refine x_nil ?_
    refine e_S ?_
    refine c_block ?_
    refine c_loopS [6, 13, 14, 15, 16, 17, 18, 19, 99, 100, 101, 102, 103, 104, 105, 106, 107, 108, 109, 110, 111, 112, 113, 114, 115, 116, 117, 118, 119, 120, 121, 122, 123, 124, 125, 126, 127, 128, 129, 130, 131, 132, 133, 134, 135, 136, 137, 138, 139, 140, 141, 142, 143, 144, 145, 146, 147, 148, 149, 150, 151, 152, 153, 154, 155] (fun m g w' => ∃ (i a k cn : Nat) (Dr : List Nat) (pr : List (Nat × ByteArray)) (A6 A13 A14 : Option Addr) (c6 c13 c14 : Nat), i ≤ l.length ∧ m = l.length - i ∧ g 99 = .int .i64 i ∧ g 15 = .int .i64 a ∧ g 6 = .slice A6 Dr.length c6 ∧ g 13 = .slice A13 (pr.map Prod.fst).length c13 ∧ g 14 = .slice A14 pr.length c14 ∧ PopI l D Dr pr i a k cn ∧ UIn wD A6 Dr ∧ Dr.length ≤ c6 ∧ Bel w w' ∧ Bel wD w' ∧ Blk w' b3 24 #[.int .i64 0, .int .i64 0] ∧ MapS w' b84 mp ∧ Own w' (b84 + 1) 49 1 A13 (pr.map Prod.fst).length c13 ((pr.map Prod.fst).map uV) ∧ Own w' (b84 + 1) 35 2 A14 pr.length c14 (outV pr)) (l.length) ?_ (fun m g29 w24 hI => ?_)
    ·
     exact ⟨0, 0, _, 0, D, [], A6, none, none, c6, 0, 0, Nat.zero_le _, rfl, rfl, rfl, (show Value.slice A6 ds.length c6 = _ by rw [hDl]), rfl, rfl, PopI.start h60 hCD hpw (by omega), hDn, hcD, hB, hBD, hb3, hb84, Own.nil _ _ _ _, Own.nil _ _ _ _⟩
    obtain ⟨i, a, k, cn, Dr, pr, A6, A13, A14, c6, c13, c14, hil, hm, h99, h15, h6, h13, h14, hI, hDr, hc6, hB, hBD, hb3, hb84, hoA, hoO⟩ := hI
    refine c_know 99 (.int .i64 i) h99 (by simp [undef]) ?_
    refine c_know 15 (.int .i64 a) h15 (by simp [undef]) ?_
    refine c_know 6 (.slice A6 Dr.length c6) h6 (by simp [undef]) ?_
    refine c_know 13 (.slice A13 (pr.map Prod.fst).length c13) h13 (by simp [undef]) ?_
    refine c_know 14 (.slice A14 pr.length c14) h14 (by simp [undef]) ?_
    refine c_seq ?_
    refine c_region ?_
    refine wl (r_lss rfl rfl) ?_
    refine x_nil ?_
    refine e_S ?_
    refine c_seq ?_
    refine c_ifd rfl (fun c100 => ?_) (fun c100 => ?_)
    ·
     have hlt : i < l.length := by omega
     obtain ⟨tb, to, A', cp, rfl, htb, htr, _⟩ := hT1.at_ hBD hlt
     refine c_skip ?_
     refine e_S ?_
     refine c_seq ?_
     refine c_block ?_
     refine c_seq ?_
     refine c_region ?_
     refine wl (r_mv (v := .int _ _) rfl) ?_
     refine wl (r_ia (i := i) Tryd.underlying22 sz35_Tables rfl rfl hlt rfl) ?_
     refine wl (r_ldS Tryd.underlying35 rfl rfl htr sz35_Tables) ?_
     refine wl_al (cs := #[.string ⟨#[]⟩, .slice none 0 0]) ze35_Tables rfl (fun b17 w25 hb17 hs hr => ?_)
     have or_b3_b17 : b3 < b17 := Nat.lt_of_lt_of_le hb3.lt hr
     have or_b84_b17 : b84 < b17 := Nat.lt_of_lt_of_le hb84.lt hr
     have or_hoA_b17 := fun g hg => Nat.lt_of_lt_of_le (hoA.lt g hg).2 hr
     have or_hoO_b17 := fun g hg => Nat.lt_of_lt_of_le (hoO.lt g hg).2 hr
     have lo17 := Nat.le_trans (Bel.size hB) hr
     have lo_hBD_b17 := Nat.le_trans (Bel.size hBD) hr
     replace hB := hB.tr0 hs
     replace hb3 := hb3.tr0 hs
     replace hBD := hBD.tr0 hs
     replace hb84 := hb84.tr0 hs
     replace hoA := hoA.tr0 hs
     replace hoO := hoO.tr0 hs
     clear hs
     clear hr
     refine wl (r_as (v := .int _ _) rfl) ?_
     refine wl_stW hb17 rfl rfl sz35_Tables rfl (by repeat (first | rfl | refine one_cons (by first | rfl | assumption) ?_)) (fun w26 hq hs => ?_)
     replace hB := hB.tr1 hs lo17
     replace hb3 := hb3.tr1 hs (by omega)
     replace hBD := hBD.tr1 hs lo_hBD_b17
     replace hb84 := hb84.tr1 hs (by omega)
     replace hoA := hoA.tr1 hs (fun g hg => by have := (hoA.lt g hg).1; (try have := or_hoA_b17 g hg); (try simp only [aL] at hg); (try simp only [List.mem_singleton] at hg); omega)
     replace hoO := hoO.tr1 hs (fun g hg => by have := (hoO.lt g hg).1; (try have := or_hoO_b17 g hg); (try simp only [aL] at hg); (try simp only [List.mem_singleton] at hg); omega)
     clear hs
     replace hb17 := hq
     refine x_nil ?_
     refine e_S ?_
     refine c_seq ?_
     refine c_block ?_
     refine c_loopS [6, 13, 14, 15, 18, 19, 104, 105, 106, 107, 108, 109, 110, 111, 112, 113, 114, 115, 116, 117, 118, 119, 120, 121, 122, 123, 124, 125, 126, 127, 128, 129, 130, 131, 132, 133, 134, 135, 136, 137, 138, 139, 140, 141] (fun m g w' => ∃ (a k cn : Nat) (Dr : List Nat) (pr : List (Nat × ByteArray)) (A6 A13 A14 : Option Addr) (c6 c13 c14 : Nat), m = Dr.length ∧ g 15 = .int .i64 a ∧ g 6 = .slice A6 Dr.length c6 ∧ g 13 = .slice A13 (pr.map Prod.fst).length c13 ∧ g 14 = .slice A14 pr.length c14 ∧ PopI l D Dr pr i a k cn ∧ UIn wD A6 Dr ∧ Dr.length ≤ c6 ∧ Bel w w' ∧ Bel wD w' ∧ Blk w' b3 24 #[.int .i64 0, .int .i64 0] ∧ MapS w' b84 mp ∧ Blk w' b17 35 #[.string (l[i]'hlt).name, .slice A' (l[i]'hlt).par.length cp] ∧ (∀ g ∈ aL A13, g ≠ b17) ∧ (∀ g ∈ aL A14, g ≠ b17) ∧ Own w' (b84 + 1) 49 1 A13 (pr.map Prod.fst).length c13 ((pr.map Prod.fst).map uV) ∧ Own w' (b84 + 1) 35 2 A14 pr.length c14 (outV pr)) (Dr.length) ?_ (fun m g31 w27 hI => ?_)
     ·
      exact ⟨a, k, cn, Dr, pr, A6, A13, A14, c6, c13, c14, rfl, rfl, rfl, rfl, rfl, hI, hDr, hc6, hB, hBD, hb3, hb84, hb17, (fun g hg => Nat.ne_of_lt (or_hoA_b17 g hg)), (fun g hg => Nat.ne_of_lt (or_hoO_b17 g hg)), hoA, hoO⟩
     obtain ⟨a, k, cn, Dr, pr, A6, A13, A14, c6, c13, c14, hm, h15, h6, h13, h14, hI, hDr, hc6, hB, hBD, hb3, hb84, hb17, or_hoA_b17, or_hoO_b17, hoA, hoO⟩ := hI
     refine c_know 15 (.int .i64 a) h15 (by simp [undef]) ?_
     refine c_know 6 (.slice A6 Dr.length c6) h6 (by simp [undef]) ?_
     refine c_know 13 (.slice A13 (pr.map Prod.fst).length c13) h13 (by simp [undef]) ?_
     refine c_know 14 (.slice A14 pr.length c14) h14 (by simp [undef]) ?_
     refine c_seq ?_
     refine c_seq ?_
     refine c_cut1 [104, 105, 106, 107, 108, 109, 110, 111, 112, 113, 114] 114 (.bool (decide (hdZ Dr i = true))) (by simp [undef]) ?_ (fun gq => ?_)
     ·
      refine c_region ?_
      refine wl (r_mv (v := .slice _ _ _) rfl) ?_
      refine wl (r_len Tryd.underlying45 rfl) ?_
      refine wl (r_gtr rfl rfl) ?_
      refine wl (r_mv (v := .bool _) rfl) ?_
      refine wl_casesd 107 rfl (fun g107 => ?_) (fun g107 => ?_)
      ·
       refine wl_gd 107 rfl rfl ?_
       refine wl (r_mv (v := .slice _ _ _) rfl) ?_
       have hd0 : 0 < Dr.length := by omega
       obtain ⟨qb, qo, rfl, hqb, hqc⟩ := hDr.at_ hd0
       obtain ⟨qx, hqx⟩ : ∃ qx, qx = Dr[0] := ⟨_, rfl⟩
       have hqt : qx < 18446744073709551616 := by rw [hqx]; exact hdd _ (hI.sub _ (List.getElem_mem hd0))
       rw [← hqx] at hqc
       refine wl_gd 107 rfl rfl ?_
       refine wl (r_ia (i := 0) Tryd.underlying45 sz49_CMo rfl rfl hd0 rfl) ?_
       refine wl_gd 107 rfl rfl ?_
       refine wl (r_ld1 (v := .int .u64 (qx : Int)) Tryd.underlying49 rfl rfl (hBD.cell hqb hqc)) ?_
       refine wl_gd 107 rfl rfl ?_
       refine wl_cl fn22 (tzA_any qx _ hqt (hTab1.mono hBD)) rfl (fun e' w28 hr => ?_)
       obtain ⟨rfl, rfl⟩ := hr
       refine ⟨_, rfl, ?_⟩
       refine wl_gd 107 rfl rfl ?_
       refine wl (r_mv (v := .int _ _) rfl) ?_
       refine wl_gd 107 rfl rfl ?_
       refine wl (r_eql rfl rfl) ?_
       refine wl (r_pt (v := .bool _) rfl rfl) ?_
       refine x_nil (e_R ⟨rfl, (by repeat (first | exact ag_refl | exact ag_ovr' | refine ag_upd rfl ?_ | refine ag_sub rfl ?_ | refine ag_kn (by assumption) ?_)), ?_⟩)
       show Value.bool _ = Value.bool _
       first | exact pp0 g107 | (obtain ⟨x, Dr1, rfl⟩ := List.exists_cons_of_length_pos (show 0 < Dr.length by omega); subst hqx; exact pp1)
      ·
       refine wlgn 107 rfl rfl rfl ?_
       refine wlgn 107 rfl rfl rfl ?_
       refine wlgn 107 rfl rfl rfl ?_
       refine wlgn 107 rfl rfl rfl ?_
       refine wlgn 107 rfl rfl rfl ?_
       refine wlgn 107 rfl rfl rfl ?_
       refine wl (r_pf (v := .bool _) rfl rfl) ?_
       refine x_nil (e_R ⟨rfl, (by repeat (first | exact ag_refl | exact ag_ovr' | refine ag_upd rfl ?_ | refine ag_sub rfl ?_ | refine ag_kn (by assumption) ?_)), ?_⟩)
       show Value.bool _ = Value.bool _
       first | exact pp0 g107 | (obtain ⟨x, Dr1, rfl⟩ := List.exists_cons_of_length_pos (show 0 < Dr.length by omega); subst hqx; exact pp1)
     refine e_S ?_
     refine c_ifd rfl (fun c114 => ?_) (fun c114 => ?_)
     ·
      obtain ⟨x, Dr', rfl, htz⟩ := hdZ_yes c114
      obtain ⟨AW, hAW, hDr2⟩ := UIn.cons hDr hc6
      have hd0 : 0 < (x :: Dr').length := Nat.succ_pos _
      obtain ⟨qb, qo, hqe, hqb, hqc⟩ := hDr.at_ hd0
      subst hqe
      have hxt : x < 18446744073709551616 := hdd _ (hI.sub _ (List.mem_cons_self ..))
      have hcl := hI.small
      refine c_skip ?_
      refine e_S ?_
      refine c_block ?_
      refine c_seq ?_
      refine c_block ?_
      refine c_loopS [15, 18, 19, 115, 116, 117, 118, 119, 120, 121, 122, 123, 124, 125, 126] (fun m g w' => ∃ (a2 fu : Nat), m = fu ∧ g 15 = .int .i64 a2 ∧ a2 + fu = a + 60 ∧ nxt (usedB l) a = nxF (usedB l) fu a2 ∧ NB (usedB l) cn a2 ∧ w27 = w') (60) ?_ (fun m g32 w29 hI => ?_)
      ·
       exact ⟨a, 60, rfl, rfl, rfl, rfl, hI.nb, rfl⟩
      obtain ⟨a2, fu, hm2, h15, hau, hnx, hnb, rfl⟩ := hI
      refine c_know 15 (.int .i64 a2) h15 (by simp [undef]) ?_
      refine c_block ?_
      refine c_seq ?_
      have ha2 := hnb.le
      refine c_region ?_
      refine wl (r_mv (v := .int _ _) rfl) ?_
      refine wl (r_add (c := ((a2 + 1 : Nat) : Int)) rfl rfl (by omega) (by omega)) ?_
      refine wl (r_as (v := .int _ _) rfl) ?_
      refine x_nil ?_
      refine e_S ?_
      refine c_seq ?_
      refine c_region ?_
      refine wl (r_mv (v := .map _) rfl) ?_
      refine wl (r_mv (v := .int _ _) rfl) ?_
      refine wl_cl fn26 (sh_strconv_Itoa_small (a2 + 1) (by omega) _) rfl (fun e' w30 hr => ?_)
      obtain ⟨rfl, rfl⟩ := hr
      refine ⟨_, rfl, ?_⟩
      refine wl (r_addS rfl rfl (glb_ok (by omega))) ?_
      refine wl (r_lkS hb84 Tryd.underlying58 Tryd.underlying9 ze3 rfl rfl) ?_
      refine wl (r_mv (v := .tuple _) rfl) ?_
      refine wl (r_ex (v := _) rfl rfl) ?_
      refine wl (r_ex (v := .bool _) rfl rfl) ?_
      refine wl (r_as (v := _) rfl) ?_
      refine wl (r_as (v := .bool _) rfl) ?_
      refine x_nil ?_
      refine e_S ?_
      refine c_seq ?_
      refine c_region ?_
      refine wl (r_mv (v := .bool _) rfl) ?_
      refine wl (r_not rfl) ?_
      refine x_nil ?_
      refine e_S ?_
      refine c_if rfl (fun c126 => ?_) (fun c126 => ?_)
      ·
       have hus : usedB l (a2 + 1) = false := by
         rw [← hmu]
         unfold glb
         simpa using c126
       have hI2 := hI.pop htz (hnx.trans (nxt_stop hus)) hnb
       refine c_exit ?_
       refine e_Bo rfl ?_
       refine e_LSx ?_
       refine e_Bx ?_
       refine e_S ?_
       refine c_seq ?_
       refine c_region ?_
       refine wl (r_mv (v := .slice _ _ _) rfl) ?_
       refine wl (r_mv (v := .slice _ _ _) rfl) ?_
       refine wl (r_ia (i := 0) Tryd.underlying45 sz49_CMo rfl rfl hd0 rfl) ?_
       refine wl (r_ld1 (v := .int .u64 (x : Int)) Tryd.underlying49 rfl rfl (hBD.cell hqb hqc)) ?_
       refine wl_bs (cs := #[_]) [(0, .int _ _)] rfl Tryd.underlying45 sz49_CMo ze49 (by decide) (by decide) (by kernel_rfl) rfl (fun b131 w31 hb131 hs hr => ?_)
       have or_b3_b131 : b3 < b131 := Nat.lt_of_lt_of_le hb3.lt hr
       have or_b84_b131 : b84 < b131 := Nat.lt_of_lt_of_le hb84.lt hr
       have or_b17_b131 : b17 < b131 := Nat.lt_of_lt_of_le hb17.lt hr
       have or_hoA_b131 := fun g hg => Nat.lt_of_lt_of_le (hoA.lt g hg).2 hr
       have or_hoO_b131 := fun g hg => Nat.lt_of_lt_of_le (hoO.lt g hg).2 hr
       have lo131 := Nat.le_trans (Bel.size hB) hr
       have lo_hBD_b131 := Nat.le_trans (Bel.size hBD) hr
       replace hB := hB.tr0 hs
       replace hb3 := hb3.tr0 hs
       replace hBD := hBD.tr0 hs
       replace hb84 := hb84.tr0 hs
       replace hb17 := hb17.tr0 hs
       replace hoA := hoA.tr0 hs
       replace hoO := hoO.tr0 hs
       clear hs
       clear hr
       refine wl_app Tryd.underlying45 in49 rfl (by decide) hoA hb131 rfl rfl rfl (by repeat (first | rfl | refine one_cons (by first | rfl | assumption) ?_)) (by decide) (by simp only [List.length_map]; omega) (by simp only [List.length_map]; omega) (by have := hb84.lt; omega) (fun g132 cap132 w32 ho132 hs hg => ?_)
       have ne_ho132_b3 : g132 ≠ b3 := fun e => by
        have hl := hb3.lt
        rcases hg with hg | hg
        · have h1 := hoA.lt g132 (by rw [hg]; exact List.mem_singleton.2 rfl)
          (try have := or_hoA_b3 g132 (by rw [hg]; exact List.mem_singleton.2 rfl)); omega
        · omega
       have ne_ho132_b84 : g132 ≠ b84 := fun e => by
        have hl := hb84.lt
        rcases hg with hg | hg
        · have h1 := hoA.lt g132 (by rw [hg]; exact List.mem_singleton.2 rfl)
          (try have := or_hoA_b84 g132 (by rw [hg]; exact List.mem_singleton.2 rfl)); omega
        · omega
       have ne_ho132_b17 : g132 ≠ b17 := fun e => by
        have hl := hb17.lt
        rcases hg with hg | hg
        · have h1 := hoA.lt g132 (by rw [hg]; exact List.mem_singleton.2 rfl)
          (try have := or_hoA_b17 g132 (by rw [hg]; exact List.mem_singleton.2 rfl)); omega
        · omega
       replace hB := hB.tr hs (fun g hg => Nat.le_trans (by omega) (hoA.lt g hg).1)
       replace hb3 := hb3.tr hs (fun hx => by have := (hoA.lt _ hx).1; (try have := or_hoA_b3 _ hx); omega)
       replace hBD := hBD.tr hs (fun g hg => Nat.le_trans (by omega) (hoA.lt g hg).1)
       replace hb84 := hb84.tr hs (fun hx => by have := (hoA.lt _ hx).1; (try have := or_hoA_b84 _ hx); omega)
       replace hb17 := hb17.tr hs (fun hx => by have := (hoA.lt _ hx).1; (try have := or_hoA_b17 _ hx); omega)
       replace hoO := hoO.tr hs (fun g hg hx => (own_apart hoO hoA (by decide)) g hg hx)
       refine wl (r_as (v := .slice _ _ _) rfl) ?_
       refine x_nil ?_
       refine e_S ?_
       refine c_seq ?_
       refine c_region ?_
       refine wl (r_mv (v := .slice _ _ _) rfl) ?_
       refine wl (r_mv (v := .int _ _) rfl) ?_
       refine wl_cl fn26 (sh_strconv_Itoa_small (a2 + 1) (by omega) _) rfl (fun e' w33 hr => ?_)
       obtain ⟨rfl, rfl⟩ := hr
       refine ⟨_, rfl, ?_⟩
       refine wl (r_addS rfl rfl (glb_ok (by omega))) ?_
       refine wl (r_bd1 (v0 := .string _) (fun v0 => #[v0, .slice none 0 0]) rfl (by kernel_rfl)) ?_
       refine wl_bs (cs := #[_, _]) [(0, .agg _)] rfl Tryd.underlying22 sz35_Tables ze35_Tables (by decide) (by decide) (by kernel_rfl) rfl (fun b138 w34 hb138 hs hr => ?_)
       have or_b3_b138 : b3 < b138 := Nat.lt_of_lt_of_le hb3.lt hr
       have or_b84_b138 : b84 < b138 := Nat.lt_of_lt_of_le hb84.lt hr
       have or_b17_b138 : b17 < b138 := Nat.lt_of_lt_of_le hb17.lt hr
       have or_hoO_b138 := fun g hg => Nat.lt_of_lt_of_le (hoO.lt g hg).2 hr
       have or_ho132_b138 := fun g hg => Nat.lt_of_lt_of_le (ho132.lt g hg).2 hr
       have lo138 := Nat.le_trans (Bel.size hB) hr
       have lo_hBD_b138 := Nat.le_trans (Bel.size hBD) hr
       replace hB := hB.tr0 hs
       replace hb3 := hb3.tr0 hs
       replace hBD := hBD.tr0 hs
       replace hb84 := hb84.tr0 hs
       replace hb17 := hb17.tr0 hs
       replace hoO := hoO.tr0 hs
       replace ho132 := ho132.tr0 hs
       clear hs
       clear hr
       refine wl_app Tryd.underlying22 in35 rfl (by decide) hoO hb138 rfl rfl rfl (by repeat (first | rfl | refine one_cons (by first | rfl | assumption) ?_)) (by decide) (by omega) (by omega) (by have := hb84.lt; omega) (fun g139 cap139 w35 ho139 hs hg => ?_)
       have ne_ho139_b3 : g139 ≠ b3 := fun e => by
        have hl := hb3.lt
        rcases hg with hg | hg
        · have h1 := hoO.lt g139 (by rw [hg]; exact List.mem_singleton.2 rfl)
          (try have := or_hoO_b3 g139 (by rw [hg]; exact List.mem_singleton.2 rfl)); omega
        · omega
       have ne_ho139_b84 : g139 ≠ b84 := fun e => by
        have hl := hb84.lt
        rcases hg with hg | hg
        · have h1 := hoO.lt g139 (by rw [hg]; exact List.mem_singleton.2 rfl)
          (try have := or_hoO_b84 g139 (by rw [hg]; exact List.mem_singleton.2 rfl)); omega
        · omega
       have ne_ho139_b17 : g139 ≠ b17 := fun e => by
        have hl := hb17.lt
        rcases hg with hg | hg
        · have h1 := hoO.lt g139 (by rw [hg]; exact List.mem_singleton.2 rfl)
          (try have := or_hoO_b17 g139 (by rw [hg]; exact List.mem_singleton.2 rfl)); omega
        · omega
       replace hB := hB.tr hs (fun g hg => Nat.le_trans (by omega) (hoO.lt g hg).1)
       replace hb3 := hb3.tr hs (fun hx => by have := (hoO.lt _ hx).1; (try have := or_hoO_b3 _ hx); omega)
       replace hBD := hBD.tr hs (fun g hg => Nat.le_trans (by omega) (hoO.lt g hg).1)
       replace hb84 := hb84.tr hs (fun hx => by have := (hoO.lt _ hx).1; (try have := or_hoO_b84 _ hx); omega)
       replace hb17 := hb17.tr hs (fun hx => by have := (hoO.lt _ hx).1; (try have := or_hoO_b17 _ hx); omega)
       replace ho132 := ho132.tr hs (fun g hg hx => (own_apart ho132 hoO (by decide)) g hg hx)
       refine wl (r_as (v := .slice _ _ _) rfl) ?_
       refine x_nil ?_
       refine e_S ?_
       refine c_region ?_
       refine wl (r_mv (v := .slice _ _ _) rfl) ?_
       refine wl (r_slL (l := 1) Tryd.underlying45 sz49_CMo rfl rfl (by simp)) ?_
       refine wl (r_as (v := .slice _ _ _) rfl) ?_
       refine x_nil ?_
       refine e_B ?_
       refine e_LS (Dr'.length) (by rw [hm, List.length_cons]; exact Nat.lt_succ_self _) (by repeat (first | exact ag_refl | exact ag_ovr' | refine ag_upd rfl ?_ | refine ag_sub rfl ?_ | refine ag_kn (by assumption) ?_)) ?_
       exact ⟨a2 + 1, _, _, Dr', pr ++ [(x, glb (a2 + 1))], AW, _, _, c6 - 1, _, _, rfl, rfl, (show Value.slice _ _ _ = Value.slice _ _ _ by rw [hAW]; rfl), psl_snoc _ _ _ _, psl_snoc2 _ _ _ _, hI2, hDr2, by rw [List.length_cons] at hc6; omega, hB, hBD, hb3, hb84, hb17, (fun g hg => by rw [List.mem_singleton.1 hg]; exact ne_ho132_b17), (fun g hg => by rw [List.mem_singleton.1 hg]; exact ne_ho139_b17), pown_snoc ho132, poO_snoc ho139⟩
      ·
       have hus : usedB l (a2 + 1) = true := by
         rw [← hmu]
         unfold glb
         simpa using c126
       obtain ⟨fu', rfl⟩ : ∃ fu', fu = fu' + 1 := ⟨fu - 1, by omega⟩
       refine c_skip ?_
       refine e_B ?_
       refine e_LS (fu') (by omega) (by repeat (first | exact ag_refl | exact ag_ovr' | refine ag_upd rfl ?_ | refine ag_sub rfl ?_ | refine ag_kn (by assumption) ?_)) ?_
       exact ⟨a2 + 1, fu', rfl, rfl, by omega, by rw [hnx, nxt_step hus], hnb.used hus, rfl⟩
     ·
      have hno := hdZ_no c114
      refine c_exit ?_
      refine e_Sx ?_
      refine e_LSx ?_
      refine e_Bx ?_
      refine e_S ?_
      refine c_seq ?_
      have hI2 := hI.old hlt hno
      have hcl2 := hI.small2
      have hbi : (base l).length = l.length := hbl
      obtain ⟨sb, so, hse, hsb, hsc⟩ := hS1.at_ (show i < (base l).length by omega)
      cases hse
      refine c_region ?_
      refine wl (r_mv (v := .slice _ _ _) rfl) ?_
      refine wl (r_mv (v := .slice _ _ _) rfl) ?_
      refine wl (r_mv (v := .int _ _) rfl) ?_
      refine wl (r_ia (i := i) Tryd.underlying45 sz49_CMo rfl rfl hlt rfl) ?_
      refine wl (r_ld1 (v := .int .u64 ((downN l i : Nat) : Int)) Tryd.underlying49 rfl rfl (hBD.cell hsb (by rw [hsc]; simp [base, uV]))) ?_
      refine wl_bs (cs := #[_]) [(0, .int _ _)] rfl Tryd.underlying45 sz49_CMo ze49 (by decide) (by decide) (by kernel_rfl) rfl (fun b147 w36 hb147 hs hr => ?_)
      have or_b3_b147 : b3 < b147 := Nat.lt_of_lt_of_le hb3.lt hr
      have or_b84_b147 : b84 < b147 := Nat.lt_of_lt_of_le hb84.lt hr
      have or_b17_b147 : b17 < b147 := Nat.lt_of_lt_of_le hb17.lt hr
      have or_hoA_b147 := fun g hg => Nat.lt_of_lt_of_le (hoA.lt g hg).2 hr
      have or_hoO_b147 := fun g hg => Nat.lt_of_lt_of_le (hoO.lt g hg).2 hr
      have lo147 := Nat.le_trans (Bel.size hB) hr
      have lo_hBD_b147 := Nat.le_trans (Bel.size hBD) hr
      replace hB := hB.tr0 hs
      replace hb3 := hb3.tr0 hs
      replace hBD := hBD.tr0 hs
      replace hb84 := hb84.tr0 hs
      replace hb17 := hb17.tr0 hs
      replace hoA := hoA.tr0 hs
      replace hoO := hoO.tr0 hs
      clear hs
      clear hr
      refine wl_app Tryd.underlying45 in49 rfl (by decide) hoA hb147 rfl rfl rfl (by repeat (first | rfl | refine one_cons (by first | rfl | assumption) ?_)) (by decide) (by simp only [List.length_map]; omega) (by simp only [List.length_map]; omega) (by have := hb84.lt; omega) (fun g148 cap148 w37 ho148 hs hg => ?_)
      have ne_ho148_b3 : g148 ≠ b3 := fun e => by
       have hl := hb3.lt
       rcases hg with hg | hg
       · have h1 := hoA.lt g148 (by rw [hg]; exact List.mem_singleton.2 rfl)
         (try have := or_hoA_b3 g148 (by rw [hg]; exact List.mem_singleton.2 rfl)); omega
       · omega
      have ne_ho148_b84 : g148 ≠ b84 := fun e => by
       have hl := hb84.lt
       rcases hg with hg | hg
       · have h1 := hoA.lt g148 (by rw [hg]; exact List.mem_singleton.2 rfl)
         (try have := or_hoA_b84 g148 (by rw [hg]; exact List.mem_singleton.2 rfl)); omega
       · omega
      have ne_ho148_b17 : g148 ≠ b17 := fun e => by
       have hl := hb17.lt
       rcases hg with hg | hg
       · have h1 := hoA.lt g148 (by rw [hg]; exact List.mem_singleton.2 rfl)
         (try have := or_hoA_b17 g148 (by rw [hg]; exact List.mem_singleton.2 rfl)); omega
       · omega
      replace hB := hB.tr hs (fun g hg => Nat.le_trans (by omega) (hoA.lt g hg).1)
      replace hb3 := hb3.tr hs (fun hx => by have := (hoA.lt _ hx).1; (try have := or_hoA_b3 _ hx); omega)
      replace hBD := hBD.tr hs (fun g hg => Nat.le_trans (by omega) (hoA.lt g hg).1)
      replace hb84 := hb84.tr hs (fun hx => by have := (hoA.lt _ hx).1; (try have := or_hoA_b84 _ hx); omega)
      replace hb17 := hb17.tr hs (fun hx => by have := (hoA.lt _ hx).1; (try have := or_hoA_b17 _ hx); omega)
      replace hoO := hoO.tr hs (fun g hg hx => (own_apart hoO hoA (by decide)) g hg hx)
      refine wl (r_as (v := .slice _ _ _) rfl) ?_
      refine x_nil ?_
      refine e_S ?_
      refine c_region ?_
      refine wl (r_mv (v := .slice _ _ _) rfl) ?_
      refine wl (r_fa Tryd.underlying35 sz9 (by decide) rfl rfl rfl) ?_
      refine wl (r_ld1 (v := .string _) Tryd.underlying9 rfl rfl (hb17.cell rfl)) ?_
      refine wl (r_bd1 (v0 := .string _) (fun v0 => #[v0, .slice none 0 0]) rfl (by kernel_rfl)) ?_
      refine wl_bs (cs := #[_, _]) [(0, .agg _)] rfl Tryd.underlying22 sz35_Tables ze35_Tables (by decide) (by decide) (by kernel_rfl) rfl (fun b153 w38 hb153 hs hr => ?_)
      have or_b3_b153 : b3 < b153 := Nat.lt_of_lt_of_le hb3.lt hr
      have or_b84_b153 : b84 < b153 := Nat.lt_of_lt_of_le hb84.lt hr
      have or_b17_b153 : b17 < b153 := Nat.lt_of_lt_of_le hb17.lt hr
      have or_hoO_b153 := fun g hg => Nat.lt_of_lt_of_le (hoO.lt g hg).2 hr
      have or_ho148_b153 := fun g hg => Nat.lt_of_lt_of_le (ho148.lt g hg).2 hr
      have lo153 := Nat.le_trans (Bel.size hB) hr
      have lo_hBD_b153 := Nat.le_trans (Bel.size hBD) hr
      replace hB := hB.tr0 hs
      replace hb3 := hb3.tr0 hs
      replace hBD := hBD.tr0 hs
      replace hb84 := hb84.tr0 hs
      replace hb17 := hb17.tr0 hs
      replace hoO := hoO.tr0 hs
      replace ho148 := ho148.tr0 hs
      clear hs
      clear hr
      refine wl_app Tryd.underlying22 in35 rfl (by decide) hoO hb153 rfl rfl rfl (by repeat (first | rfl | refine one_cons (by first | rfl | assumption) ?_)) (by decide) (by omega) (by omega) (by have := hb84.lt; omega) (fun g154 cap154 w39 ho154 hs hg => ?_)
      have ne_ho154_b3 : g154 ≠ b3 := fun e => by
       have hl := hb3.lt
       rcases hg with hg | hg
       · have h1 := hoO.lt g154 (by rw [hg]; exact List.mem_singleton.2 rfl)
         (try have := or_hoO_b3 g154 (by rw [hg]; exact List.mem_singleton.2 rfl)); omega
       · omega
      have ne_ho154_b84 : g154 ≠ b84 := fun e => by
       have hl := hb84.lt
       rcases hg with hg | hg
       · have h1 := hoO.lt g154 (by rw [hg]; exact List.mem_singleton.2 rfl)
         (try have := or_hoO_b84 g154 (by rw [hg]; exact List.mem_singleton.2 rfl)); omega
       · omega
      have ne_ho154_b17 : g154 ≠ b17 := fun e => by
       have hl := hb17.lt
       rcases hg with hg | hg
       · have h1 := hoO.lt g154 (by rw [hg]; exact List.mem_singleton.2 rfl)
         (try have := or_hoO_b17 g154 (by rw [hg]; exact List.mem_singleton.2 rfl)); omega
       · omega
      replace hB := hB.tr hs (fun g hg => Nat.le_trans (by omega) (hoO.lt g hg).1)
      replace hb3 := hb3.tr hs (fun hx => by have := (hoO.lt _ hx).1; (try have := or_hoO_b3 _ hx); omega)
      replace hBD := hBD.tr hs (fun g hg => Nat.le_trans (by omega) (hoO.lt g hg).1)
      replace hb84 := hb84.tr hs (fun hx => by have := (hoO.lt _ hx).1; (try have := or_hoO_b84 _ hx); omega)
      replace hb17 := hb17.tr hs (fun hx => by have := (hoO.lt _ hx).1; (try have := or_hoO_b17 _ hx); omega)
      replace ho148 := ho148.tr hs (fun g hg hx => (own_apart ho148 hoO (by decide)) g hg hx)
      refine wl (r_as (v := .slice _ _ _) rfl) ?_
      refine x_nil ?_
      refine e_B ?_
      refine e_S ?_
      refine c_region ?_
      refine wl (r_add rfl rfl rfl (by omega)) ?_
      refine wl (r_mv (v := .int _ _) rfl) ?_
      refine x_nil ?_
      refine e_LS (l.length - (i + 1)) (by omega) (by repeat (first | exact ag_refl | exact ag_ovr' | refine ag_upd rfl ?_ | refine ag_sub rfl ?_ | refine ag_kn (by assumption) ?_)) ?_
      exact ⟨i + 1, a, _, cn, Dr, pr ++ [(downN l i, (l[i]'hlt).name)], A6, _, _, c6, _, _, by omega, rfl, rfl, rfl, rfl, psl_snoc _ _ _ _, psl_snoc2 _ _ _ _, hI2, hDr, hc6, hB, hBD, hb3, hb84, pown_snoc ho148, poO_snoc ho154⟩
    ·
     have hie : i = l.length := by omega
     subst hie
     have hpr := hI.done
     have hpn : 0 < pr.length := by rw [← hpr, outL, outG_len]; omega
     have hpl := hI.len
     refine c_exit ?_
     refine e_Sx ?_
     refine e_LSx ?_
     refine e_Bx ?_
     refine e_S ?_
     refine c_seq ?_
     refine c_seq ?_
     obtain ⟨gA, curA, rfl, hgAb, hgA, hcA, _, htA⟩ := Own.whole hoA (show 0 < (pr.map Prod.fst).length by rw [List.length_map]; exact hpn)
     have hc14 := hoO.cap_le
     obtain ⟨gO, cur, rfl, hgOb, hcur, hcO, hcsO, htO⟩ := Own.whole hoO hpn
     have hcap13 := Own.cap_le hoA
     obtain ⟨wP, hwP⟩ : ∃ z, z = w24 := ⟨_, rfl⟩
     have ltO : gO < wP.heap.size := by rw [hwP]; exact hcur.lt
     have sP : wP.heap.size ≤ w24.heap.size := by rw [hwP]; exact Nat.le_refl _
     clear hwP
     have neAO : gA ≠ gO := fun h => absurd (blk_type (h ▸ hgA) hcur) (by decide)
     have lo_gO : w.heap.size ≤ gO := by omega
     obtain ⟨M, hM⟩ : ∃ M, M = pr.map Prod.fst := ⟨_, rfl⟩
     have hMl : M.length = pr.length := by rw [hM, List.length_map]
     have hMb := outM_lt h60 hdd hpr
     rw [← hM] at htA hMb hcap13
     refine c_region ?_
     refine wl (r_mv (v := .slice _ _ _) rfl) ?_
     refine wl (r_len Tryd.underlying45 rfl) ?_
     refine wl (r_mv (v := .int _ _) rfl) ?_
     refine x_nil ?_
     refine e_S ?_
     refine c_block ?_
     refine c_loopS [20, 21, 22, 23, 24, 25, 26, 158, 159, 160, 161, 162, 163, 164, 165, 166, 167, 168, 169, 170, 171, 172, 173, 174, 175, 176, 177, 178, 179, 180, 181, 182, 183, 184, 185, 186, 187, 188, 189, 190, 191, 192, 193, 194, 195, 196, 197, 198, 199, 200, 201, 202, 203, 204, 205, 206, 207, 208, 209, 210, 211, 212, 213, 214, 215] (fun m g w' => ∃ (i hi : Nat) (cur : Array Value) (vf : List Value), i ≤ pr.length ∧ m = pr.length - i ∧ g 158 = .int .i64 i ∧ cur.toList.take (pr.length * 2) = vf ++ resV pr i ∧ hi ≤ w'.heap.size ∧ wP.heap.size ≤ hi ∧ Bel w w' ∧ Blk w' b3 24 #[.int .i64 0, .int .i64 0] ∧ Blk w' gA 49 curA ∧ Blk w' gO 35 cur ∧ RwT wP.heap.size hi w' (outK pr i) vf) (pr.length) ?_ (fun m g42 w40 hI => ?_)
     ·
      exact ⟨0, _, cur, [], Nat.zero_le _, by rw [Nat.sub_zero], rfl, htO, Nat.le_refl _, sP, hB, hb3, hgA, hcur, RwT.nil _ _ _⟩
     obtain ⟨i, hi, cur, vf, hiN, hm, h158, htk, hhi, hlo, hB, hb3, hgA, hcur, hR⟩ := hI
     refine c_know 158 (.int .i64 i) h158 (by simp [undef]) ?_
     refine c_seq ?_
     refine c_region ?_
     refine wl (r_lss rfl rfl) ?_
     refine x_nil ?_
     refine e_S ?_
     refine c_seq ?_
     refine c_ifd rfl (fun c159 => ?_) (fun c159 => ?_)
     ·
      have hiN2 : i < pr.length := by simp only [List.length_map] at c159; omega
      have hbx := getD_lt hMb (i := i) (by omega)
      refine c_skip ?_
      refine e_S ?_
      refine c_seq ?_
      refine c_block ?_
      refine c_seq ?_
      refine c_region ?_
      refine wl (r_mv (v := .int _ _) rfl) ?_
      refine wl (r_ia (i := i) Tryd.underlying45 sz49_CMo rfl rfl (by rw [List.length_map]; exact hiN2) rfl) ?_
      refine wl (r_ld1 (v := .int .u64 ((M.getD i 0 : Nat) : Int)) Tryd.underlying49 rfl rfl (hgA.cell (curA_at htA (by omega)))) ?_
      refine wl (r_as (v := .int _ _) rfl) ?_
      refine wl (r_as (v := .int _ _) rfl) ?_
      refine x_nil ?_
      refine e_S ?_
      refine c_seq ?_
      obtain ⟨wI, hwI⟩ : ∃ z, z = w40 := ⟨_, rfl⟩
      have lAI : gA < wI.heap.size := by rw [hwI]; exact hgA.lt
      have lOI : gO < wI.heap.size := by rw [hwI]; exact hcur.lt
      have l3I : b3 < wI.heap.size := by rw [hwI]; exact hb3.lt
      have sI : w.heap.size ≤ wI.heap.size := by rw [hwI]; exact Bel.size hB
      have hIB : Bel wI w40 := by rw [hwI]; exact Below.refl _ _
      replace hR : RwT wP.heap.size wI.heap.size w40 (outK pr i) vf := by rw [hwI]; exact hR.up hhi
      have hlI : wP.heap.size ≤ wI.heap.size := by rw [hwI]; omega
      clear hwI
      refine c_region ?_
      refine wl (r_mv (v := .slice _ _ _) rfl) ?_
      refine wl (r_mv (v := .int _ _) rfl) ?_
      refine wl (r_slH (h := i) Tryd.underlying45 sz49_CMo rfl rfl (by omega)) ?_
      refine wl (r_len Tryd.underlying45 rfl) ?_
      refine wl (r_mv (v := .int _ _) rfl) ?_
      refine x_nil ?_
      refine e_S ?_
      refine c_block ?_
      refine c_loopS [22, 23, 24, 25, 26, 167, 168, 169, 170, 171, 172, 173, 174, 175, 176, 177, 178, 179, 180, 181, 182, 183, 184, 185, 186, 187, 188, 189, 190, 191, 192, 193, 194, 195, 196, 197, 198, 199, 200, 201, 202, 203, 204, 205, 206, 207, 208, 209, 210, 211, 212, 213, 214] (fun m g w' => ∃ (j : Nat) (Ai : Option Addr) (ci : Nat) (cur : Array Value), j ≤ i ∧ m = i - j ∧ g 167 = .int .i64 j ∧ OutC pr i cur vf Ai (parK M i j).length ci ∧ wI.heap.size ≤ w'.heap.size ∧ Bel w w' ∧ Blk w' b3 24 #[.int .i64 0, .int .i64 0] ∧ Blk w' gA 49 curA ∧ Blk w' gO 35 cur ∧ RwT wP.heap.size wI.heap.size w' (outK pr i) vf ∧ Own w' wI.heap.size 3 1 Ai (parK M i j).length ci ((parK M i j).map (Value.int .i64))) (i) ?_ (fun m g45 w41 hI => ?_)
      ·
       exact ⟨0, none, 0, cur, Nat.zero_le _, rfl, rfl, OutC.start htk (by rw [hR.1, outK_len]) hiN2, Bel.size hIB, hB, hb3, hgA, hcur, hR, Own.nil _ _ _ _⟩
      obtain ⟨j, Ai, ci, cur, hji, hmj, h167, hOC, hsI, hB, hb3, hgA, hcur, hR, hoP⟩ := hI
      refine c_know 167 (.int .i64 j) h167 (by simp [undef]) ?_
      refine c_seq ?_
      refine c_region ?_
      refine wl (r_lss rfl rfl) ?_
      refine x_nil ?_
      refine e_S ?_
      refine c_seq ?_
      refine c_ifd rfl (fun c168 => ?_) (fun c168 => ?_)
      ·
       have hjlt : j < i := by omega
       have hby := getD_lt hMb (i := j) (by omega)
       refine c_skip ?_
       refine e_S ?_
       refine c_seq ?_
       refine c_block ?_
       refine c_seq ?_
       refine c_region ?_
       refine wl (r_mv (v := .int _ _) rfl) ?_
       refine wl (r_ia (i := j) Tryd.underlying45 sz49_CMo rfl rfl hjlt rfl) ?_
       refine wl (r_ld1 (v := .int .u64 ((M.getD j 0 : Nat) : Int)) Tryd.underlying49 rfl rfl (hgA.cell (curA_at htA (by omega)))) ?_
       refine wl (r_as (v := .int _ _) rfl) ?_
       refine wl (r_as (v := .int _ _) rfl) ?_
       refine x_nil ?_
       refine e_S ?_
       refine c_seq ?_
       refine c_seq ?_
       refine c_region ?_
       refine wl (r_mv (v := .int _ _) rfl) ?_
       refine wl (r_mv (v := .int _ _) rfl) ?_
       refine wl (r_anU rfl rfl hbx hby) ?_
       refine wl (r_neq rfl rfl) ?_
       refine x_nil ?_
       refine e_S ?_
       refine c_ifd rfl (fun c175 => ?_) (fun c175 => ?_)
       ·
        have hdn : dirB M i j = false := dir_no1 (by
          cases e : subN (M.getD i 0) (M.getD j 0) with
          | false => rfl
          | true => exact absurd (by rw [(anN_zero hbx hby).2 e]; rfl) c175)
        refine c_exit ?_
        refine e_Sx ?_
        refine e_Bx ?_
        refine e_S ?_
        refine c_region ?_
        refine wl (r_add rfl rfl rfl (by omega)) ?_
        refine wl (r_mv (v := .int _ _) rfl) ?_
        refine x_nil ?_
        refine e_LS (i - (j + 1)) (by omega) (by repeat (first | exact ag_refl | exact ag_ovr' | refine ag_upd rfl ?_ | refine ag_sub rfl ?_ | refine ag_kn (by assumption) ?_)) ?_
        first
          | exact ⟨j + 1, _, _, _, by omega, rfl, rfl, by rw [parK_yes hdir, List.length_append]; exact hOC2, hsI, hB, hb3, hgA, hcur, hR, by rw [parK_yes hdir]; exact own_snoc ho211⟩
          | exact ⟨j + 1, Ai, ci, cur, by omega, rfl, rfl, by rw [parK_no hdn]; exact hOC, hsI, hB, hb3, hgA, hcur, hR, by rw [parK_no hdn]; exact hoP⟩
       ·
        have hsb : subN (M.getD i 0) (M.getD j 0) = true := (anN_zero hbx hby).1 (by omega)
        refine c_skip ?_
        refine e_S ?_
        refine c_seq ?_
        refine c_region ?_
        refine wl (r_as (v := .bool _) rfl) ?_
        refine x_nil ?_
        refine e_S ?_
        refine c_seq ?_
        refine c_seq ?_
        refine c_region ?_
        refine wl (r_mv (v := .slice _ _ _) rfl) ?_
        refine wl (r_mv (v := .int _ _) rfl) ?_
        refine wl (r_slH (h := i) Tryd.underlying45 sz49_CMo rfl rfl (by omega)) ?_
        refine wl (r_len Tryd.underlying45 rfl) ?_
        refine wl (r_mv (v := .int _ _) rfl) ?_
        refine x_nil ?_
        refine e_S ?_
        refine c_block ?_
        refine c_loopS [24, 25, 26, 180, 181, 182, 183, 184, 185, 186, 187, 188, 189, 190, 191, 192, 193, 194, 195, 196, 197, 198, 199, 200] (fun m g w' => ∃ k : Nat, k ≤ i ∧ m = i - k ∧ g 180 = .int .i64 k ∧ g 24 = .bool (!((List.range k).any (btw M i j))) ∧ w41 = w') (i) ?_ (fun m g50 w42 hI => ?_)
        ·
         exact ⟨0, Nat.zero_le _, rfl, rfl, rfl, rfl⟩
        obtain ⟨k, hk, hmk, h180, h24, rfl⟩ := hI
        refine c_know 180 (.int .i64 k) h180 (by simp [undef]) ?_
        refine c_know 24 (.bool (!((List.range k).any (btw M i j)))) h24 (by simp [undef]) ?_
        refine c_seq ?_
        refine c_region ?_
        refine wl (r_lss rfl rfl) ?_
        refine x_nil ?_
        refine e_S ?_
        refine c_seq ?_
        refine c_ifd rfl (fun c181 => ?_) (fun c181 => ?_)
        ·
         have hki : k < i := by omega
         have hbz := getD_lt hMb (i := k) (by omega)
         refine c_skip ?_
         refine e_S ?_
         refine c_seq ?_
         refine c_block ?_
         refine c_seq ?_
         refine c_region ?_
         refine wl (r_mv (v := .int _ _) rfl) ?_
         refine wl (r_ia (i := k) Tryd.underlying45 sz49_CMo rfl rfl hki rfl) ?_
         refine wl (r_ld1 (v := .int .u64 ((M.getD k 0 : Nat) : Int)) Tryd.underlying49 rfl rfl (hgA.cell (curA_at htA (by omega)))) ?_
         refine wl (r_as (v := .int _ _) rfl) ?_
         refine wl (r_as (v := .int _ _) rfl) ?_
         refine x_nil ?_
         refine e_S ?_
         refine c_seq ?_
         refine c_cut1 [185, 186, 187, 188, 189, 190, 191, 192, 193, 194, 195, 196, 197, 198, 199] 199 (.bool (decide (btw M i j k = true))) (by simp [undef]) ?_ (fun gq => ?_)
         ·
          refine c_region ?_
          refine wl (r_mv (v := .int _ _) rfl) ?_
          refine wl (r_mv (v := .int _ _) rfl) ?_
          refine wl (r_neq rfl rfl) ?_
          refine wl (r_mv (v := .bool _) rfl) ?_
          refine wl_casesd 188 rfl (fun g188 => ?_) (fun g188 => ?_)
          ·
           refine wl_gd 188 rfl rfl ?_
           refine wl (r_mv (v := .int _ _) rfl) ?_
           refine wl_gd 188 rfl rfl ?_
           refine wl (r_mv (v := .int _ _) rfl) ?_
           refine wl_gd 188 rfl rfl ?_
           refine wl (r_anU rfl rfl hbx hbz) ?_
           refine wl_gd 188 rfl rfl ?_
           refine wl (r_eql rfl rfl) ?_
           refine wl (r_pt (v := .bool _) rfl rfl) ?_
           refine wl (r_mv (v := .bool _) rfl) ?_
           refine wl_casesd 194 rfl (fun g194 => ?_) (fun g194 => ?_)
           ·
            refine wl_gd 194 rfl rfl ?_
            refine wl (r_mv (v := .int _ _) rfl) ?_
            refine wl_gd 194 rfl rfl ?_
            refine wl (r_mv (v := .int _ _) rfl) ?_
            refine wl_gd 194 rfl rfl ?_
            refine wl (r_anU rfl rfl hbz hby) ?_
            refine wl_gd 194 rfl rfl ?_
            refine wl (r_eql rfl rfl) ?_
            refine wl (r_pt (v := .bool _) rfl rfl) ?_
            refine x_nil (e_R ⟨rfl, (by repeat (first | exact ag_refl | exact ag_ovr' | refine ag_upd rfl ?_ | refine ag_sub rfl ?_ | refine ag_kn (by assumption) ?_)), ?_⟩)
            show Value.bool _ = Value.bool _
            first | exact bt0 g188 | exact bt1 rfl rfl hbx hbz g194 | exact bt2 rfl rfl rfl hbx hbz hby g188 g194
           ·
            refine wlgn 194 rfl rfl rfl ?_
            refine wlgn 194 rfl rfl rfl ?_
            refine wlgn 194 rfl rfl rfl ?_
            refine wlgn 194 rfl rfl rfl ?_
            refine wl (r_pf (v := .bool _) rfl rfl) ?_
            refine x_nil (e_R ⟨rfl, (by repeat (first | exact ag_refl | exact ag_ovr' | refine ag_upd rfl ?_ | refine ag_sub rfl ?_ | refine ag_kn (by assumption) ?_)), ?_⟩)
            show Value.bool _ = Value.bool _
            first | exact bt0 g188 | exact bt1 rfl rfl hbx hbz g194 | exact bt2 rfl rfl rfl hbx hbz hby g188 g194
          ·
           refine wlgn 188 rfl rfl rfl ?_
           refine wlgn 188 rfl rfl rfl ?_
           refine wlgn 188 rfl rfl rfl ?_
           refine wlgn 188 rfl rfl rfl ?_
           refine wl (r_pf (v := .bool _) rfl rfl) ?_
           refine wl (r_mv (v := .bool _) rfl) ?_
           refine wlgn 194 rfl rfl rfl ?_
           refine wlgn 194 rfl rfl rfl ?_
           refine wlgn 194 rfl rfl rfl ?_
           refine wlgn 194 rfl rfl rfl ?_
           refine wl (r_pf (v := .bool _) rfl rfl) ?_
           refine x_nil (e_R ⟨rfl, (by repeat (first | exact ag_refl | exact ag_ovr' | refine ag_upd rfl ?_ | refine ag_sub rfl ?_ | refine ag_kn (by assumption) ?_)), ?_⟩)
           show Value.bool _ = Value.bool _
           first | exact bt0 g188 | exact bt1 rfl rfl hbx hbz g194 | exact bt2 rfl rfl rfl hbx hbz hby g188 g194
         refine e_S ?_
         refine c_ifd rfl (fun c199 => ?_) (fun c199 => ?_)
         ·
          refine c_region ?_
          refine wl (r_as (v := .bool _) rfl) ?_
          refine x_nil ?_
          refine e_B ?_
          refine e_S ?_
          refine c_region ?_
          refine wl (r_add rfl rfl rfl (by omega)) ?_
          refine wl (r_mv (v := .int _ _) rfl) ?_
          refine x_nil ?_
          refine e_LS (i - (k + 1)) (by omega) (by repeat (first | exact ag_refl | exact ag_ovr' | refine ag_upd rfl ?_ | refine ag_sub rfl ?_ | refine ag_kn (by assumption) ?_)) ?_
          first
            | exact ⟨k + 1, by omega, rfl, rfl, (show Value.bool false = Value.bool (!(List.range (k + 1)).any (btw M i j)) by rw [any_snoc, c199, Bool.or_true]; rfl), rfl⟩
            | exact ⟨k + 1, by omega, rfl, rfl, (show Value.bool _ = Value.bool (!(List.range (k + 1)).any (btw M i j)) by rw [any_snoc, Bool.eq_false_iff.2 c199, Bool.or_false]), rfl⟩
         ·
          refine c_skip ?_
          refine e_B ?_
          refine e_S ?_
          refine c_region ?_
          refine wl (r_add rfl rfl rfl (by omega)) ?_
          refine wl (r_mv (v := .int _ _) rfl) ?_
          refine x_nil ?_
          refine e_LS (i - (k + 1)) (by omega) (by repeat (first | exact ag_refl | exact ag_ovr' | refine ag_upd rfl ?_ | refine ag_sub rfl ?_ | refine ag_kn (by assumption) ?_)) ?_
          first
            | exact ⟨k + 1, by omega, rfl, rfl, (show Value.bool false = Value.bool (!(List.range (k + 1)).any (btw M i j)) by rw [any_snoc, c199, Bool.or_true]; rfl), rfl⟩
            | exact ⟨k + 1, by omega, rfl, rfl, (show Value.bool _ = Value.bool (!(List.range (k + 1)).any (btw M i j)) by rw [any_snoc, Bool.eq_false_iff.2 c199, Bool.or_false]), rfl⟩
        ·
         have hke : k = i := by omega
         refine c_exit ?_
         refine e_Sx ?_
         refine e_LSx ?_
         refine e_Bx ?_
         refine e_S ?_
         refine c_seq ?_
         refine c_region ?_
         refine wl (r_mv (v := .bool _) rfl) ?_
         refine x_nil ?_
         refine e_S ?_
         refine c_if rfl (fun c201 => ?_) (fun c201 => ?_)
         ·
          rw [hke] at c201
          have hdir := dir_yes hsb c201
          refine c_region ?_
          refine wl (r_mv (v := .slice _ _ _) rfl) ?_
          refine wl (r_mv (v := .int _ _) rfl) ?_
          refine wl (r_mv (v := .slice _ _ _) rfl) ?_
          refine wl (r_mv (v := .int _ _) rfl) ?_
          refine wl (r_ia (i := i) Tryd.underlying22 sz35_Tables rfl rfl (by omega) rfl) ?_
          refine wl (r_fa Tryd.underlying35 sz33_Tables (by decide) rfl rfl rfl) ?_
          refine wl (r_ld1 (v := .slice Ai (parK M i j).length ci) Tryd.underlying33 rfl rfl (hcur.cell (hOC.cell0 hiN2))) ?_
          refine wl (r_mv (v := .int _ _) rfl) ?_
          refine wl_bs (cs := #[_]) [(0, .int _ _)] rfl Tryd.underlying33 sz3_Tables ze3 (by decide) (by decide) (by kernel_rfl) rfl (fun b210 w43 hb210 hs hr => ?_)
          have or_b3_b210 : b3 < b210 := Nat.lt_of_lt_of_le hb3.lt hr
          have or_gA_b210 : gA < b210 := Nat.lt_of_lt_of_le hgA.lt hr
          have or_gO_b210 : gO < b210 := Nat.lt_of_lt_of_le hcur.lt hr
          have or_hoP_b210 := fun g hg => Nat.lt_of_lt_of_le (hoP.lt g hg).2 hr
          have lo210 := Nat.le_trans (Bel.size hB) hr
          replace hB := hB.tr0 hs
          replace hb3 := hb3.tr0 hs
          replace hgA := hgA.tr0 hs
          replace hcur := hcur.tr0 hs
          replace hR := hR.tr hs (fun g hg => by cases hg)
          replace hoP := hoP.tr0 hs
          replace hsI := Nat.le_trans hsI hs.size
          clear hs
          clear hr
          refine wl_app Tryd.underlying33 in3 rfl (by decide) hoP hb210 rfl rfl rfl (by repeat (first | rfl | refine one_cons (by first | rfl | assumption) ?_)) (by decide) (by have := parK_le M i j; omega) (by have := parK_le M i j; omega) hsI (fun g211 cap211 w44 ho211 hs hg => ?_)
          have ne_ho211_b3 : g211 ≠ b3 := fun e => by
           have hl := hb3.lt
           rcases hg with hg | hg
           · have h1 := hoP.lt g211 (by rw [hg]; exact List.mem_singleton.2 rfl)
             (try have := or_hoP_b3 g211 (by rw [hg]; exact List.mem_singleton.2 rfl)); omega
           · omega
          have ne_ho211_gA : g211 ≠ gA := fun e => by
           have hl := hgA.lt
           rcases hg with hg | hg
           · have h1 := hoP.lt g211 (by rw [hg]; exact List.mem_singleton.2 rfl)
             (try have := or_hoP_gA g211 (by rw [hg]; exact List.mem_singleton.2 rfl)); omega
           · omega
          have ne_ho211_gO : g211 ≠ gO := fun e => by
           have hl := hcur.lt
           rcases hg with hg | hg
           · have h1 := hoP.lt g211 (by rw [hg]; exact List.mem_singleton.2 rfl)
             (try have := or_hoP_gO g211 (by rw [hg]; exact List.mem_singleton.2 rfl)); omega
           · omega
          replace hB := hB.tr hs (fun g hg => Nat.le_trans (by omega) (hoP.lt g hg).1)
          replace hb3 := hb3.tr hs (fun hx => by have := (hoP.lt _ hx).1; (try have := or_hoP_b3 _ hx); omega)
          replace hgA := hgA.tr hs (fun hx => by have := (hoP.lt _ hx).1; (try have := or_hoP_gA _ hx); omega)
          replace hcur := hcur.tr hs (fun hx => by have := (hoP.lt _ hx).1; (try have := or_hoP_gO _ hx); omega)
          replace hR := hR.tr hs (fun g hg => .inl (hoP.lt g hg).1)
          replace hsI := Nat.le_trans hsI hs.size
          refine wl (r_ia (i := i) Tryd.underlying22 sz35_Tables rfl rfl (by omega) rfl) ?_
          refine wl (r_fa Tryd.underlying35 sz33_Tables (by decide) rfl rfl rfl) ?_
          refine wl_st1 (v := .slice _ _ _) hcur rfl rfl sz33_Tables (hOC.size hiN2) rfl rfl (fun w45 hq hs => ?_)
          replace hB := hB.tr1 hs lo_gO
          replace hb3 := hb3.tr1 hs (by omega)
          replace hgA := hgA.tr1 hs (by omega)
          replace hR := hR.tr hs (fun g hg => .inr (by rw [List.mem_singleton.1 hg]; omega))
          replace hsI := Nat.le_trans hsI hs.size
          replace ho211 := ho211.tr1 hs (fun g hg => by have := (ho211.lt g hg).1; (try have := or_ho211_gO g hg); (try simp only [aL] at hg); (try simp only [List.mem_singleton] at hg); omega)
          clear hs
          replace hcur := hq
          have hOC2 := hOC.set (A' := some ⟨g211, 0, none⟩) (m' := (parK M i j).length + 1) (c' := cap211)
          refine x_nil ?_
          refine e_B ?_
          refine e_S ?_
          refine c_region ?_
          refine wl (r_add rfl rfl rfl (by omega)) ?_
          refine wl (r_mv (v := .int _ _) rfl) ?_
          refine x_nil ?_
          refine e_LS (i - (j + 1)) (by omega) (by repeat (first | exact ag_refl | exact ag_ovr' | refine ag_upd rfl ?_ | refine ag_sub rfl ?_ | refine ag_kn (by assumption) ?_)) ?_
          first
            | exact ⟨j + 1, _, _, _, by omega, rfl, rfl, by rw [parK_yes hdir, List.length_append]; exact hOC2, hsI, hB, hb3, hgA, hcur, hR, by rw [parK_yes hdir]; exact own_snoc ho211⟩
            | exact ⟨j + 1, Ai, ci, cur, by omega, rfl, rfl, by rw [parK_no hdn]; exact hOC, hsI, hB, hb3, hgA, hcur, hR, by rw [parK_no hdn]; exact hoP⟩
         ·
          rw [hke] at c201
          have hdn := dir_no2 c201
          refine c_skip ?_
          refine e_B ?_
          refine e_S ?_
          refine c_region ?_
          refine wl (r_add rfl rfl rfl (by omega)) ?_
          refine wl (r_mv (v := .int _ _) rfl) ?_
          refine x_nil ?_
          refine e_LS (i - (j + 1)) (by omega) (by repeat (first | exact ag_refl | exact ag_ovr' | refine ag_upd rfl ?_ | refine ag_sub rfl ?_ | refine ag_kn (by assumption) ?_)) ?_
          first
            | exact ⟨j + 1, _, _, _, by omega, rfl, rfl, by rw [parK_yes hdir, List.length_append]; exact hOC2, hsI, hB, hb3, hgA, hcur, hR, by rw [parK_yes hdir]; exact own_snoc ho211⟩
            | exact ⟨j + 1, Ai, ci, cur, by omega, rfl, rfl, by rw [parK_no hdn]; exact hOC, hsI, hB, hb3, hgA, hcur, hR, by rw [parK_no hdn]; exact hoP⟩
      ·
       have hje : j = i := by omega
       rw [hje] at hOC hoP
       refine c_exit ?_
       refine e_Sx ?_
       refine e_LSx ?_
       refine e_Bx ?_
       refine e_B ?_
       refine e_S ?_
       refine c_region ?_
       refine wl (r_add rfl rfl rfl (by omega)) ?_
       refine wl (r_mv (v := .int _ _) rfl) ?_
       refine x_nil ?_
       refine e_LS (pr.length - (i + 1)) (by omega) (by repeat (first | exact ag_refl | exact ag_ovr' | refine ag_upd rfl ?_ | refine ag_sub rfl ?_ | refine ag_kn (by assumption) ?_)) ?_
       exact ⟨i + 1, _, cur, _, by omega, rfl, rfl, hOC.next, Nat.le_refl _, by omega, hB, hb3, hgA, hcur, by subst hM; exact row_done hR hoP hsI (by omega)⟩
     ·
      have hie : i = pr.length := by simp only [List.length_map] at c159; omega
      subst hie
      rw [resV_end, List.append_nil] at htk
      refine c_exit ?_
      refine e_Sx ?_
      refine e_LSx ?_
      refine e_Bx ?_
      refine e_S ?_
      refine c_seq ?_
      refine c_region ?_
      refine wl (r_mv (v := .slice _ _ _) rfl) ?_
      refine wl (r_bd (vs := #[]) (cs := #[.int .i64 0, .int .i64 0]) (by simp) (by kernel_rfl)) ?_
      refine wl (r_as (v := .slice _ _ _) rfl) ?_
      refine wl_stW hb3 rfl rfl sz24 rfl (by repeat (first | rfl | refine one_cons (by first | rfl | assumption) ?_)) (fun w46 hq hs => ?_)
      replace hB := hB.tr1 hs lo3
      replace hgA := hgA.tr1 hs (by omega)
      replace hcur := hcur.tr1 hs (by omega)
      replace hR := hR.tr hs (fun g hg => .inr (by rw [List.mem_singleton.1 hg]; omega))
      clear hs
      replace hb3 := hq
      refine x_nil ?_
      refine e_S ?_
      refine c_ret ?_
      refine fin2 (.inl rfl) rfl rfl (rr_cell Tryd.underlying24 rfl rfl hb3.range0 sz24) ?_
      exact ⟨.inr (.inr ⟨ht0, ds, D, _, _, hC2, hperm, hpw, by rw [hpr]; rfl, by rw [hpr]; exact types_ofBlk (l := outK pr pr.length) hcur (by rw [outK_len]; exact htk) hR (by rw [outK_len]; omega), by rw [hpr]; exact hc14⟩), hB⟩
end Go.Proofs.YtahdbbgkgokkhaaDoor
