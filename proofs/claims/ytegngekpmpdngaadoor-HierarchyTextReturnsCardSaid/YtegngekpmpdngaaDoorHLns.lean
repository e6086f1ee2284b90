/- What these functions of the program compute, at every world: strings.genSplit, strings.Split, slices.Index[[]string,string], slices.Contains[[]string,string]. What these functions of the program compute, at every world: glosswright/hierarchy.Lines. -/
import Derived.Test.YtegngekpmpdngaaDoorU
import Derived.Test.YtegngekpmpdngaaDoorHtx
import Derived.Test.YtegngekpmpdngaaDoorShx
import Derived.Test.YtegngekpmpdngaaDoorNIeq
namespace Go.Proofs.YtegngekpmpdngaaDoor
open Go.RowKit
theorem ct_one {s : ByteArray} {c : UInt8} {N : Nat} (h : (bl s).count c = N) (w : World) : Calls Tryd.prog 111 #[.string s, .string ⟨#[c]⟩] w fun e w' => e = .returned (.int .i64 ((N : Nat) : Int)) ∧ w = w' := by
  subst h
  exact (sh_strings_Count_one s c w).mono fun _ _ h => ⟨h.1, h.2.symm⟩
theorem ix_one {s : ByteArray} {c : UInt8} {m : Nat} (h : Lib.indexByte (bl s) c = (m : Int)) (w : World) : Calls Tryd.prog 112 #[.string s, .string ⟨#[c]⟩] w fun e w' => e = .returned (.int .i64 ((m : Nat) : Int)) ∧ w = w' := by
  rw [← h]
  exact (sh_strings_Index_one s c w).mono fun _ _ h => ⟨h.1, h.2.symm⟩
theorem one_ne (c : UInt8) : ¬ (⟨#[c]⟩ : ByteArray) = ⟨#[]⟩ := fun h => by
  have := congrArg ByteArray.size h
  simp [ByteArray.size] at this
theorem seen_dec {xs : List ByteArray} {s : ByteArray} {p : Prop} [Decidable p] (h : p ↔ s ∈ xs) : decide p = seen xs s := by
  have h2 : seen xs s = true ↔ s ∈ xs := by simp [seen]
  by_cases hp : p
  · rw [decide_eq_true hp, h2.2 (h.1 hp)]
  · rw [decide_eq_false hp]
    cases hq : seen xs s with
    | false => rfl
    | true => exact absurd (h.2 (h2.1 hq)) hp
def spS (c : UInt8) (s : ByteArray) (i k : Nat) : Value := .string (if k < i then pc c s k else ⟨#[]⟩)
theorem spS_zero {c : UInt8} {s : ByteArray} {N : Nat} : row N (spS c s 0) = row N (fun _ => .string ⟨#[]⟩) := row_congr (fun k _ => by unfold spS; rw [if_neg om])
theorem spS_set {c : UInt8} {s v : ByteArray} {N i : Nat} (hv : v = pc c s i) : row N (fun k => if k = i then .string v else spS c s i k) = row N (spS c s (i + 1)) := row_congr (fun k _ => by
  unfold spS
  by_cases e : k = i
  · subst e; rw [if_pos rfl, if_pos om, hv]
  · rw [if_neg e]
    by_cases h : k < i
    · rw [if_pos h, if_pos om]
    · rw [if_neg h, if_neg om])
theorem spS_full {c : UInt8} {s : ByteArray} : row (sp c s).length (spS c s (sp c s).length) = spR c s := row_congr (fun k hk => by unfold spS; rw [if_pos hk])
theorem fn100 : callable Tryd.prog 100 = true := by kernel_rfl
theorem fn101 : callable Tryd.prog 101 = true := by kernel_rfl
theorem fn111 : callable Tryd.prog 111 = true := by kernel_rfl
theorem fn112 : callable Tryd.prog 112 = true := by kernel_rfl
theorem in9 : (Tryd.prog.info? 9).map (fun i => (i.zero, i.size, i.bytes)) = some (some (.string ⟨#[]⟩), 1, 16) := by kernel_rfl
theorem sz9_HSp : (Tryd.prog.info? 9).map (·.size) = some 1 := by kernel_rfl
set_option maxRecDepth 100000 in
set_option maxHeartbeats 1000000 in
theorem gsp_any (s : ByteArray) (c : UInt8) (w : World) (hs : s.size ≤ 4000) : Calls Tryd.prog 100 #[.string s, .string ⟨#[c]⟩, .int .i64 0, .int .i64 (-1)] w fun e w' => ∃ b, e = .returned (.slice (some ⟨b, 0, none⟩) (sp c s).length (sp c s).length) ∧ w.heap.size ≤ b ∧ Blk w' b 9 (spR c s) ∧ Bel w w' := by
 obtain ⟨N, hN⟩ : ∃ N, (bl s).count c = N := ⟨_, rfl⟩
 have hNs := count_size c s
 rw [hN] at hNs
 have hlen := sp_len c s
 rw [hN] at hlen
 have hmin : min (N + 1) (s.size + 1) = N + 1 := by omega
 have h1s : (⟨#[c]⟩ : ByteArray).size = 1 := rfl
 refine enter Tryd.func100 Tryd.ntmps100 rfl (Nat.le_of_ble_eq_true rfl) ?_
 have hB : Bel w w := Below.refl _ _
 refine c_seq (c_region (waS rfl (x_nil (e_S (c_seq ?_)))))
 refine c_seq (c_region (wmI rfl (wl (r_eql rfl rfl) (x_nil (e_S ?_)))))
 refine c_ifd rfl (fun c13 => ?_) (fun c13 => ?_)
 ·
  exact absurd c13 dE
 refine c_skip (e_S (c_seq (c_seq (c_region (wl (r_mv (v := .string _) rfl) ?_)))))
 refine wl (r_eqlS rfl rfl) (x_nil (e_S ?_))
 refine c_ifd rfl (fun c15 => ?_) (fun c15 => ?_)
 ·
  exact absurd c15 (one_ne c)
 refine c_skip (e_S (c_seq (c_seq (c_region (wmI rfl ?_)))))
 refine wl (r_lss rfl rfl) (x_nil (e_S ?_))
 refine c_ifd rfl (fun c20 => ?_) (fun c20 => ?_)
 ·
  refine c_region (wl (r_mv (v := .string _) rfl) (wl (r_mv (v := .string _) rfl) ?_))
  refine wl_cl fn111 (ct_one hN _) rfl (fun e' w1 hr => ?_)
  obtain ⟨rfl, rfl⟩ := hr
  refine ⟨_, rfl, ?_⟩
  refine wl (r_add (c := ((N + 1 : Nat) : Int)) rfl rfl om om) (waI rfl (x_nil (e_S (c_seq (c_region ?_)))))
  refine wmI rfl (wl (r_mv (v := .string _) rfl) (wl (r_lenS U9 rfl) (wl (r_add (c := ((s.size + 1 : Nat) : Int)) rfl rfl om om) (wl (r_minN rfl rfl) (wl (r_as (v := .int .i64 ((N + 1 : Nat) : Int)) (congrArg (fun z : Nat => Value.int .i64 (z : Int)) hmin)) ?_)))))
  refine x_nil (e_S (c_seq (c_region (wmI rfl ?_))))
  refine wl_mkR (m := N + 1) U83 in9 rfl rfl rfl om om (fun b31 w2 hb31 hs hr => ?_)
  have lo31 := nLT (Bel.size hB) hr
  replace hB := hB.tr0 hs
  clear hs
  clear hr
  refine waS rfl (x_nil (e_S (c_seq (c_region (wmI rfl ?_)))))
  refine wl (r_sub (c := ((N : Nat) : Int)) rfl rfl om om) (waI rfl (x_nil (e_S (c_seq (c_region ?_)))))
  refine waI rfl (x_nil (e_S (c_seq (c_block ?_))))
  refine c_loopS [0, 10, 11, 34, 35, 36, 37, 38, 39, 40, 41, 42, 43, 44, 45, 46, 47, 48, 49, 50, 51, 52, 53, 54, 55, 56, 57] (fun mm g w' => ∃ (i : Nat) (r : ByteArray), i ≤ N ∧ mm = N - i ∧ g 10 = .int .i64 i ∧ g 0 = .string r ∧ (sp c s).drop i = sp c r ∧ r.size ≤ s.size ∧ Bel w w' ∧ Blk w' b31 9 (row (N + 1) (spS c s i))) (N) ?_ (fun m g11 w3 hI => ?_)
  ·
   exact ⟨0, s, Nat.zero_le _, rfl, rfl, rfl, rfl, Nat.le_refl _, hB, by rw [spS_zero]; exact hb31⟩
  obtain ⟨i, r, hi, hm, h10, h0, hd, hrs, hB, hb31⟩ := hI
  refine c_know 10 (.int .i64 i) h10 nu (c_know 0 (.string r) h0 nu (c_seq (c_seq (c_region (wmI rfl ?_)))))
  refine wmI rfl (wl (r_lss rfl rfl) (x_nil (e_S ?_)))
  refine c_ifd rfl (fun c36 => ?_) (fun c36 => ?_)
  ·
   have hil : i < N := by omega
   obtain ⟨m, hm2, hmr, htk, hd2⟩ := sp_at hd om
   refine c_skip (e_S (c_block (c_seq (c_region (wl (r_mv (v := .string _) rfl) ?_)))))
   refine wl (r_mv (v := .string _) rfl) ?_
   refine wl_cl fn112 (ix_one hm2 _) rfl (fun e' w4 hr => ?_)
   obtain ⟨rfl, rfl⟩ := hr
   refine ⟨_, rfl, ?_⟩
   refine waI rfl (x_nil (e_S (c_seq (c_seq (c_region ?_)))))
   refine wmI rfl (wl (r_lss rfl rfl) (x_nil (e_S ?_)))
   refine c_ifd rfl (fun c41 => ?_) (fun c41 => ?_)
   ·
    exact absurd c41 om
   refine c_skip (e_S (c_seq (c_region (wmS rfl (wmI rfl ?_)))))
   refine wl (r_mv (v := .string _) rfl) (wmI rfl (wmI rfl (wl (r_add (c := ((m : Nat) : Int)) rfl rfl om om) (wl (r_tkS (h := m) U9 rfl rfl om) (wl (r_ia (i := i) U83 sz9_HSp rfl rfl om rfl) ?_)))))
   refine wl_st1 (v := .string _) hb31 rfl rfl sz9_HSp (by rw [row_size]; omega) rfl row_set (fun w5 hq hs => ?_)
   replace hB := hB.tr1 hs lo31
   clear hs
   replace hb31 := hq
   rw [spS_set htk] at hb31
   refine x_nil (e_S (c_seq (c_region (wl (r_mv (v := .string _) rfl) (wmI rfl ?_)))))
   refine wl (r_mv (v := .string _) rfl) (wl (r_lenS U9 rfl) (wl (r_add (c := ((m + 1 : Nat) : Int)) rfl rfl om om) (wl (r_drS (l := m + 1) U9 rfl rfl om) (wl (r_as (v := .string _) rfl) (x_nil ?_)))))
   refine e_S (c_region (wmI rfl (wl (r_add (c := ((i + 1 : Nat) : Int)) rfl rfl om om) (waI rfl (x_nil ?_)))))
   refine e_B (e_LS (N - (i + 1)) om agA ?_)
   exact ⟨i + 1, _, by omega, rfl, rfl, rfl, hd2, by rw [sdr_size]; omega, hB, hb31⟩
  have hie : i = N := by omega
  have hrl := sp_last hd om
  refine c_exit (e_Sx (e_LSx (e_Bx (e_S (c_seq ?_)))))
  refine c_region (wmS rfl (wmI rfl (wl (r_mv (v := .string _) rfl) (wl (r_ia (i := i) U83 sz9_HSp rfl rfl om rfl) ?_))))
  refine wl_st1 (v := .string _) hb31 rfl rfl sz9_HSp (by rw [row_size]; omega) rfl row_set (fun w6 hq hs => ?_)
  replace hB := hB.tr1 hs lo31
  clear hs
  replace hb31 := hq
  rw [spS_set hrl, show N + 1 = (sp c s).length by omega, show i + 1 = (sp c s).length by omega, spS_full] at hb31
  refine x_nil (e_S (c_seq (c_region (wmS rfl (wmI rfl ?_)))))
  refine wl (r_add (c := ((N + 1 : Nat) : Int)) rfl rfl om om) (wl (r_slH (h := N + 1) U83 sz9_HSp rfl rfl om) (waS rfl (x_nil (e_S (c_ret ?_)))))
  refine fin1 (.inl rfl) rfl rfl ?_
  exact ⟨_, by rw [hlen]; rfl, lo31, hb31, hB⟩
 exact absurd dE c20
theorem spl_any (s : ByteArray) (c : UInt8) (w : World) (hs : s.size ≤ 4000) : Calls Tryd.prog 74 #[.string s, .string ⟨#[c]⟩] w fun e w' => ∃ b, e = .returned (.slice (some ⟨b, 0, none⟩) (sp c s).length (sp c s).length) ∧ w.heap.size ≤ b ∧ Blk w' b 9 (spR c s) ∧ Bel w w' := by
 refine enter Tryd.func74 Tryd.ntmps74 rfl (Nat.le_of_ble_eq_true rfl) ?_
 have hB : Bel w w := Below.refl _ _
 refine c_seq (c_region (waS rfl (x_nil (e_S (c_seq ?_)))))
 refine c_region (wl (r_mv (v := .string _) rfl) (wl (r_mv (v := .string _) rfl) ?_))
 refine wl_cl fn100 (gsp_any s c _ hs) rfl (fun e' w1 hr => ?_)
 obtain ⟨bX, rfl, loX, hbX, hs⟩ := hr
 replace hs := Same.of_bel hs
 replace hB := hB.tr0 hs
 clear hs
 refine ⟨_, rfl, ?_⟩
 refine waS rfl (x_nil (e_S (c_ret (fin1 (.inl rfl) rfl rfl ?_))))
 exact ⟨_, rfl, loX, hbX, hB⟩
theorem ixs_any (A : Option Addr) (c : Nat) (xs : List ByteArray) (s : ByteArray) (w : World) (hL : StrsIn w A xs) : Calls Tryd.prog 101 #[.slice A xs.length c, .string s] w fun e w' => (∃ r : Int, e = .returned (.int .i64 r) ∧ (0 ≤ r ↔ s ∈ xs)) ∧ Bel w w' := by
 have hmx := hL.1
 unfold maxI at hmx
 refine enter Tryd.func101 Tryd.ntmps101 rfl (Nat.le_of_ble_eq_true rfl) ?_
 have hB : Bel w w := Below.refl _ _
 refine c_seq (c_region (waI rfl (x_nil (e_S (c_seq ?_)))))
 refine c_seq (c_region (wmS rfl (wl (r_len U83 rfl) (wmI rfl (x_nil ?_)))))
 refine e_S (c_block ?_)
 refine c_loopS [4, 5, 8, 9, 10, 11, 12, 13, 14, 15, 16, 17, 18] (fun m g w' => ∃ j : Nat, j ≤ xs.length ∧ m = xs.length - j ∧ g 8 = .int .i64 j ∧ Bel w w' ∧ (∀ j' (hj : j' < xs.length), j' < j → ¬ s = xs[j'])) (xs.length) ?_ (fun m g2 w1 hI => ?_)
 ·
  exact ⟨0, Nat.zero_le _, rfl, rfl, hB, fun j _ h => by omega⟩
 obtain ⟨j, hj, hm, h8, hB, hall⟩ := hI
 refine c_know 8 (.int .i64 j) h8 nu (c_seq (c_region (wl (r_lss rfl rfl) (x_nil (e_S ?_)))))
 refine c_seq ?_
 refine c_ifd rfl (fun c9 => ?_) (fun c9 => ?_)
 ·
  have hjl : j < xs.length := by omega
  obtain ⟨lb, lof, rfl, hlb, hlr⟩ := hL.at_ hjl
  refine c_skip (e_S (c_seq (c_block (c_seq (c_region ?_)))))
  refine wmI rfl (waI rfl (x_nil (e_S (c_seq (c_region ?_)))))
  refine wl (r_mv (v := .string _) rfl) (wmS rfl (wmI rfl (wl (r_ia (i := j) U83 sz9_HSp rfl rfl om rfl) (wl (r_ld1 (v := .string _) U9 rfl rfl (hB.cell hlb hlr)) (wl (r_eqlS rfl rfl) ?_)))))
  refine x_nil (e_S ?_)
  refine c_ifd rfl (fun c16 => ?_) (fun c16 => ?_)
  ·
   refine c_seq (c_region (wmI rfl (waI rfl (x_nil (e_S ?_)))))
   refine c_ret (e_Br (e_Sr (e_LSr (e_Br (e_Sr ?_)))))
   refine fin1 (.inl rfl) rfl rfl ?_
   exact ⟨⟨_, rfl, ⟨fun _ => c16 ▸ List.getElem_mem hjl, fun _ => by omega⟩⟩, hB⟩
  refine c_skip (e_B (e_S (c_region (wl (r_add rfl rfl rfl om) (wmI rfl ?_)))))
  refine x_nil (e_LS (xs.length - (j + 1)) om agA ?_)
  exact ⟨j + 1, by omega, rfl, rfl, hB, fun j' hj' h => by
    by_cases e : j' = j
    · subst e; exact c16
    · exact hall j' hj' om⟩
 have hje : j = xs.length := by omega
 subst hje
 refine c_exit (e_Sx (e_LSx (e_Bx (e_S (c_seq ?_)))))
 refine c_region (waI rfl (x_nil (e_S (c_ret (fin1 (.inl rfl) rfl rfl ?_)))))
 exact ⟨⟨_, rfl, ⟨fun h => absurd h dE, fun h => by
   obtain ⟨k, hk, e⟩ := List.mem_iff_getElem.1 h
   exact absurd e.symm (hall k hk hk)⟩⟩, hB⟩
theorem cts_any (A : Option Addr) (c : Nat) (xs : List ByteArray) (s : ByteArray) (w : World) (hL : StrsIn w A xs) : Calls Tryd.prog 78 #[.slice A xs.length c, .string s] w fun e w' => e = .returned (.bool (seen xs s)) ∧ Bel w w' := by
 refine enter Tryd.func78 Tryd.ntmps78 rfl (Nat.le_of_ble_eq_true rfl) ?_
 have hB : Bel w w := Below.refl _ _
 refine c_seq (c_region (waB rfl (x_nil (e_S (c_seq ?_)))))
 refine c_region (wmS rfl (wl (r_mv (v := .string _) rfl) ?_))
 refine wl_cl fn101 (ixs_any A c xs s _ (hL.mono hB)) rfl (fun e' w1 hr => ?_)
 obtain ⟨⟨r, rfl, hr⟩, hs⟩ := hr
 replace hs := Same.of_bel hs
 replace hB := hB.tr0 hs
 clear hs
 refine ⟨_, rfl, ?_⟩
 refine wl (r_geq rfl rfl) (waB rfl (x_nil (e_S (c_ret (fin1 (.inl rfl) rfl rfl ?_)))))
 exact ⟨ret_bool (seen_dec hr).symm, hB⟩
end Go.Proofs.YtegngekpmpdngaaDoor
namespace Go.Proofs.YtegngekpmpdngaaDoor
open Go.RowKit
def lastP (s : ByteArray) : ByteArray := pc 10 s ((sp 10 s).length - 1)
def lnsO (s : ByteArray) : List ByteArray := if lastP s = ⟨#[]⟩ then (sp 10 s).take ((sp 10 s).length - 1) else sp 10 s
def opn (s : ByteArray) : Int := if lastP s = ⟨#[]⟩ then -1 else (((sp 10 s).length - 1 : Nat) : Int)
theorem fn74 : callable Tryd.prog 74 = true := by kernel_rfl
set_option maxHeartbeats 1000000 in
theorem lns_any (s : ByteArray) (w : World) (hs : s.size ≤ 4000) : Calls Tryd.prog 42 #[.string s] w fun e w' => (∃ b, e = .returned (.tuple #[.slice (some ⟨b, 0, none⟩) (lnsO s).length (sp 10 s).length, .int .i64 (opn s)]) ∧ StrsIn w' (some ⟨b, 0, none⟩) (lnsO s)) ∧ Bel w w' := by
 obtain ⟨N, hN⟩ : ∃ N, (bl s).count 10 = N := ⟨_, rfl⟩
 have hNs := count_size 10 s
 have hlen := sp_len 10 s
 rw [hN] at hNs hlen
 refine enter Tryd.func42 Tryd.ntmps42 rfl (Nat.le_of_ble_eq_true rfl) ?_
 have hB : Bel w w := Below.refl _ _
 refine c_seq (c_region (waS rfl (waI rfl (x_nil (e_S ?_)))))
 refine c_seq (c_region (wl (r_mv (v := .string _) rfl) ?_))
 refine wl_cl fn74 (spl_any s 10 _ hs) rfl (fun e' w1 hr => ?_)
 obtain ⟨bX, rfl, loX, hbX, hs⟩ := hr
 replace hs := Same.of_bel hs
 replace hB := hB.tr0 hs
 clear hs
 refine ⟨_, rfl, ?_⟩
 refine waS rfl (x_nil (e_S (c_seq (c_seq (c_region ?_)))))
 refine wmS rfl (wmS rfl (wl (r_len U83 rfl) (wl (r_sub (c := ((N : Nat) : Int)) rfl rfl om om) (wl (r_ia (i := N) U83 sz9_HSp rfl rfl om rfl) (wl (r_ld1 (v := .string _) U9 rfl rfl (hbX.cell (spR_get om))) ?_)))))
 refine wl (r_neqS rfl rfl) (x_nil (e_S ?_))
 refine c_ifd rfl (fun c13 => ?_) (fun c13 => ?_)
 ·
  have hla : ¬ lastP s = ⟨#[]⟩ := by unfold lastP; rw [hlen]; exact c13
  refine c_seq (c_region (wmS rfl (wmS rfl (wl (r_len U83 rfl) (wl (r_sub (c := ((N : Nat) : Int)) rfl rfl om om) ?_)))))
  refine waS rfl (waI rfl (x_nil (e_S (c_ret (e_Sr ?_)))))
  refine fin2 (.inl rfl) rfl rfl rfl ?_
  refine ⟨⟨bX, ?_, ?_⟩, hB⟩
  · unfold lnsO opn; rw [if_neg hla, if_neg hla, hlen]; rfl
  · unfold lnsO; rw [if_neg hla]; exact spR_all hbX hs
 have hla : lastP s = ⟨#[]⟩ := by unfold lastP; rw [hlen]; exact Decidable.not_not.1 c13
 refine c_skip (e_S (c_seq (c_region (wmS rfl (wmS rfl ?_)))))
 refine wl (r_len U83 rfl) (wl (r_sub (c := ((N : Nat) : Int)) rfl rfl om om) (wl (r_slH (h := N) U83 sz9_HSp rfl rfl om) (waS rfl (waI rfl (x_nil ?_)))))
 refine e_S (c_ret (fin2 (.inl rfl) rfl rfl rfl ?_))
 refine ⟨⟨bX, ?_, ?_⟩, hB⟩
 · unfold lnsO opn; rw [if_pos hla, if_pos hla, List.length_take, hlen, Nat.min_eq_left om]; rfl
 · unfold lnsO; rw [if_pos hla]; exact spR_strs hbX hs om
end Go.Proofs.YtegngekpmpdngaaDoor
