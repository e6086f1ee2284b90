/- What these functions of the program compute, at every world: strings.genSplit, strings.Split, slices.Index[[]string,string], slices.Contains[[]string,string]. What these functions of the program compute, at every world: glosswright/hierarchy.Lines. What these functions of the program compute, at every world: glosswright/glosswrightref4.Words. What these functions of the program compute, at every world: glosswright/hierarchy.Read$1$1, slices.IndexFunc[[]glosswright/api.Type,glosswright/api.Type], glosswright/hierarchy.Read$1. -/
import Derived.Test.YtegngekpmpdngaaDoorU
import Derived.Test.YtegngekpmpdngaaDoorShx
import Derived.Test.YtegngekpmpdngaaDoorBld
namespace Go.Proofs.YtegngekpmpdngaaDoor
open Go.RowKit
theorem ct_one {s : ByteArray} {c : UInt8} {N : Nat} (h : (bl s).count c = N) (w : World) : Calls Tryd.prog 111 #[.string s, .string ⟨#[c]⟩] w fun e w' => e = .returned (.int .i64 ((N : Nat) : Int)) ∧ w = w' := by
  subst h
  exact (sh_strings_Count_one s c w).mono fun _ _ h => ⟨h.1, h.2.symm⟩
theorem ix_one {s : ByteArray} {c : UInt8} {m : Nat} (h : Lib.indexByte (bl s) c = (m : Int)) (w : World) : Calls Tryd.prog 112 #[.string s, .string ⟨#[c]⟩] w fun e w' => e = .returned (.int .i64 ((m : Nat) : Int)) ∧ w = w' := by
  rw [← h]
  exact (sh_strings_Index_one s c w).mono fun _ _ h => ⟨h.1, h.2.symm⟩
theorem one_ne (c : UInt8) : ¬ (⟨#[c]⟩ : ByteArray) = ⟨#[]⟩ := fun h => by
  have := congrArg ByteArray.size h
  simp [ByteArray.size] at this
theorem seen_dec {xs : List ByteArray} {s : ByteArray} {p : Prop} [Decidable p] (h : p ↔ s ∈ xs) : decide p = seen xs s := by
  have h2 : seen xs s = true ↔ s ∈ xs := by simp [seen]
  by_cases hp : p
  · rw [decide_eq_true hp, h2.2 (h.1 hp)]
  · rw [decide_eq_false hp]
    cases hq : seen xs s with
    | false => rfl
    | true => exact absurd (h.2 (h2.1 hq)) hp
def spS (c : UInt8) (s : ByteArray) (i k : Nat) : Value := .string (if k < i then pc c s k else ⟨#[]⟩)
theorem spS_zero {c : UInt8} {s : ByteArray} {N : Nat} : row N (spS c s 0) = row N (fun _ => .string ⟨#[]⟩) := row_congr (fun k _ => by unfold spS; rw [if_neg om])
theorem spS_set {c : UInt8} {s v : ByteArray} {N i : Nat} (hv : v = pc c s i) : row N (fun k => if k = i then .string v else spS c s i k) = row N (spS c s (i + 1)) := row_congr (fun k _ => by
  unfold spS
  by_cases e : k = i
  · subst e; rw [if_pos rfl, if_pos om, hv]
  · rw [if_neg e]
    by_cases h : k < i
    · rw [if_pos h, if_pos om]
    · rw [if_neg h, if_neg om])
theorem spS_full {c : UInt8} {s : ByteArray} : row (sp c s).length (spS c s (sp c s).length) = spR c s := row_congr (fun k hk => by unfold spS; rw [if_pos hk])
theorem fn100 : callable Tryd.prog 100 = true := by kernel_rfl
theorem fn101 : callable Tryd.prog 101 = true := by kernel_rfl
theorem fn111 : callable Tryd.prog 111 = true := by kernel_rfl
theorem fn112 : callable Tryd.prog 112 = true := by kernel_rfl
theorem in9 : (Tryd.prog.info? 9).map (fun i => (i.zero, i.size, i.bytes)) = some (some (.string ⟨#[]⟩), 1, 16) := by kernel_rfl
theorem sz9_HSp : (Tryd.prog.info? 9).map (·.size) = some 1 := by kernel_rfl
set_option maxRecDepth 100000 in
set_option maxHeartbeats 1000000 in
theorem gsp_any (s : ByteArray) (c : UInt8) (w : World) (hs : s.size ≤ 4000) : Calls Tryd.prog 100 #[.string s, .string ⟨#[c]⟩, .int .i64 0, .int .i64 (-1)] w fun e w' => ∃ b, e = .returned (.slice (some ⟨b, 0, none⟩) (sp c s).length (sp c s).length) ∧ w.heap.size ≤ b ∧ Blk w' b 9 (spR c s) ∧ Bel w w' := by
 obtain ⟨N, hN⟩ : ∃ N, (bl s).count c = N := ⟨_, rfl⟩
 have hNs := count_size c s
 rw [hN] at hNs
 have hlen := sp_len c s
 rw [hN] at hlen
 have hmin : min (N + 1) (s.size + 1) = N + 1 := by omega
 have h1s : (⟨#[c]⟩ : ByteArray).size = 1 := rfl
 refine enter Tryd.func100 Tryd.ntmps100 rfl (Nat.le_of_ble_eq_true rfl) ?_
 have hB : Bel w w := Below.refl _ _
 refine c_seq (c_region (waS rfl (x_nil (e_S (c_seq ?_)))))
 refine c_seq (c_region (wmI rfl (wl (r_eql rfl rfl) (x_nil (e_S ?_)))))
 refine c_ifd rfl (fun c13 => ?_) (fun c13 => ?_)
 ·
  exact absurd c13 dE
 refine c_skip (e_S (c_seq (c_seq (c_region (wl (r_mv (v := .string _) rfl) ?_)))))
 refine wl (r_eqlS rfl rfl) (x_nil (e_S ?_))
 refine c_ifd rfl (fun c15 => ?_) (fun c15 => ?_)
 ·
  exact absurd c15 (one_ne c)
 refine c_skip (e_S (c_seq (c_seq (c_region (wmI rfl ?_)))))
 refine wl (r_lss rfl rfl) (x_nil (e_S ?_))
 refine c_ifd rfl (fun c20 => ?_) (fun c20 => ?_)
 ·
  refine c_region (wl (r_mv (v := .string _) rfl) (wl (r_mv (v := .string _) rfl) ?_))
  refine wl_cl fn111 (ct_one hN _) rfl (fun e' w1 hr => ?_)
  obtain ⟨rfl, rfl⟩ := hr
  refine ⟨_, rfl, ?_⟩
  refine wl (r_add (c := ((N + 1 : Nat) : Int)) rfl rfl om om) (waI rfl (x_nil (e_S (c_seq (c_region ?_)))))
  refine wmI rfl (wl (r_mv (v := .string _) rfl) (wl (r_lenS U9 rfl) (wl (r_add (c := ((s.size + 1 : Nat) : Int)) rfl rfl om om) (wl (r_minN rfl rfl) (wl (r_as (v := .int .i64 ((N + 1 : Nat) : Int)) (congrArg (fun z : Nat => Value.int .i64 (z : Int)) hmin)) ?_)))))
  refine x_nil (e_S (c_seq (c_region (wmI rfl ?_))))
  refine wl_mkR (m := N + 1) U83 in9 rfl rfl rfl om om (fun b31 w2 hb31 hs hr => ?_)
  have lo31 := nLT (Bel.size hB) hr
  replace hB := hB.tr0 hs
  clear hs
  clear hr
  refine waS rfl (x_nil (e_S (c_seq (c_region (wmI rfl ?_)))))
  refine wl (r_sub (c := ((N : Nat) : Int)) rfl rfl om om) (waI rfl (x_nil (e_S (c_seq (c_region ?_)))))
  refine waI rfl (x_nil (e_S (c_seq (c_block ?_))))
  refine c_loopS [0, 10, 11, 34, 35, 36, 37, 38, 39, 40, 41, 42, 43, 44, 45, 46, 47, 48, 49, 50, 51, 52, 53, 54, 55, 56, 57] (fun mm g w' => ∃ (i : Nat) (r : ByteArray), i ≤ N ∧ mm = N - i ∧ g 10 = .int .i64 i ∧ g 0 = .string r ∧ (sp c s).drop i = sp c r ∧ r.size ≤ s.size ∧ Bel w w' ∧ Blk w' b31 9 (row (N + 1) (spS c s i))) (N) ?_ (fun m g11 w3 hI => ?_)
  ·
   exact ⟨0, s, Nat.zero_le _, rfl, rfl, rfl, rfl, Nat.le_refl _, hB, by rw [spS_zero]; exact hb31⟩
  obtain ⟨i, r, hi, hm, h10, h0, hd, hrs, hB, hb31⟩ := hI
  refine c_know 10 (.int .i64 i) h10 nu (c_know 0 (.string r) h0 nu (c_seq (c_seq (c_region (wmI rfl ?_)))))
  refine wmI rfl (wl (r_lss rfl rfl) (x_nil (e_S ?_)))
  refine c_ifd rfl (fun c36 => ?_) (fun c36 => ?_)
  ·
   have hil : i < N := by omega
   obtain ⟨m, hm2, hmr, htk, hd2⟩ := sp_at hd om
   refine c_skip (e_S (c_block (c_seq (c_region (wl (r_mv (v := .string _) rfl) ?_)))))
   refine wl (r_mv (v := .string _) rfl) ?_
   refine wl_cl fn112 (ix_one hm2 _) rfl (fun e' w4 hr => ?_)
   obtain ⟨rfl, rfl⟩ := hr
   refine ⟨_, rfl, ?_⟩
   refine waI rfl (x_nil (e_S (c_seq (c_seq (c_region ?_)))))
   refine wmI rfl (wl (r_lss rfl rfl) (x_nil (e_S ?_)))
   refine c_ifd rfl (fun c41 => ?_) (fun c41 => ?_)
   ·
    exact absurd c41 om
   refine c_skip (e_S (c_seq (c_region (wmS rfl (wmI rfl ?_)))))
   refine wl (r_mv (v := .string _) rfl) (wmI rfl (wmI rfl (wl (r_add (c := ((m : Nat) : Int)) rfl rfl om om) (wl (r_tkS (h := m) U9 rfl rfl om) (wl (r_ia (i := i) U83 sz9_HSp rfl rfl om rfl) ?_)))))
   refine wl_st1 (v := .string _) hb31 rfl rfl sz9_HSp (by rw [row_size]; omega) rfl row_set (fun w5 hq hs => ?_)
   replace hB := hB.tr1 hs lo31
   clear hs
   replace hb31 := hq
   rw [spS_set htk] at hb31
   refine x_nil (e_S (c_seq (c_region (wl (r_mv (v := .string _) rfl) (wmI rfl ?_)))))
   refine wl (r_mv (v := .string _) rfl) (wl (r_lenS U9 rfl) (wl (r_add (c := ((m + 1 : Nat) : Int)) rfl rfl om om) (wl (r_drS (l := m + 1) U9 rfl rfl om) (wl (r_as (v := .string _) rfl) (x_nil ?_)))))
   refine e_S (c_region (wmI rfl (wl (r_add (c := ((i + 1 : Nat) : Int)) rfl rfl om om) (waI rfl (x_nil ?_)))))
   refine e_B (e_LS (N - (i + 1)) om agA ?_)
   exact ⟨i + 1, _, by omega, rfl, rfl, rfl, hd2, by rw [sdr_size]; omega, hB, hb31⟩
  have hie : i = N := by omega
  have hrl := sp_last hd om
  refine c_exit (e_Sx (e_LSx (e_Bx (e_S (c_seq ?_)))))
  refine c_region (wmS rfl (wmI rfl (wl (r_mv (v := .string _) rfl) (wl (r_ia (i := i) U83 sz9_HSp rfl rfl om rfl) ?_))))
  refine wl_st1 (v := .string _) hb31 rfl rfl sz9_HSp (by rw [row_size]; omega) rfl row_set (fun w6 hq hs => ?_)
  replace hB := hB.tr1 hs lo31
  clear hs
  replace hb31 := hq
  rw [spS_set hrl, show N + 1 = (sp c s).length by omega, show i + 1 = (sp c s).length by omega, spS_full] at hb31
  refine x_nil (e_S (c_seq (c_region (wmS rfl (wmI rfl ?_)))))
  refine wl (r_add (c := ((N + 1 : Nat) : Int)) rfl rfl om om) (wl (r_slH (h := N + 1) U83 sz9_HSp rfl rfl om) (waS rfl (x_nil (e_S (c_ret ?_)))))
  refine fin1 (.inl rfl) rfl rfl ?_
  exact ⟨_, by rw [hlen]; rfl, lo31, hb31, hB⟩
 exact absurd dE c20
theorem spl_any (s : ByteArray) (c : UInt8) (w : World) (hs : s.size ≤ 4000) : Calls Tryd.prog 74 #[.string s, .string ⟨#[c]⟩] w fun e w' => ∃ b, e = .returned (.slice (some ⟨b, 0, none⟩) (sp c s).length (sp c s).length) ∧ w.heap.size ≤ b ∧ Blk w' b 9 (spR c s) ∧ Bel w w' := by
 refine enter Tryd.func74 Tryd.ntmps74 rfl (Nat.le_of_ble_eq_true rfl) ?_
 have hB : Bel w w := Below.refl _ _
 refine c_seq (c_region (waS rfl (x_nil (e_S (c_seq ?_)))))
 refine c_region (wl (r_mv (v := .string _) rfl) (wl (r_mv (v := .string _) rfl) ?_))
 refine wl_cl fn100 (gsp_any s c _ hs) rfl (fun e' w1 hr => ?_)
 obtain ⟨bX, rfl, loX, hbX, hs⟩ := hr
 replace hs := Same.of_bel hs
 replace hB := hB.tr0 hs
 clear hs
 refine ⟨_, rfl, ?_⟩
 refine waS rfl (x_nil (e_S (c_ret (fin1 (.inl rfl) rfl rfl ?_))))
 exact ⟨_, rfl, loX, hbX, hB⟩
theorem ixs_any (A : Option Addr) (c : Nat) (xs : List ByteArray) (s : ByteArray) (w : World) (hL : StrsIn w A xs) : Calls Tryd.prog 101 #[.slice A xs.length c, .string s] w fun e w' => (∃ r : Int, e = .returned (.int .i64 r) ∧ (0 ≤ r ↔ s ∈ xs)) ∧ Bel w w' := by
 have hmx := hL.1
 unfold maxI at hmx
 refine enter Tryd.func101 Tryd.ntmps101 rfl (Nat.le_of_ble_eq_true rfl) ?_
 have hB : Bel w w := Below.refl _ _
 refine c_seq (c_region (waI rfl (x_nil (e_S (c_seq ?_)))))
 refine c_seq (c_region (wmS rfl (wl (r_len U83 rfl) (wmI rfl (x_nil ?_)))))
 refine e_S (c_block ?_)
 refine c_loopS [4, 5, 8, 9, 10, 11, 12, 13, 14, 15, 16, 17, 18] (fun m g w' => ∃ j : Nat, j ≤ xs.length ∧ m = xs.length - j ∧ g 8 = .int .i64 j ∧ Bel w w' ∧ (∀ j' (hj : j' < xs.length), j' < j → ¬ s = xs[j'])) (xs.length) ?_ (fun m g2 w1 hI => ?_)
 ·
  exact ⟨0, Nat.zero_le _, rfl, rfl, hB, fun j _ h => by omega⟩
 obtain ⟨j, hj, hm, h8, hB, hall⟩ := hI
 refine c_know 8 (.int .i64 j) h8 nu (c_seq (c_region (wl (r_lss rfl rfl) (x_nil (e_S ?_)))))
 refine c_seq ?_
 refine c_ifd rfl (fun c9 => ?_) (fun c9 => ?_)
 ·
  have hjl : j < xs.length := by omega
  obtain ⟨lb, lof, rfl, hlb, hlr⟩ := hL.at_ hjl
  refine c_skip (e_S (c_seq (c_block (c_seq (c_region ?_)))))
  refine wmI rfl (waI rfl (x_nil (e_S (c_seq (c_region ?_)))))
  refine wl (r_mv (v := .string _) rfl) (wmS rfl (wmI rfl (wl (r_ia (i := j) U83 sz9_HSp rfl rfl om rfl) (wl (r_ld1 (v := .string _) U9 rfl rfl (hB.cell hlb hlr)) (wl (r_eqlS rfl rfl) ?_)))))
  refine x_nil (e_S ?_)
  refine c_ifd rfl (fun c16 => ?_) (fun c16 => ?_)
  ·
   refine c_seq (c_region (wmI rfl (waI rfl (x_nil (e_S ?_)))))
   refine c_ret (e_Br (e_Sr (e_LSr (e_Br (e_Sr ?_)))))
   refine fin1 (.inl rfl) rfl rfl ?_
   exact ⟨⟨_, rfl, ⟨fun _ => c16 ▸ List.getElem_mem hjl, fun _ => by omega⟩⟩, hB⟩
  refine c_skip (e_B (e_S (c_region (wl (r_add rfl rfl rfl om) (wmI rfl ?_)))))
  refine x_nil (e_LS (xs.length - (j + 1)) om agA ?_)
  exact ⟨j + 1, by omega, rfl, rfl, hB, fun j' hj' h => by
    by_cases e : j' = j
    · subst e; exact c16
    · exact hall j' hj' om⟩
 have hje : j = xs.length := by omega
 subst hje
 refine c_exit (e_Sx (e_LSx (e_Bx (e_S (c_seq ?_)))))
 refine c_region (waI rfl (x_nil (e_S (c_ret (fin1 (.inl rfl) rfl rfl ?_)))))
 exact ⟨⟨_, rfl, ⟨fun h => absurd h dE, fun h => by
   obtain ⟨k, hk, e⟩ := List.mem_iff_getElem.1 h
   exact absurd e.symm (hall k hk hk)⟩⟩, hB⟩
theorem cts_any (A : Option Addr) (c : Nat) (xs : List ByteArray) (s : ByteArray) (w : World) (hL : StrsIn w A xs) : Calls Tryd.prog 78 #[.slice A xs.length c, .string s] w fun e w' => e = .returned (.bool (seen xs s)) ∧ Bel w w' := by
 refine enter Tryd.func78 Tryd.ntmps78 rfl (Nat.le_of_ble_eq_true rfl) ?_
 have hB : Bel w w := Below.refl _ _
 refine c_seq (c_region (waB rfl (x_nil (e_S (c_seq ?_)))))
 refine c_region (wmS rfl (wl (r_mv (v := .string _) rfl) ?_))
 refine wl_cl fn101 (ixs_any A c xs s _ (hL.mono hB)) rfl (fun e' w1 hr => ?_)
 obtain ⟨⟨r, rfl, hr⟩, hs⟩ := hr
 replace hs := Same.of_bel hs
 replace hB := hB.tr0 hs
 clear hs
 refine ⟨_, rfl, ?_⟩
 refine wl (r_geq rfl rfl) (waB rfl (x_nil (e_S (c_ret (fin1 (.inl rfl) rfl rfl ?_)))))
 exact ⟨ret_bool (seen_dec hr).symm, hB⟩
end Go.Proofs.YtegngekpmpdngaaDoor
namespace Go.Proofs.YtegngekpmpdngaaDoor
open Go.RowKit
def lastP (s : ByteArray) : ByteArray := pc 10 s ((sp 10 s).length - 1)
def lnsO (s : ByteArray) : List ByteArray := if lastP s = ⟨#[]⟩ then (sp 10 s).take ((sp 10 s).length - 1) else sp 10 s
def opn (s : ByteArray) : Int := if lastP s = ⟨#[]⟩ then -1 else (((sp 10 s).length - 1 : Nat) : Int)
theorem fn74 : callable Tryd.prog 74 = true := by kernel_rfl
set_option maxHeartbeats 1000000 in
theorem lns_any (s : ByteArray) (w : World) (hs : s.size ≤ 4000) : Calls Tryd.prog 42 #[.string s] w fun e w' => (∃ b, e = .returned (.tuple #[.slice (some ⟨b, 0, none⟩) (lnsO s).length (sp 10 s).length, .int .i64 (opn s)]) ∧ StrsIn w' (some ⟨b, 0, none⟩) (lnsO s)) ∧ Bel w w' := by
 obtain ⟨N, hN⟩ : ∃ N, (bl s).count 10 = N := ⟨_, rfl⟩
 have hNs := count_size 10 s
 have hlen := sp_len 10 s
 rw [hN] at hNs hlen
 refine enter Tryd.func42 Tryd.ntmps42 rfl (Nat.le_of_ble_eq_true rfl) ?_
 have hB : Bel w w := Below.refl _ _
 refine c_seq (c_region (waS rfl (waI rfl (x_nil (e_S ?_)))))
 refine c_seq (c_region (wl (r_mv (v := .string _) rfl) ?_))
 refine wl_cl fn74 (spl_any s 10 _ hs) rfl (fun e' w1 hr => ?_)
 obtain ⟨bX, rfl, loX, hbX, hs⟩ := hr
 replace hs := Same.of_bel hs
 replace hB := hB.tr0 hs
 clear hs
 refine ⟨_, rfl, ?_⟩
 refine waS rfl (x_nil (e_S (c_seq (c_seq (c_region ?_)))))
 refine wmS rfl (wmS rfl (wl (r_len U83 rfl) (wl (r_sub (c := ((N : Nat) : Int)) rfl rfl om om) (wl (r_ia (i := N) U83 sz9_HSp rfl rfl om rfl) (wl (r_ld1 (v := .string _) U9 rfl rfl (hbX.cell (spR_get om))) ?_)))))
 refine wl (r_neqS rfl rfl) (x_nil (e_S ?_))
 refine c_ifd rfl (fun c13 => ?_) (fun c13 => ?_)
 ·
  have hla : ¬ lastP s = ⟨#[]⟩ := by unfold lastP; rw [hlen]; exact c13
  refine c_seq (c_region (wmS rfl (wmS rfl (wl (r_len U83 rfl) (wl (r_sub (c := ((N : Nat) : Int)) rfl rfl om om) ?_)))))
  refine waS rfl (waI rfl (x_nil (e_S (c_ret (e_Sr ?_)))))
  refine fin2 (.inl rfl) rfl rfl rfl ?_
  refine ⟨⟨bX, ?_, ?_⟩, hB⟩
  · unfold lnsO opn; rw [if_neg hla, if_neg hla, hlen]; rfl
  · unfold lnsO; rw [if_neg hla]; exact spR_all hbX hs
 have hla : lastP s = ⟨#[]⟩ := by unfold lastP; rw [hlen]; exact Decidable.not_not.1 c13
 refine c_skip (e_S (c_seq (c_region (wmS rfl (wmS rfl ?_)))))
 refine wl (r_len U83 rfl) (wl (r_sub (c := ((N : Nat) : Int)) rfl rfl om om) (wl (r_slH (h := N) U83 sz9_HSp rfl rfl om) (waS rfl (waI rfl (x_nil ?_)))))
 refine e_S (c_ret (fin2 (.inl rfl) rfl rfl rfl ?_))
 refine ⟨⟨bX, ?_, ?_⟩, hB⟩
 · unfold lnsO opn; rw [if_pos hla, if_pos hla, List.length_take, hlen, Nat.min_eq_left om]; rfl
 · unfold lnsO; rw [if_pos hla]; exact spR_strs hbX hs om
end Go.Proofs.YtegngekpmpdngaaDoor
namespace Go.Proofs.YtegngekpmpdngaaDoor
open Go.RowKit
def sV (X : List ByteArray) : List Value := X.map Value.string
theorem apL_snoc {c x : UInt8} (hx : x ≠ c) : ∀ l : List UInt8, splitL c (l ++ [x]) = (splitL c l).set ((splitL c l).length - 1) ((splitL c l).getD ((splitL c l).length - 1) [] ++ [x])
  | [] => by
    show splitL c [x] = _
    rw [splitL_cons, if_neg hx]
    rfl
  | y :: ys => by
    have ih := apL_snoc hx ys
    have hne := splitL_ne c ys
    rw [List.cons_append, splitL_cons, splitL_cons, ih]
    generalize splitL c ys = P at hne ⊢
    by_cases e : y = c
    · rw [if_pos e, if_pos e]
      obtain ⟨p, ps, rfl⟩ : ∃ p ps, P = p :: ps := ⟨_, _, (headD_tail hne []).symm⟩
      simp only [List.length_cons, Nat.add_sub_cancel, List.set_cons_succ, List.getD_cons_succ]
    · rw [if_neg e, if_neg e]
      match P, hne with
      | [p], _ => rfl
      | p :: q :: ps, _ =>
        simp only [List.length_cons, Nat.add_sub_cancel, List.set_cons_succ, List.getD_cons_succ, List.headD_cons, List.tail_cons]
theorem spl_same (c : UInt8) : ∀ l : List UInt8, splitL c (l ++ [c]) = splitL c l ++ [[]]
  | [] => by
    show splitL c [c] = _
    rw [splitL_cons, if_pos rfl]
    rfl
  | y :: ys => by
    have ih := spl_same c ys
    have hne := splitL_ne c ys
    rw [List.cons_append, splitL_cons, splitL_cons, ih]
    by_cases e : y = c
    · rw [if_pos e, if_pos e]; rfl
    · rw [if_neg e, if_neg e]
      generalize splitL c ys = P at hne ⊢
      cases P with
      | nil => exact absurd rfl hne
      | cons p ps => rfl
theorem stk_succ {s : ByteArray} {i : Nat} (hi : i < s.size) : bl (stk (i + 1) s) = bl (stk i s) ++ [s[i]'hi] := by
  rw [bl_stk, bl_stk, List.take_add_one, bl_byte hi]
  rfl
theorem sp_byte {c : UInt8} {s : ByteArray} {i : Nat} (hi : i < s.size) (h : s[i]'hi = c) : sp c (stk (i + 1) s) = sp c (stk i s) ++ [⟨#[]⟩] := by
  unfold sp
  rw [stk_succ hi, h, spl_same, List.map_append]
  rfl
theorem sp_word {c : UInt8} {s : ByteArray} {i q : Nat} (hi : i < s.size) (h : ¬ s[i]'hi = c) (hq : (sp c (stk i s)).length = q + 1) : sp c (stk (i + 1) s) = (sp c (stk i s)).set q (pc c (stk i s) q ++ ⟨#[s[i]'hi]⟩) := by
  have hl : (splitL c (bl (stk i s))).length = q + 1 := by rw [← hq]; unfold sp; rw [List.length_map]
  have e : sp c (stk (i + 1) s) = ((splitL c (bl (stk i s))).set q ((splitL c (bl (stk i s))).getD q [] ++ [s[i]'hi])).map (fun p => ⟨p.toArray⟩) := by
    show (splitL c (bl (stk (i + 1) s))).map _ = _
    rw [stk_succ hi, apL_snoc h, hl, Nat.add_sub_cancel]
  have e2 : (⟨((splitL c (bl (stk i s))).getD q [] ++ [s[i]'hi]).toArray⟩ : ByteArray) = pc c (stk i s) q ++ ⟨#[s[i]'hi]⟩ := bl_ext (by
    rw [bl_app]
    unfold pc sp
    have hq2 : q < (splitL c (bl (stk i s))).length := by omega
    simp only [List.getD_eq_getElem?_getD, List.getElem?_map, List.getElem?_eq_getElem hq2, Option.map_some, Option.getD_some]
    rfl)
  rw [e, List.map_set, e2]
  rfl
theorem stk_all (s : ByteArray) : stk s.size s = s := bl_ext (by rw [bl_stk, ← bl_size, List.take_length])
theorem sV_at {c : UInt8} {s : ByteArray} {j : Nat} (hj : j < (sp c s).length) : (sV (sp c s))[j]? = some (.string (pc c s j)) := by
  unfold sV pc
  simp [List.getD, hj]
theorem pc_size {c : UInt8} {s : ByteArray} {j : Nat} (hj : j < (sp c s).length) : (pc c s j).size ≤ s.size := by
  rw [← pc_get hj]; exact sp_small (List.getElem_mem hj)
theorem byte_eq {x : UInt8} {n : Nat} (hn : n < 256) (h : ((x.toNat : Nat) : Int) = (n : Int)) : x = UInt8.ofNat n := by
  apply UInt8.toNat_inj.1
  rw [UInt8.toNat_ofNat']
  omega
theorem byte_ne {x : UInt8} {n : Nat} (h : ¬ ((x.toNat : Nat) : Int) = (n : Int)) (hn : n < 256) : ¬ x = UInt8.ofNat n := fun e => h (by
  rw [e, UInt8.toNat_ofNat']
  omega)
theorem sl_lenW {A : Option Addr} {m n cap : Nat} (h : n = m) : Value.slice A m cap = Value.slice A n cap := by rw [h]
theorem ze9_HWd : (Tryd.prog.info? 9).map (·.zero) = some (some (.string ⟨#[]⟩)) := by kernel_rfl
set_option maxRecDepth 100000 in
set_option maxHeartbeats 2000000 in
theorem wds_any (s : ByteArray) (w : World) (hs4 : s.size ≤ 4000) : Calls Tryd.prog 45 #[.string s] w fun e w' => (∃ b c cur, e = .returned (.slice (some ⟨b, 0, none⟩) (sp 32 s).length c) ∧ (sp 32 s).length ≤ c ∧ w.heap.size ≤ b ∧ Blk w' b 9 cur ∧ (∀ j, j < (sp 32 s).length → cur[0 + j * 1]? = some (.string (pc 32 s j)))) ∧ Bel w w' := by
 refine enter Tryd.func45 Tryd.ntmps45 rfl (Nat.le_of_ble_eq_true rfl) ?_
 have hB : Bel w w := Below.refl _ _
 refine c_seq (c_region (waS rfl (x_nil (e_S (c_seq ?_)))))
 refine c_region ?_
 refine wl_bs (cs := #[_]) [(0, .string _)] rfl U83 sz9_HSp ze9_HWd dE dE kR rfl (fun b5 w1 hb5 hs hr => ?_)
 have lo5 := nLT (Bel.size hB) hr
 replace hB := hB.tr0 hs
 clear hs
 clear hr
 refine waS rfl (x_nil (e_S (c_seq (c_seq ?_))))
 have hoW : Own w1 w.heap.size 9 1 (some ⟨b5, 0, none⟩) (sp 32 (stk 0 s)).length 1 (sV (sp 32 (stk 0 s))) := own_blk (m := 1) hb5 lo5 rfl dE
 refine c_region (wl (r_mv (v := .string _) rfl) (wl (r_lenS U9 rfl) (wmI rfl (x_nil (e_S ?_)))))
 refine c_block ?_
 refine c_loopS [3, 4, 8, 9, 10, 11, 12, 13, 14, 15, 16, 17, 18, 19, 20, 21, 22, 23, 24, 25, 26, 27, 28, 29, 30, 31] (fun m g w' => ∃ (i : Nat) (A : Option Addr) (c : Nat), i ≤ s.size ∧ m = s.size - i ∧ g 8 = .int .i64 i ∧ g 3 = .slice A (sp 32 (stk i s)).length c ∧ Bel w w' ∧ Own w' w.heap.size 9 1 A (sp 32 (stk i s)).length c (sV (sp 32 (stk i s)))) (s.size) ?_ (fun m g3 w2 hI => ?_)
 ·
  exact ⟨0, _, _, Nat.zero_le _, rfl, rfl, rfl, hB, hoW⟩
 obtain ⟨i, A, c, hi, hm, h8, h3, hB, hoW⟩ := hI
 have hln := sp_len 32 (stk i s)
 have hcn := count_size 32 (stk i s)
 refine c_know 8 (.int .i64 i) h8 nu (c_know 3 (.slice A (sp 32 (stk i s)).length c) h3 nu (c_seq (c_region (wl (r_lss rfl rfl) (x_nil ?_)))))
 refine e_S (c_seq ?_)
 refine c_ifd rfl (fun c9 => ?_) (fun c9 => ?_)
 ·
  have hil : i < s.size := by omega
  have hsz := stk_size (h := i) (s := s) om
  refine c_skip (e_S (c_seq (c_block (c_seq (c_region ?_)))))
  refine wmI rfl (waI rfl (x_nil (e_S (c_seq (c_region ?_)))))
  refine wl (r_mv (v := .string _) rfl) (wmI rfl (wl (r_ixS (i := i) U9 rfl rfl hil) (wl (r_eql rfl rfl) (x_nil (e_S ?_)))))
  refine c_ifd rfl (fun c14 => ?_) (fun c14 => ?_)
  ·
   have hby : s[i] = 32 := byte_eq (n := 32) dE c14
   have hsp1 := sp_byte hil hby
   have hl1 : ((sp 32 (stk i s)) ++ [(⟨#[]⟩ : ByteArray)]).length = (sp 32 (stk i s)).length + 1 := by rw [List.length_append]; rfl
   refine c_region (wmS rfl ?_)
   refine wl_bs (cs := #[_]) [(0, .string _)] rfl U83 sz9_HSp ze9_HWd dE dE kR rfl (fun b16 w3 hb16 hs hr => ?_)
   have or_hoW_b16 := (fun g hg => nLL (hoW.lt g hg).2 hr)
   have lo16 := nLT (Bel.size hB) hr
   replace hB := hB.tr0 hs
   replace hoW := hoW.tr0 hs
   clear hs
   clear hr
   refine wl_app U83 in9 rfl dE hoW hb16 rfl rfl rfl oneA dE om om (Bel.size hB) (fun g17 cap17 w4 ho17 hs hg => ?_)
   replace hB := hB.tr hs (fun g hg => nLT (Nat.le_refl _) (hoW.lt g hg).1)
   have hoW : Own w4 w.heap.size 9 1 (some ⟨g17, 0, none⟩) (sp 32 (stk (i + 1) s)).length cap17 (sV (sp 32 (stk (i + 1) s))) := by
     rw [hsp1, hl1]
     have e : sV ((sp 32 (stk i s)) ++ [⟨#[]⟩]) = sV (sp 32 (stk i s)) ++ [.string ⟨#[]⟩] := by simp [sV]
     rw [e]
     exact ho17
   refine waS rfl (x_nil (e_B (e_S (c_region (wl (r_add rfl rfl rfl om) ?_)))))
   refine wmI rfl (x_nil (e_LS (s.size - (i + 1)) om agA ?_))
   first
     | exact ⟨i + 1, _, _, by omega, rfl, rfl, (by rw [hsp1]; exact sl_lenW hl1), hB, hoW⟩
     | exact ⟨i + 1, _, _, by omega, rfl, rfl, (by rw [hsp2]; exact sl_lenW List.length_set), hB, hoW⟩
  have hby : ¬ s[i] = 32 := byte_ne (n := 32) c14 dE
  obtain ⟨q, hq⟩ : ∃ q, (sp 32 (stk i s)).length = q + 1 := ⟨(sp 32 (stk i s)).length - 1, by omega⟩
  have hsp2 := sp_word hil hby hq
  have hpq := pc_size (c := 32) (s := stk i s) (j := q) om
  obtain ⟨gW, cur, rfl, hgW, hbO, hcs, hcv, hcl⟩ := hoW.open_ om
  have hq1 : cur[0 + q * 1]? = some (.string (pc 32 (stk i s) q)) := by rw [Nat.zero_add, Nat.mul_one, hcv _ om, sV_at om]
  refine c_monoTO 13 [18, 19, 20, 21, 22, 23, 24, 25, 26, 27, 28, 29, 30] (fun _ => false) (fun ix v wv => match ix with | 0 => v = .slice (some ⟨gW, 0, none⟩) (sp 32 (stk i s)).length c | 1 => v = .slice (some ⟨gW, 0, none⟩) (sp 32 (stk i s)).length c | 2 => v = .int .i64 (((sp 32 (stk i s)).length : Nat) : Int) | 3 => v = .int .i64 ((q : Nat) : Int) | 4 => v = .pointer (some ⟨gW, 0 + q * 1, none⟩) | 5 => v = .string (pc 32 (stk i s) q) | 6 => v = .string s | 7 => v = .int .i64 ((i : Nat) : Int) | 8 => v = .int .i64 ((i : Nat) : Int) | 9 => v = .int .i64 ((i + 1 : Nat) : Int) | 10 => v = .string ⟨#[s[i]'hil]⟩ | 11 => v = .string (pc 32 (stk i s) q ++ (⟨#[s[i]'hil]⟩ : ByteArray)) | 12 => v = .pointer (some ⟨gW, 0 + q * 1, none⟩) | _ => True) kR kR ?_ ?_ ?_
  ·
   intro ix v wv wv2 h hs
   match ix, h with
   | 0, h => exact h
   | 1, h => exact h
   | 2, h => exact h
   | 3, h => exact h
   | 4, h => exact h
   | 5, h => exact h
   | 6, h => exact h
   | 7, h => exact h
   | 8, h => exact h
   | 9, h => exact h
   | 10, h => exact h
   | 11, h => exact h
   | 12, h => exact h
   | _ + 13, h => exact trivial
  ·
   intro ix o hix hoq gg wx hs hd hdis
   match ix, hix, hoq with
   | 0, _, hoq =>
    obtain rfl := sI hoq
    have hs0 := hs
    clear hs
    refine os_rv (r_mv (v := .slice _ _ _) rfl) ⟨Same.refl _ _, ?_, frsh_no⟩
    exact rfl
   | 1, _, hoq =>
    obtain rfl := sI hoq
    have hs0 := hs
    clear hs
    refine os_rv (r_mv (v := .slice _ _ _) rfl) ⟨Same.refl _ _, ?_, frsh_no⟩
    exact rfl
   | 2, _, hoq =>
    obtain rfl := sI hoq
    have hs0 := hs
    clear hs
    have d1 : gg 19 = .slice (some ⟨gW, 0, none⟩) (sp 32 (stk i s)).length c := hd 1 (dep_of kR)
    have e19 := d1
    refine os_know 19 (.slice (some ⟨gW, 0, none⟩) (sp 32 (stk i s)).length c) e19 nu ?_
    refine os_rv (r_len U83 rfl) ⟨Same.refl _ _, ?_, frsh_no⟩
    exact rfl
   | 3, _, hoq =>
    obtain rfl := sI hoq
    have hs0 := hs
    clear hs
    have d2 : gg 20 = .int .i64 (((sp 32 (stk i s)).length : Nat) : Int) := hd 2 (dep_of kR)
    have e20 := d2
    refine os_know 20 (.int .i64 (((sp 32 (stk i s)).length : Nat) : Int)) e20 nu ?_
    refine os_rv (r_sub (c := ((q : Nat) : Int)) rfl rfl om om) ⟨Same.refl _ _, ?_, frsh_no⟩
    exact rfl
   | 4, _, hoq =>
    obtain rfl := sI hoq
    have hs0 := hs
    clear hs
    have d0 : gg 18 = .slice (some ⟨gW, 0, none⟩) (sp 32 (stk i s)).length c := hd 0 (dep_of kR)
    have e18 := d0
    have d3 : gg 21 = .int .i64 ((q : Nat) : Int) := hd 3 (dep_of kR)
    have e21 := d3
    refine os_know 18 (.slice (some ⟨gW, 0, none⟩) (sp 32 (stk i s)).length c) e18 nu (os_know 21 (.int .i64 ((q : Nat) : Int)) e21 nu ?_)
    refine os_rv (r_ia (i := q) U83 sz9_HSp rfl rfl om rfl) ⟨Same.refl _ _, ?_, frsh_no⟩
    exact rfl
   | 5, _, hoq =>
    obtain rfl := sI hoq
    have hs0 := hs
    replace hbO := hbO.tr0 hs
    clear hs
    have d4 : gg 22 = .pointer (some ⟨gW, 0 + q * 1, none⟩) := hd 4 (dep_of kR)
    have e22 := d4
    refine os_know 22 (.pointer (some ⟨gW, 0 + q * 1, none⟩)) e22 nu ?_
    refine os_rv (r_ld1 (v := .string _) U9 rfl rfl (hbO.cell hq1)) ⟨Same.refl _ _, ?_, frsh_no⟩
    exact rfl
   | 6, _, hoq =>
    obtain rfl := sI hoq
    have hs0 := hs
    clear hs
    refine os_rv (r_mv (v := .string _) rfl) ⟨Same.refl _ _, ?_, frsh_no⟩
    exact rfl
   | 7, _, hoq =>
    obtain rfl := sI hoq
    have hs0 := hs
    clear hs
    refine os_rv (r_mv (v := .int _ _) rfl) ⟨Same.refl _ _, ?_, frsh_no⟩
    exact rfl
   | 8, _, hoq =>
    obtain rfl := sI hoq
    have hs0 := hs
    clear hs
    refine os_rv (r_mv (v := .int _ _) rfl) ⟨Same.refl _ _, ?_, frsh_no⟩
    exact rfl
   | 9, _, hoq =>
    obtain rfl := sI hoq
    have hs0 := hs
    clear hs
    have d8 : gg 26 = .int .i64 ((i : Nat) : Int) := hd 8 (dep_of kR)
    have e26 := d8
    refine os_know 26 (.int .i64 ((i : Nat) : Int)) e26 nu ?_
    refine os_rv (r_add (c := ((i + 1 : Nat) : Int)) rfl rfl om om) ⟨Same.refl _ _, ?_, frsh_no⟩
    exact rfl
   | 10, _, hoq =>
    obtain rfl := sI hoq
    have hs0 := hs
    clear hs
    have d6 : gg 24 = .string s := hd 6 (dep_of kR)
    have e24 := d6
    have d7 : gg 25 = .int .i64 ((i : Nat) : Int) := hd 7 (dep_of kR)
    have e25 := d7
    have d9 : gg 27 = .int .i64 ((i + 1 : Nat) : Int) := hd 9 (dep_of kR)
    have e27 := d9
    refine os_know 24 (.string s) e24 nu (os_know 25 (.int .i64 ((i : Nat) : Int)) e25 nu (os_know 27 (.int .i64 ((i + 1 : Nat) : Int)) e27 nu ?_))
    refine os_rv (r_onS (i := i) U9 rfl rfl rfl hil) ⟨Same.refl _ _, ?_, frsh_no⟩
    exact rfl
   | 11, _, hoq =>
    obtain rfl := sI hoq
    have hs0 := hs
    clear hs
    have d5 : gg 23 = .string (pc 32 (stk i s) q) := hd 5 (dep_of kR)
    have e23 := d5
    have d10 : gg 28 = .string ⟨#[s[i]'hil]⟩ := hd 10 (dep_of kR)
    have e28 := d10
    refine os_know 23 (.string (pc 32 (stk i s) q)) e23 nu (os_know 28 (.string ⟨#[s[i]'hil]⟩) e28 nu ?_)
    refine os_rv (r_addS rfl rfl (show _ + 1 ≤ _ by omega)) ⟨Same.refl _ _, ?_, frsh_no⟩
    exact rfl
   | 12, _, hoq =>
    obtain rfl := sI hoq
    have hs0 := hs
    clear hs
    have d0 : gg 18 = .slice (some ⟨gW, 0, none⟩) (sp 32 (stk i s)).length c := hd 0 (dep_of kR)
    have e18 := d0
    have d3 : gg 21 = .int .i64 ((q : Nat) : Int) := hd 3 (dep_of kR)
    have e21 := d3
    refine os_know 18 (.slice (some ⟨gW, 0, none⟩) (sp 32 (stk i s)).length c) e18 nu (os_know 21 (.int .i64 ((q : Nat) : Int)) e21 nu ?_)
    refine os_rv (r_ia (i := q) U83 sz9_HSp rfl rfl om rfl) ⟨Same.refl _ _, ?_, frsh_no⟩
    exact rfl
   | _ + 13, hix, _ => exact absurd hix om
  intro gg w5 hs hR hdis
  have hs0 := hs
  replace hB := hB.tr0 hs
  replace hbO := hbO.tr0 hs
  clear hs
  have d11 : gg 29 = .string (pc 32 (stk i s) q ++ (⟨#[s[i]'hil]⟩ : ByteArray)) := hR 11 dE
  have e29 := d11
  have d12 : gg 30 = .pointer (some ⟨gW, 0 + q * 1, none⟩) := hR 12 dE
  have e30 := d12
  refine wl_know 29 (.string (pc 32 (stk i s) q ++ (⟨#[s[i]'hil]⟩ : ByteArray))) e29 nu (wl_know 30 (.pointer (some ⟨gW, 0 + q * 1, none⟩)) e30 nu ?_)
  refine wl_st1 (v := .string _) hbO rfl rfl sz9_HSp om rfl rfl (fun w6 hq hs => ?_)
  replace hB := hB.tr1 hs hgW
  clear hs
  replace hbO := hq
  have hoW : Own w6 w.heap.size 9 1 (some ⟨gW, 0, none⟩) (sp 32 (stk (i + 1) s)).length c (sV (sp 32 (stk (i + 1) s))) := by
    have h := hcl w6 _ _ hbO
    rw [hsp2, List.length_set]
    have e : sV ((sp 32 (stk i s)).set q (pc 32 (stk i s) q ++ (⟨#[s[i]'hil]⟩ : ByteArray))) = (sV (sp 32 (stk i s))).set (0 + q * 1) (.string (pc 32 (stk i s) q ++ (⟨#[s[i]'hil]⟩ : ByteArray))) := by
      rw [Nat.zero_add, Nat.mul_one]
      simp [sV, List.map_set]
    rw [e]
    exact h
  refine x_nil (e_B (e_S (c_region (wl (r_add rfl rfl rfl om) (wmI rfl ?_)))))
  refine x_nil (e_LS (s.size - (i + 1)) om agA ?_)
  first
    | exact ⟨i + 1, _, _, by omega, rfl, rfl, (by rw [hsp1]; exact sl_lenW hl1), hB, hoW⟩
    | exact ⟨i + 1, _, _, by omega, rfl, rfl, (by rw [hsp2]; exact sl_lenW List.length_set), hB, hoW⟩
 have hie : i = s.size := by omega
 rw [hie, stk_all] at hoW hln
 refine c_exit (e_Sx (e_LSx (e_Bx (e_S (c_seq ?_)))))
 refine c_region (wmS rfl (waS rfl (x_nil (e_S (c_ret ?_)))))
 refine fin1 (.inl rfl) rfl rfl ?_
 obtain ⟨gW, cur, eA, hgW, hbO, hcs, hcv, _⟩ := hoW.open_ om
 subst hie eA
 exact ⟨⟨gW, c, cur, by rw [stk_all]; rfl, by have h := hoW.cap_le; exact h, hgW, hbO, fun j hj => by rw [Nat.zero_add, Nat.mul_one, hcv j om, sV_at hj]⟩, hB⟩
end Go.Proofs.YtegngekpmpdngaaDoor
namespace Go.Proofs.YtegngekpmpdngaaDoor
open Go.RowKit
theorem fn76 : callable Tryd.prog 76 = true := by kernel_rfl
theorem fn77 : callable Tryd.prog 77 = true := by kernel_rfl
theorem sz77_HFnd : (Tryd.prog.info? 77).map (·.size) = some 2 := by kernel_rfl
theorem sz9_HFnd : (Tryd.prog.info? 9).map (·.size) = some 1 := by kernel_rfl
theorem nm_any (b1 : Nat) (nm s : ByteArray) (pv : Value) (w : World) (hb1 : Blk w b1 9 #[.string s]) : Calls Tryd.prog 77 #[.agg #[.string nm, pv], .pointer (some ⟨b1, 0, none⟩)] w fun e w' => e = .returned (.bool (decide (nm = s))) ∧ Bel w w' := by
 refine enter Tryd.func77 Tryd.ntmps77 rfl (Nat.le_of_ble_eq_true rfl) ?_
 have hB : Bel w w := Below.refl _ _
 refine c_seq (c_region ?_)
 refine wl_bx (v := .agg #[_, _]) (cs := #[_, _]) rfl rfl (fun b2 w1 hb2 hs hr => ?_)
 have or_b1_b2 : b1 < b2 := nLL hb1.lt hr
 have lo2 := nLT (Bel.size hB) hr
 replace hB := hB.tr0 hs
 replace hb1 := hb1.tr0 hs
 clear hs
 clear hr
 refine waB rfl (x_nil (e_S (c_seq (c_region (wl (r_fa U77 sz9_HFnd dE rfl rfl rfl) ?_)))))
 refine wl (r_ld1 (v := .string _) U9 rfl rfl (hb2.cell rfl)) (wl (r_ld1 (v := .string _) U9 rfl rfl (hb1.cell rfl)) (wl (r_eqlS rfl rfl) (waB rfl (x_nil (e_S ?_)))))
 refine c_ret (fin1 (.inl rfl) rfl rfl ?_)
 exact ⟨rfl, hB⟩
set_option maxHeartbeats 1000000 in
theorem ixt_any (A : Option Addr) (c b10 : Nat) (l : List Ty) (s : ByteArray) (w : World) (hT : TypesIn w A l) (hb : Blk w b10 9 #[.string s]) : Calls Tryd.prog 76 #[.slice A l.length c, .func (.func 77) #[] #[.pointer (some ⟨b10, 0, none⟩)]] w fun e w' => e = .returned (.int .i64 (fnd l s)) ∧ Bel w w' := by
 have hmx := hT.1
 unfold maxI at hmx
 refine enter Tryd.func76 Tryd.ntmps76 rfl (Nat.le_of_ble_eq_true rfl) ?_
 have hB : Bel w w := Below.refl _ _
 refine c_seq (c_region (waI rfl (x_nil (e_S (c_seq ?_)))))
 refine c_seq (c_region (wmS rfl (wl (r_len U22 rfl) (wmI rfl (x_nil ?_)))))
 refine e_S (c_block ?_)
 refine c_loopS [4, 5, 8, 9, 10, 11, 12, 13, 14, 15, 16, 17, 18] (fun m g w' => ∃ j : Nat, j ≤ l.length ∧ m = l.length - j ∧ g 8 = .int .i64 j ∧ Bel w w' ∧ (∀ j' (hj : j' < l.length), j' < j → ¬ (l[j']).name = s)) (l.length) ?_ (fun m g2 w1 hI => ?_)
 ·
  exact ⟨0, Nat.zero_le _, rfl, rfl, hB, fun j _ h => by omega⟩
 obtain ⟨j, hj, hm, h8, hB, hall⟩ := hI
 refine c_know 8 (.int .i64 j) h8 nu (c_seq (c_region (wl (r_lss rfl rfl) (x_nil (e_S ?_)))))
 refine c_seq ?_
 refine c_ifd rfl (fun c9 => ?_) (fun c9 => ?_)
 ·
  have hjl : j < l.length := by omega
  obtain ⟨lb, lof, A', c', rfl, hlb, hlr, _⟩ := hT.at_ (Below.refl _ _ : Bel w w) hjl
  refine c_skip (e_S (c_seq (c_block (c_seq (c_region ?_)))))
  refine wmI rfl (waI rfl (x_nil (e_S (c_seq (c_region ?_)))))
  refine wl (r_mv (v := .func _ _ _) rfl) (wmS rfl (wmI rfl (wl (r_ia (i := j) U22 sz77_HFnd rfl rfl om rfl) (wl (r_ldS U77 rfl rfl (hB.range hlb hlr) sz77_HFnd) ?_))))
  refine wl_clv rfl fn77 (nm_any b10 _ s _ _ (hb.bel hB)) rfl rfl (fun e' w2 hr => ?_)
  obtain ⟨rfl, hs⟩ := hr
  replace hs := Same.of_bel hs
  replace hB := hB.tr0 hs
  clear hs
  refine ⟨_, rfl, ?_⟩
  refine x_nil (e_S ?_)
  refine c_ifd rfl (fun c16 => ?_) (fun c16 => ?_)
  ·
   refine c_seq (c_region (wmI rfl (waI rfl (x_nil (e_S ?_)))))
   refine c_ret (e_Br (e_Sr (e_LSr (e_Br (e_Sr ?_)))))
   refine fin1 (.inl rfl) rfl rfl ?_
   exact ⟨by rw [fnd_at hjl c16 hall]; rfl, hB⟩
  refine c_skip (e_B (e_S (c_region (wl (r_add rfl rfl rfl om) (wmI rfl ?_)))))
  refine x_nil (e_LS (l.length - (j + 1)) om agA ?_)
  exact ⟨j + 1, by omega, rfl, rfl, hB, fun j' hj' h => by
    by_cases e : j' = j
    · subst e; exact c16
    · exact hall j' hj' om⟩
 have hje : j = l.length := by omega
 subst hje
 refine c_exit (e_Sx (e_LSx (e_Bx (e_S (c_seq ?_)))))
 refine c_region (waI rfl (x_nil (e_S (c_ret (fin1 (.inl rfl) rfl rfl ?_)))))
 exact ⟨by rw [fnd_no (fun j hj => hall j hj hj)]; rfl, hB⟩
theorem fnf_any (b4 : Nat) (AT : Option Addr) (cT : Nat) (v2 : Value) (l : List Ty) (s : ByteArray) (w : World) (hb4 : Blk w b4 25 #[.slice AT l.length cT, v2]) (hT : TypesIn w AT l) : Calls Tryd.prog 75 #[.string s, .pointer (some ⟨b4, 0, none⟩)] w fun e w' => e = .returned (.int .i64 (fnd l s)) ∧ Bel w w' := by
 refine enter Tryd.func75 Tryd.ntmps75 rfl (Nat.le_of_ble_eq_true rfl) ?_
 have hB : Bel w w := Below.refl _ _
 refine c_seq (c_region ?_)
 refine wl_bx (v := .string _) rfl rfl (fun b2 w1 hb2 hs hr => ?_)
 have or_b4_b2 : b4 < b2 := nLL hb4.lt hr
 have lo2 := nLT (Bel.size hB) hr
 replace hB := hB.tr0 hs
 replace hb4 := hb4.tr0 hs
 clear hs
 clear hr
 refine waI rfl (x_nil (e_S (c_seq (c_region (wl (r_fa U25 sz22_GLoose dE rfl rfl rfl) ?_)))))
 refine wl (r_ld1 (v := .slice _ _ _) U22 rfl rfl (hb4.cell rfl)) (wl (r_mf rfl) ?_)
 refine wl_cl fn76 (ixt_any AT cT b2 l s _ (hT.mono hB) hb2) rfl (fun e' w2 hr => ?_)
 obtain ⟨rfl, hs⟩ := hr
 replace hs := Same.of_bel hs
 replace hB := hB.tr0 hs
 replace hb4 := hb4.tr0 hs
 replace hb2 := hb2.tr0 hs
 clear hs
 refine ⟨_, rfl, ?_⟩
 refine waI rfl (x_nil (e_S (c_ret (fin1 (.inl rfl) rfl rfl ?_))))
 exact ⟨rfl, hB⟩
end Go.Proofs.YtegngekpmpdngaaDoor
