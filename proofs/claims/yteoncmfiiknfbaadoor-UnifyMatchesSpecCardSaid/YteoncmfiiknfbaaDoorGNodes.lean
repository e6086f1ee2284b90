/- The canonical form of a valid graph is valid, and its own canonical form. No program in sight. What these functions of the program compute, at every world: slices.Equal[[]glosswright/api.Link,glosswright/api.Link], glosswright/glosswrightequal.Nodes. -/
import Derived.Test.YteoncmfiiknfbaaDoorDfs
import Derived.Test.YteoncmfiiknfbaaDoorGFrom
namespace Go.Proofs.YteoncmfiiknfbaaDoor
open Go.RowKit
structure GV (l : List Ty) (fs : List Ft) (g : List Nd) : Prop where
  h : (hierFault l fs).1 = 0
  s : Sound l
  few : fs.length ≤ 40
  f : FOk l.length fs
  gok : GOk l.length fs.length g
  t : tyF l fs g = (0, 0)
  u : ¬ 0 ≤ unrI g
  lo : (looseF l.length fs.length g).1 = 0
theorem gv_of {l : List Ty} {fs : List Ft} {g : List Nd} (h : (graphF l fs g).1 = 0) : GV l fs g := by
  by_cases h0 : (hierFault l fs).1 = 0
  · rw [gf_in h0] at h
    by_cases h1 : (looseF l.length fs.length g).1 = 0
    · by_cases h2 : (tyF l fs g).1 = 0
      · have h2' : tyF l fs g = (0, 0) := firstF_zz h2
        by_cases h3 : 0 ≤ unrI g
        · rw [wi_unr h1 h2' h3] at h; cases h
        · refine ⟨h0, sound_of h0, ?_, fok_of h0, gok_of h1, h2', h3, h1⟩
          unfold hierFault at h0
          by_cases h4 : 40 < fs.length
          · rw [if_pos h4] at h0; cases h0
          · omega
      · unfold withinF at h
        rw [if_neg (fun e => e h1), if_pos h2] at h
        exact absurd h h2
    · rw [wi_loose h1] at h; exact absurd h h1
  · rw [gf_hier h0] at h; exact absurd h h0
theorem DL.sub {g : List Nd} {is a b : List Nat} (h : DL g is a b) : ∀ x ∈ a, x ∈ b := by
  induction h with
  | nil => exact fun x h => h
  | old h t ih => exact ih
  | new h s t ihs iht => exact fun x hx => iht x (ihs x (List.mem_append_left _ hx))
theorem DL.has {g : List Nd} {is a b : List Nat} (h : DL g is a b) : ∀ i ∈ is, i ∈ b := by
  induction h with
  | nil => exact fun i h => by cases h
  | old h t ih =>
    intro i hi
    rcases List.mem_cons.1 hi with rfl | hi
    · exact t.sub _ h
    · exact ih i hi
  | new h s t ihs iht =>
    intro i hi
    rcases List.mem_cons.1 hi with rfl | hi
    · exact t.sub _ (s.sub _ (by simp))
    · exact iht i hi
theorem DL.clo {g : List Nd} {is a b : List Nat} (h : DL g is a b) : ∀ x ∈ b, ¬ x ∈ a → ∀ t ∈ succN g x, t ∈ b := by
  induction h with
  | nil => exact fun x h1 h2 => absurd h1 h2
  | old h t ih => exact ih
  | new h s t ihs iht =>
    rename_i i is o o1 o'
    intro x hx hn y hy
    by_cases h1 : x ∈ o1
    · by_cases h2 : x = i
      · subst h2; exact t.sub _ (s.has y hy)
      · exact t.sub _ (ihs x h1 (fun h3 => by
          rcases List.mem_append.1 h3 with h3 | h3
          · exact hn h3
          · exact h2 (List.mem_singleton.1 h3)) y hy)
    · exact iht x hx h1 y hy
theorem DL.nodup {g : List Nd} {is a b : List Nat} (h : DL g is a b) : a.Nodup → b.Nodup := by
  induction h with
  | nil => exact fun h => h
  | old h t ih => exact ih
  | new h s t ihs iht =>
    intro hd
    refine iht (ihs (List.nodup_append.2 ⟨hd, by simp, fun x hx y hy => ?_⟩))
    rw [List.mem_singleton.1 hy]
    exact fun e => h (e ▸ hx)
theorem DL.rch {g : List Nd} (hr : ∀ i, i < g.length → ∀ t ∈ succN g i, t < g.length) {is a b : List Nat} (h : DL g is a b) : (∀ i ∈ is, i < g.length) → (∀ i ∈ is, Rch g i) → (∀ x ∈ a, Rch g x) → ∀ x ∈ b, Rch g x := by
  induction h with
  | nil => exact fun _ _ h => h
  | old h t ih => exact fun hi hR ha => ih (fun i h => hi i (List.mem_cons_of_mem _ h)) (fun i h => hR i (List.mem_cons_of_mem _ h)) ha
  | new h s t ihs iht =>
    rename_i i is o o1 o'
    intro hi hR ha
    have hlt := hi i (List.mem_cons_self ..)
    have hRi := hR i (List.mem_cons_self ..)
    refine iht (fun i h => hi i (List.mem_cons_of_mem _ h)) (fun i h => hR i (List.mem_cons_of_mem _ h)) (ihs (hr i hlt) (fun t ht => ?_) (fun x hx => ?_))
    · simp only [succN, nd_eq hlt, List.mem_map] at ht
      obtain ⟨y, hy, rfl⟩ := ht
      exact .step hRi hlt hy
    · rcases List.mem_append.1 hx with hx | hx
      · exact ha x hx
      · rw [List.mem_singleton.1 hx]; exact hRi
/-- the facts of a traversal from node 0 -/
structure Tr (g : List Nd) (o : List Nat) : Prop where
  dl : DL g [0] [] o
  ok : OOk g.length o
  nd : o.Nodup
  pos : 0 < o.length
  zero : o.idxOf 0 = 0
  clo : ∀ x ∈ o, ∀ t ∈ succN g x, t ∈ o
theorem idx_get {o : List Nat} (hn : o.Nodup) {k : Nat} (hk : k < o.length) : o.idxOf o[k] = k := by
  have h1 : o.idxOf o[k] < o.length := List.idxOf_lt_length_of_mem (List.getElem_mem hk)
  have h2 : o[o.idxOf o[k]] = o[k] := List.getElem_idxOf h1
  exact (List.getElem_inj hn).1 h2
theorem get_idx {o : List Nat} {x : Nat} (hx : x ∈ o) : ∃ h : o.idxOf x < o.length, o[o.idxOf x] = x := ⟨List.idxOf_lt_length_of_mem hx, List.getElem_idxOf _⟩
theorem numO_in {o : List Nat} {x : Nat} (hx : x ∈ o) : numO o x = (o.idxOf x : Nat) := by simp [numO, hx]
theorem canG_len (g : List Nd) (o : List Nat) : (canG g o).length = o.length := by simp [canG]
theorem canG_nd {g : List Nd} {o : List Nat} {x : Nat} (hx : x ∈ o) : nd (canG g o) (o.idxOf x) = canN g o x := by
  obtain ⟨h1, h2⟩ := get_idx hx
  rw [nd_eq (by rw [canG_len]; exact h1)]
  simp [canG, h2]
theorem canG_succ {g : List Nd} {o : List Nat} (h : ∀ x ∈ o, ∀ t ∈ succN g x, t ∈ o) {x : Nat} (hx : x ∈ o) : succN (canG g o) (o.idxOf x) = (succN g x).map (o.idxOf ·) := by
  unfold succN
  rw [canG_nd hx]
  simp only [canN, List.map_map]
  refine List.map_congr_left (fun y hy => ?_)
  have : y.2.toNat ∈ o := h x hx _ (by simp only [succN, List.mem_map]; exact ⟨y, hy, rfl⟩)
  simp [canL, numO_in this]
theorem DL.map {g : List Nd} {o : List Nat} (hc : ∀ x ∈ o, ∀ t ∈ succN g x, t ∈ o) {is a b : List Nat} (h : DL g is a b) : (∀ x ∈ b, x ∈ o) → DL (canG g o) (is.map (o.idxOf ·)) (a.map (o.idxOf ·)) (b.map (o.idxOf ·)) := by
  have inj : ∀ x y, x ∈ o → y ∈ o → o.idxOf x = o.idxOf y → x = y := fun x y hx hy e => by
    obtain ⟨h1, h2⟩ := get_idx hx
    obtain ⟨h3, h4⟩ := get_idx hy
    rw [← h2, ← h4]
    simp only [e]
  induction h with
  | nil => exact fun _ => .nil
  | old h t ih =>
    intro hb
    exact .old (List.mem_map_of_mem h) (ih hb)
  | new h s t ihs iht =>
    rename_i i is o0 o1 o'
    intro hb
    have hio := hb i (t.sub _ (s.sub _ (by simp)))
    refine .new (fun hm => ?_) ?_ (iht hb)
    · obtain ⟨y, hy, e⟩ := List.mem_map.1 hm
      have hyo := hb y (t.sub _ (s.sub _ (List.mem_append_left _ hy)))
      exact h (inj y i hyo hio e ▸ hy)
    · have := ihs (fun x hx => hb x (t.sub _ hx))
      rw [List.map_append] at this
      rw [canG_succ hc hio]
      exact this
theorem map_idx {o : List Nat} (hn : o.Nodup) : o.map (o.idxOf ·) = List.range o.length := by
  apply List.ext_getElem
  · simp
  · intro k h1 h2
    simp only [List.getElem_map, List.getElem_range]
    exact idx_get hn (by simpa using h1)
theorem Tr.can {g : List Nd} {o : List Nat} (h : Tr g o) : DL (canG g o) [0] [] (List.range o.length) := by
  have := h.dl.map h.clo (fun x hx => hx)
  rw [map_idx h.nd] at this
  simpa [h.zero] using this
end Go.Proofs.YteoncmfiiknfbaaDoor
namespace Go.Proofs.YteoncmfiiknfbaaDoor
open Go.RowKit

theorem FrSame.then {B B0 : Nat} {w0 w1 w2 : World} (h : FrSame B w0 w1) (k : FrSame B0 w1 w2) (hb : B0 ≤ B) : FrSame B w0 w2 :=
  ⟨Nat.le_trans h.size k.size, fun i hi hl => (k.blk i (Nat.le_trans hb hi) (Nat.lt_of_lt_of_le hl h.size)).trans (h.blk i hi hl)⟩

theorem fd74 : (Tryd.prog.fieldsOf 74).toList.map (fun f => (f.name == "_", f.type, f.offset)) = [(false, 3, 0), (false, 3, 1)] := by kernel_rfl
theorem fn31 : callable Tryd.prog 31 = true := by kernel_rfl
theorem ft74 : Tryd.prog.underlying 74 = some (.struct (Tryd.prog.fieldsOf 74)) := by kernel_rfl
theorem leq_any (A B : Option Addr) (c d : Nat) (xs ys : List (Int × Int)) (w : World) (hX : LinksIn w A xs) (hY : LinksIn w B ys) : Calls Tryd.prog 31 #[.slice A xs.length c, .slice B ys.length d] w fun e w' => e = .returned (.bool (decide (xs = ys))) ∧ Bel w w' := by
 have hmx := hX.1
 unfold maxI at hmx
 refine enter Tryd.func31 Tryd.ntmps31 rfl (Nat.le_of_ble_eq_true rfl) ?_
 have hB : Bel w w := Below.refl _ _
 refine c_seq (c_region (wl (r_as (v := .bool _) rfl) (x_nil (e_S (c_seq ?_)))))
 refine c_seq (c_region (wl (r_mv (v := .slice _ _ _) rfl) (wl (r_len Tryd.underlying53 rfl) (wl (r_mv (v := .slice _ _ _) rfl) (wl (r_len Tryd.underlying53 rfl) ?_)))))
 refine wl (r_neq rfl rfl) (x_nil (e_S ?_))
 refine c_ifd rfl (fun c10 => ?_) (fun c10 => ?_)
 ·
  refine c_seq (c_region (wl (r_as (v := .bool _) rfl) (x_nil (e_S (c_ret ?_)))))
  refine e_Sr (fin1 (.inl rfl) rfl rfl ?_)
  exact ⟨ret_bool (decide_eq_false (fun h => c10 (by rw [h]))), hB⟩
 refine c_skip (e_S (c_seq (c_seq (c_region (wl (r_mv (v := .slice _ _ _) rfl) ?_)))))
 refine wl (r_len Tryd.underlying53 rfl) (wl (r_mv (v := .int _ _) rfl) (x_nil (e_S (c_block ?_))))
 refine c_loopS [4, 5, 13, 14, 15, 16, 17, 18, 19, 20, 21, 22, 23, 24, 25] (fun m g w' => ∃ k : Nat, k ≤ xs.length ∧ m = xs.length - k ∧ g 13 = .int .i64 k ∧ Bel w w' ∧ xs.take k = ys.take k) (xs.length) ?_ (fun m g4 w1 hI => ?_)
 ·
  exact ⟨0, Nat.zero_le _, rfl, rfl, hB, rfl⟩
 obtain ⟨k, hk, hm, h13, hB, hE⟩ := hI
 refine c_know 13 (.int .i64 k) h13 (by simp [undef]) (c_seq (c_region (wl (r_lss rfl rfl) (x_nil (e_S ?_)))))
 refine c_seq ?_
 refine c_ifd rfl (fun c14 => ?_) (fun c14 => ?_)
 ·
  have hlt : k < xs.length := by omega
  have hly : k < ys.length := by omega
  obtain ⟨pb, po, rfl, hpb, hpc⟩ := hX.at_ (Below.refl _ _ : Bel w w) hlt
  obtain ⟨qb, qo, rfl, hqb, hqc⟩ := hY.at_ (Below.refl _ _ : Bel w w) hly
  refine c_skip (e_S (c_seq (c_block (c_seq (c_region ?_)))))
  refine wl (r_mv (v := .int _ _) rfl) (wl (r_as (v := .int _ _) rfl) (x_nil (e_S (c_seq ?_))))
  refine c_still (by kernel_rfl) (by kernel_rfl) (fun w2 hs => ?_)
  replace hB := hB.tr0 hs
  clear hs
  refine ws (r_mv (v := .slice _ _ _) rfl) (ws (r_mv (v := .int _ _) rfl) (ws (r_ia (i := k) Tryd.underlying53 sz74 rfl rfl (by omega) rfl) (ws (r_ldS Tryd.underlying74 rfl rfl (hB.range hpb hpc) sz74) (ws (r_mv (v := .slice _ _ _) rfl) (ws (r_mv (v := .int _ _) rfl) ?_)))))
  refine ws (r_ia (i := k) Tryd.underlying53 sz74 rfl rfl (by omega) rfl) (ws (r_ldS Tryd.underlying74 rfl rfl (hB.range hqb hqc) sz74) (ws (r_neF Tryd.eqGuardType74 ft74 Tryd.stoodInHeld74 fd74 Tryd.underlying3 rfl rfl) (s_nil (e_S ?_))))
  refine c_ifd rfl (fun c24 => ?_) (fun c24 => ?_)
  ·
   refine c_seq (c_region (wl (r_as (v := .bool _) rfl) (x_nil (e_S (c_ret ?_)))))
   refine e_Br (e_Sr (e_LSr (e_Br (e_Sr (fin1 (.inl rfl) rfl rfl ?_)))))
   exact ⟨ret_bool (decide_eq_false (fun h => c24 (by subst h; exact ⟨rfl, rfl⟩))), hB⟩
  refine c_skip (e_B (e_S (c_region (wl (r_add rfl rfl rfl (by omega)) (wl (r_mv (v := .int _ _) rfl) ?_)))))
  refine x_nil (e_LS (xs.length - (k + 1)) (by omega) agA ?_)
  have hx : xs[k]'hlt = ys[k]'hly := by
    have h := Decidable.not_not.1 c24
    exact Prod.ext h.1 h.2
  exact ⟨k + 1, by omega, rfl, rfl, hB, by rw [List.take_succ_eq_append_getElem hlt, List.take_succ_eq_append_getElem hly, hE, hx]⟩
 have hek : k = xs.length := by omega
 have hfin : xs = ys := by
   rw [hek] at hE
   have e2 : ys.take xs.length = ys := List.take_of_length_le (by omega)
   rw [List.take_length, e2] at hE; exact hE
 refine c_exit (e_Sx (e_LSx (e_Bx (e_S (c_seq ?_)))))
 refine c_region (wl (r_as (v := .bool _) rfl) (x_nil (e_S (c_ret (fin1 (.inl rfl) rfl rfl ?_)))))
 exact ⟨ret_bool (decide_eq_true hfin), hB⟩

set_option maxHeartbeats 1000000 in
theorem nodes_any (A B : Option Addr) (c d : Nat) (ga gb : List Nd) (w : World) (hA : NodesIn w A ga) (hBn : NodesIn w B gb) : Calls Tryd.prog 13 #[.agg #[.slice A ga.length c], .agg #[.slice B gb.length d]] w fun e w' => e = .returned (.bool (decide (ga = gb))) ∧ Bel w w' := by
 have hmx := hA.1
 unfold maxI at hmx
 refine enter Tryd.func13 Tryd.ntmps13 rfl (Nat.le_of_ble_eq_true rfl) ?_
 have hB : Bel w w := Below.refl _ _
 refine c_seq (c_region ?_)
 refine wl_bx (v := .agg #[_]) (cs := #[_]) rfl rfl (fun b2 w1 hb2 hs hr => ?_)
 have lo2 := Nat.le_trans (Bel.size hB) hr
 replace hB := hB.tr0 hs
 clear hs
 clear hr
 refine wl_bx (v := .agg #[_]) (cs := #[_]) rfl rfl (fun b3 w2 hb3 hs hr => ?_)
 have or_b2_b3 : b2 < b3 := Nat.lt_of_lt_of_le hb2.lt hr
 have lo3 := Nat.le_trans (Bel.size hB) hr
 replace hB := hB.tr0 hs
 replace hb2 := hb2.tr0 hs
 clear hs
 clear hr
 refine wl (r_as (v := .bool _) rfl) (x_nil (e_S (c_seq (c_seq (c_region ?_)))))
 refine wl (r_fa Tryd.underlying28 sz26 (by decide) rfl rfl rfl) (wl (r_ld1 (v := .slice _ _ _) Tryd.underlying26 rfl rfl (hb2.cell rfl)) (wl (r_len Tryd.underlying26 rfl) (wl (r_fa Tryd.underlying28 sz26 (by decide) rfl rfl rfl) (wl (r_ld1 (v := .slice _ _ _) Tryd.underlying26 rfl rfl (hb3.cell rfl)) (wl (r_len Tryd.underlying26 rfl) ?_)))))
 refine wl (r_neq rfl rfl) (x_nil (e_S ?_))
 refine c_ifd rfl (fun c12 => ?_) (fun c12 => ?_)
 ·
  refine c_seq (c_region (wl (r_as (v := .bool _) rfl) (x_nil (e_S (c_ret ?_)))))
  refine e_Sr (fin1 (.inl rfl) rfl rfl ?_)
  exact ⟨ret_bool (decide_eq_false (fun h => c12 (by rw [h]))), hB⟩
 refine c_skip (e_S (c_seq (c_seq (c_region (wl (r_fa Tryd.underlying28 sz26 (by decide) rfl rfl rfl) ?_)))))
 refine wl (r_ld1 (v := .slice _ _ _) Tryd.underlying26 rfl rfl (hb2.cell rfl)) (wl (r_len Tryd.underlying26 rfl) (wl (r_mv (v := .int _ _) rfl) (x_nil (e_S (c_block ?_)))))
 refine c_loopS [4, 5, 16, 17, 18, 19, 20, 21, 22, 23, 24, 25, 26, 27, 28, 29, 30, 31, 32, 33, 34, 35, 36, 37, 38, 39, 40, 41, 42, 43, 44, 45, 46, 47, 48] (fun m g w' => ∃ k : Nat, k ≤ ga.length ∧ m = ga.length - k ∧ g 16 = .int .i64 k ∧ Bel w w' ∧ Blk w' b2 28 #[.slice A ga.length c] ∧ Blk w' b3 28 #[.slice B gb.length d] ∧ ga.take k = gb.take k) (ga.length) ?_ (fun m g4 w3 hI => ?_)
 ·
  exact ⟨0, Nat.zero_le _, rfl, rfl, hB, hb2, hb3, rfl⟩
 obtain ⟨k, hk, hm, h16, hB, hb2, hb3, hE⟩ := hI
 refine c_know 16 (.int .i64 k) h16 (by simp [undef]) (c_seq (c_region (wl (r_lss rfl rfl) (x_nil (e_S ?_)))))
 refine c_seq ?_
 refine c_ifd rfl (fun c17 => ?_) (fun c17 => ?_)
 ·
  have hlt : k < ga.length := by omega
  have hly : k < gb.length := by omega
  obtain ⟨ab, ao, LA, la, rfl, hab, har, haln⟩ := hA.at_ (Below.refl _ _ : Bel w w) hlt
  obtain ⟨bb, bo, LB, lb, rfl, hbb, hbr, hbln⟩ := hBn.at_ (Below.refl _ _ : Bel w w) hly
  refine c_skip (e_S (c_seq (c_block (c_seq (c_region ?_)))))
  refine wl (r_mv (v := .int _ _) rfl) (wl (r_as (v := .int _ _) rfl) (x_nil (e_S (c_seq ?_))))
  refine c_monoGO 29 [19, 20, 21, 22, 23, 24, 25, 26, 27, 28, 29, 30, 31, 32, 33, 34, 35, 36, 37, 38, 39, 40, 41, 42, 43, 44, 45, 46, 47] (fun _ => false) (fun ix v wv => match ix with | 0 => v = .pointer (some ⟨b2, 0, none⟩) | 1 => v = .slice (some ⟨ab, ao, none⟩) ga.length c | 2 => v = .int .i64 k | 3 => v = .pointer (some ⟨ab, ao + k * 2, none⟩) | 4 => v = .pointer (some ⟨ab, ao + k * 2 + 0, none⟩) | 5 => v = .int .i64 (ga[k]'hlt).ty | 6 => v = .pointer (some ⟨b3, 0, none⟩) | 7 => v = .slice (some ⟨bb, bo, none⟩) gb.length d | 8 => v = .int .i64 k | 9 => v = .pointer (some ⟨bb, bo + k * 2, none⟩) | 10 => v = .pointer (some ⟨bb, bo + k * 2 + 0, none⟩) | 11 => v = .int .i64 (gb[k]'hly).ty | 12 => v = .bool (decide (¬ (ga[k]'hlt).ty = (gb[k]'hly).ty)) | 13 => v = .bool (decide (¬ (ga[k]'hlt).ty = (gb[k]'hly).ty)) | 14 => (((decide (¬ (ga[k]'hlt).ty = (gb[k]'hly).ty))) = false → v = .pointer (some ⟨b2, 0, none⟩)) ∧ (((decide (¬ (ga[k]'hlt).ty = (gb[k]'hly).ty))) = true → v = undef) | 15 => (((decide (¬ (ga[k]'hlt).ty = (gb[k]'hly).ty))) = false → v = .slice (some ⟨ab, ao, none⟩) ga.length c) ∧ (((decide (¬ (ga[k]'hlt).ty = (gb[k]'hly).ty))) = true → v = undef) | 16 => (((decide (¬ (ga[k]'hlt).ty = (gb[k]'hly).ty))) = false → v = .int .i64 k) ∧ (((decide (¬ (ga[k]'hlt).ty = (gb[k]'hly).ty))) = true → v = undef) | 17 => (((decide (¬ (ga[k]'hlt).ty = (gb[k]'hly).ty))) = false → v = .pointer (some ⟨ab, ao + k * 2, none⟩)) ∧ (((decide (¬ (ga[k]'hlt).ty = (gb[k]'hly).ty))) = true → v = undef) | 18 => (((decide (¬ (ga[k]'hlt).ty = (gb[k]'hly).ty))) = false → v = .pointer (some ⟨ab, ao + k * 2 + 1, none⟩)) ∧ (((decide (¬ (ga[k]'hlt).ty = (gb[k]'hly).ty))) = true → v = undef) | 19 => (((decide (¬ (ga[k]'hlt).ty = (gb[k]'hly).ty))) = false → v = .slice LA (ga[k]'hlt).ln.length la) ∧ (((decide (¬ (ga[k]'hlt).ty = (gb[k]'hly).ty))) = true → v = undef) | 20 => (((decide (¬ (ga[k]'hlt).ty = (gb[k]'hly).ty))) = false → v = .pointer (some ⟨b3, 0, none⟩)) ∧ (((decide (¬ (ga[k]'hlt).ty = (gb[k]'hly).ty))) = true → v = undef) | 21 => (((decide (¬ (ga[k]'hlt).ty = (gb[k]'hly).ty))) = false → v = .slice (some ⟨bb, bo, none⟩) gb.length d) ∧ (((decide (¬ (ga[k]'hlt).ty = (gb[k]'hly).ty))) = true → v = undef) | 22 => (((decide (¬ (ga[k]'hlt).ty = (gb[k]'hly).ty))) = false → v = .int .i64 k) ∧ (((decide (¬ (ga[k]'hlt).ty = (gb[k]'hly).ty))) = true → v = undef) | 23 => (((decide (¬ (ga[k]'hlt).ty = (gb[k]'hly).ty))) = false → v = .pointer (some ⟨bb, bo + k * 2, none⟩)) ∧ (((decide (¬ (ga[k]'hlt).ty = (gb[k]'hly).ty))) = true → v = undef) | 24 => (((decide (¬ (ga[k]'hlt).ty = (gb[k]'hly).ty))) = false → v = .pointer (some ⟨bb, bo + k * 2 + 1, none⟩)) ∧ (((decide (¬ (ga[k]'hlt).ty = (gb[k]'hly).ty))) = true → v = undef) | 25 => (((decide (¬ (ga[k]'hlt).ty = (gb[k]'hly).ty))) = false → v = .slice LB (gb[k]'hly).ln.length lb) ∧ (((decide (¬ (ga[k]'hlt).ty = (gb[k]'hly).ty))) = true → v = undef) | 26 => (((decide (¬ (ga[k]'hlt).ty = (gb[k]'hly).ty))) = false → v = .bool (decide ((ga[k]'hlt).ln = (gb[k]'hly).ln))) ∧ (((decide (¬ (ga[k]'hlt).ty = (gb[k]'hly).ty))) = true → v = undef) | 27 => (((decide (¬ (ga[k]'hlt).ty = (gb[k]'hly).ty))) = false → v = .bool (!decide ((ga[k]'hlt).ln = (gb[k]'hly).ln))) ∧ (((decide (¬ (ga[k]'hlt).ty = (gb[k]'hly).ty))) = true → v = undef) | 28 => v = .bool (decide (¬ (ga[k]'hlt).ty = (gb[k]'hly).ty) || !decide ((ga[k]'hlt).ln = (gb[k]'hly).ln)) | _ => True) (by kernel_rfl) (by kernel_rfl) ?_ ?_ ?_
  ·
   intro ix v wv wv2 h hs
   match ix, h with
   | 0, h => exact h
   | 1, h => exact h
   | 2, h => exact h
   | 3, h => exact h
   | 4, h => exact h
   | 5, h => exact h
   | 6, h => exact h
   | 7, h => exact h
   | 8, h => exact h
   | 9, h => exact h
   | 10, h => exact h
   | 11, h => exact h
   | 12, h => exact h
   | 13, h => exact h
   | 14, h => exact h
   | 15, h => exact h
   | 16, h => exact h
   | 17, h => exact h
   | 18, h => exact h
   | 19, h => exact h
   | 20, h => exact h
   | 21, h => exact h
   | 22, h => exact h
   | 23, h => exact h
   | 24, h => exact h
   | 25, h => exact h
   | 26, h => exact h
   | 27, h => exact h
   | 28, h => exact h
   | _ + 29, h => exact trivial
  ·
   intro ix o hix hoq gg wx hs hd hdis
   match ix, hix, hoq with
   | 0, _, hoq =>
    obtain rfl : _ = o := Option.some.inj hoq
    have hs0 := hs
    replace hb2 := hb2.tr0 hs
    clear hs
    refine ⟨fun _ => ?_, fun hw => Bool.noConfusion (show true = false from hw)⟩
    refine os_rv (r_fa Tryd.underlying28 sz26 (by decide) rfl rfl rfl) ⟨Same.refl _ _, ?_, frsh_no⟩
    exact rfl
   | 1, _, hoq =>
    obtain rfl : _ = o := Option.some.inj hoq
    have hs0 := hs
    replace hb2 := hb2.tr0 hs
    clear hs
    have d0 : gg 19 = .pointer (some ⟨b2, 0, none⟩) := hd 0 (dep_of (by kernel_rfl))
    have e19 := d0
    refine ⟨fun _ => ?_, fun hw => Bool.noConfusion (show true = false from hw)⟩
    refine os_know 19 (.pointer (some ⟨b2, 0, none⟩)) e19 (by simp [undef]) ?_
    refine os_rv (r_ld1 (v := .slice _ _ _) Tryd.underlying26 rfl rfl (hb2.cell rfl)) ⟨Same.refl _ _, ?_, frsh_no⟩
    exact rfl
   | 2, _, hoq =>
    obtain rfl : _ = o := Option.some.inj hoq
    have hs0 := hs
    clear hs
    refine ⟨fun _ => ?_, fun hw => Bool.noConfusion (show true = false from hw)⟩
    refine os_rv (r_mv (v := .int _ _) rfl) ⟨Same.refl _ _, ?_, frsh_no⟩
    exact rfl
   | 3, _, hoq =>
    obtain rfl : _ = o := Option.some.inj hoq
    have hs0 := hs
    clear hs
    have d1 : gg 20 = .slice (some ⟨ab, ao, none⟩) ga.length c := hd 1 (dep_of (by kernel_rfl))
    have e20 := d1
    have d2 : gg 21 = .int .i64 k := hd 2 (dep_of (by kernel_rfl))
    have e21 := d2
    refine ⟨fun _ => ?_, fun hw => Bool.noConfusion (show true = false from hw)⟩
    refine os_know 20 (.slice (some ⟨ab, ao, none⟩) ga.length c) e20 (by simp [undef]) (os_know 21 (.int .i64 k) e21 (by simp [undef]) ?_)
    refine os_rv (r_ia (i := k) Tryd.underlying26 sz55 rfl rfl (by omega) rfl) ⟨Same.refl _ _, ?_, frsh_no⟩
    exact rfl
   | 4, _, hoq =>
    obtain rfl : _ = o := Option.some.inj hoq
    have hs0 := hs
    clear hs
    have d3 : gg 22 = .pointer (some ⟨ab, ao + k * 2, none⟩) := hd 3 (dep_of (by kernel_rfl))
    have e22 := d3
    refine ⟨fun _ => ?_, fun hw => Bool.noConfusion (show true = false from hw)⟩
    refine os_know 22 (.pointer (some ⟨ab, ao + k * 2, none⟩)) e22 (by simp [undef]) ?_
    refine os_rv (r_fa Tryd.underlying55 sz3_GLoose (by decide) rfl rfl rfl) ⟨Same.refl _ _, ?_, frsh_no⟩
    exact rfl
   | 5, _, hoq =>
    obtain rfl : _ = o := Option.some.inj hoq
    have hs0 := hs
    replace hB := hB.tr0 hs
    clear hs
    have d4 : gg 23 = .pointer (some ⟨ab, ao + k * 2 + 0, none⟩) := hd 4 (dep_of (by kernel_rfl))
    have e23 := d4
    refine ⟨fun _ => ?_, fun hw => Bool.noConfusion (show true = false from hw)⟩
    refine os_know 23 (.pointer (some ⟨ab, ao + k * 2 + 0, none⟩)) e23 (by simp [undef]) ?_
    refine os_rv (r_ld1 (v := .int _ _) Tryd.underlying3 rfl rfl (hB.cell hab (har 0 _ rfl))) ⟨Same.refl _ _, ?_, frsh_no⟩
    exact rfl
   | 6, _, hoq =>
    obtain rfl : _ = o := Option.some.inj hoq
    have hs0 := hs
    replace hb3 := hb3.tr0 hs
    clear hs
    refine ⟨fun _ => ?_, fun hw => Bool.noConfusion (show true = false from hw)⟩
    refine os_rv (r_fa Tryd.underlying28 sz26 (by decide) rfl rfl rfl) ⟨Same.refl _ _, ?_, frsh_no⟩
    exact rfl
   | 7, _, hoq =>
    obtain rfl : _ = o := Option.some.inj hoq
    have hs0 := hs
    replace hb3 := hb3.tr0 hs
    clear hs
    have d6 : gg 25 = .pointer (some ⟨b3, 0, none⟩) := hd 6 (dep_of (by kernel_rfl))
    have e25 := d6
    refine ⟨fun _ => ?_, fun hw => Bool.noConfusion (show true = false from hw)⟩
    refine os_know 25 (.pointer (some ⟨b3, 0, none⟩)) e25 (by simp [undef]) ?_
    refine os_rv (r_ld1 (v := .slice _ _ _) Tryd.underlying26 rfl rfl (hb3.cell rfl)) ⟨Same.refl _ _, ?_, frsh_no⟩
    exact rfl
   | 8, _, hoq =>
    obtain rfl : _ = o := Option.some.inj hoq
    have hs0 := hs
    clear hs
    refine ⟨fun _ => ?_, fun hw => Bool.noConfusion (show true = false from hw)⟩
    refine os_rv (r_mv (v := .int _ _) rfl) ⟨Same.refl _ _, ?_, frsh_no⟩
    exact rfl
   | 9, _, hoq =>
    obtain rfl : _ = o := Option.some.inj hoq
    have hs0 := hs
    clear hs
    have d7 : gg 26 = .slice (some ⟨bb, bo, none⟩) gb.length d := hd 7 (dep_of (by kernel_rfl))
    have e26 := d7
    have d8 : gg 27 = .int .i64 k := hd 8 (dep_of (by kernel_rfl))
    have e27 := d8
    refine ⟨fun _ => ?_, fun hw => Bool.noConfusion (show true = false from hw)⟩
    refine os_know 26 (.slice (some ⟨bb, bo, none⟩) gb.length d) e26 (by simp [undef]) (os_know 27 (.int .i64 k) e27 (by simp [undef]) ?_)
    refine os_rv (r_ia (i := k) Tryd.underlying26 sz55 rfl rfl (by omega) rfl) ⟨Same.refl _ _, ?_, frsh_no⟩
    exact rfl
   | 10, _, hoq =>
    obtain rfl : _ = o := Option.some.inj hoq
    have hs0 := hs
    clear hs
    have d9 : gg 28 = .pointer (some ⟨bb, bo + k * 2, none⟩) := hd 9 (dep_of (by kernel_rfl))
    have e28 := d9
    refine ⟨fun _ => ?_, fun hw => Bool.noConfusion (show true = false from hw)⟩
    refine os_know 28 (.pointer (some ⟨bb, bo + k * 2, none⟩)) e28 (by simp [undef]) ?_
    refine os_rv (r_fa Tryd.underlying55 sz3_GLoose (by decide) rfl rfl rfl) ⟨Same.refl _ _, ?_, frsh_no⟩
    exact rfl
   | 11, _, hoq =>
    obtain rfl : _ = o := Option.some.inj hoq
    have hs0 := hs
    replace hB := hB.tr0 hs
    clear hs
    have d10 : gg 29 = .pointer (some ⟨bb, bo + k * 2 + 0, none⟩) := hd 10 (dep_of (by kernel_rfl))
    have e29 := d10
    refine ⟨fun _ => ?_, fun hw => Bool.noConfusion (show true = false from hw)⟩
    refine os_know 29 (.pointer (some ⟨bb, bo + k * 2 + 0, none⟩)) e29 (by simp [undef]) ?_
    refine os_rv (r_ld1 (v := .int _ _) Tryd.underlying3 rfl rfl (hB.cell hbb (hbr 0 _ rfl))) ⟨Same.refl _ _, ?_, frsh_no⟩
    exact rfl
   | 12, _, hoq =>
    obtain rfl : _ = o := Option.some.inj hoq
    have hs0 := hs
    clear hs
    have d5 : gg 24 = .int .i64 (ga[k]'hlt).ty := hd 5 (dep_of (by kernel_rfl))
    have e24 := d5
    have d11 : gg 30 = .int .i64 (gb[k]'hly).ty := hd 11 (dep_of (by kernel_rfl))
    have e30 := d11
    refine ⟨fun _ => ?_, fun hw => Bool.noConfusion (show true = false from hw)⟩
    refine os_know 24 (.int .i64 (ga[k]'hlt).ty) e24 (by simp [undef]) (os_know 30 (.int .i64 (gb[k]'hly).ty) e30 (by simp [undef]) ?_)
    refine os_rv (r_neq rfl rfl) ⟨Same.refl _ _, ?_, frsh_no⟩
    exact rfl
   | 13, _, hoq =>
    obtain rfl : _ = o := Option.some.inj hoq
    have hs0 := hs
    clear hs
    have d12 : gg 31 = .bool (decide (¬ (ga[k]'hlt).ty = (gb[k]'hly).ty)) := hd 12 (dep_of (by kernel_rfl))
    have e31 := d12
    refine ⟨fun _ => ?_, fun hw => Bool.noConfusion (show true = false from hw)⟩
    refine os_know 31 (.bool (decide (¬ (ga[k]'hlt).ty = (gb[k]'hly).ty))) e31 (by simp [undef]) ?_
    refine os_rv (r_mv (v := .bool _) rfl) ⟨Same.refl _ _, ?_, frsh_no⟩
    exact rfl
   | 14, _, hoq =>
    obtain rfl : _ = o := Option.some.inj hoq
    have hs0 := hs
    replace hb2 := hb2.tr0 hs
    clear hs
    have d13 : gg 32 = .bool (decide (¬ (ga[k]'hlt).ty = (gb[k]'hly).ty)) := hd 13 (dep_of (by kernel_rfl))
    have e32 := d13
    refine guard_case 32 ((decide (¬ (ga[k]'hlt).ty = (gb[k]'hly).ty))) rfl e32 (fun hgc => ?_) (fun hgc => ⟨fun h => absurd (h.symm.trans hgc) (by decide), fun _ => rfl⟩)
    refine os_know 32 (.bool (decide (¬ (ga[k]'hlt).ty = (gb[k]'hly).ty))) e32 (by simp [undef]) ?_
    refine os_rv (r_fa Tryd.underlying28 sz26 (by decide) rfl rfl rfl) ⟨Same.refl _ _, ?_, frsh_no⟩
    exact ⟨fun _ => rfl, fun h => absurd (h.symm.trans hgc) (by decide)⟩
   | 15, _, hoq =>
    obtain rfl : _ = o := Option.some.inj hoq
    have hs0 := hs
    replace hb2 := hb2.tr0 hs
    clear hs
    have d13 : gg 32 = .bool (decide (¬ (ga[k]'hlt).ty = (gb[k]'hly).ty)) := hd 13 (dep_of (by kernel_rfl))
    have e32 := d13
    have d14 : (((decide (¬ (ga[k]'hlt).ty = (gb[k]'hly).ty))) = false → gg 33 = .pointer (some ⟨b2, 0, none⟩)) ∧ (((decide (¬ (ga[k]'hlt).ty = (gb[k]'hly).ty))) = true → gg 33 = undef) := hd 14 (dep_of (by kernel_rfl))
    refine guard_case 32 ((decide (¬ (ga[k]'hlt).ty = (gb[k]'hly).ty))) rfl e32 (fun hgc => ?_) (fun hgc => ⟨fun h => absurd (h.symm.trans hgc) (by decide), fun _ => rfl⟩)
    have e33 := d14.1 hgc
    refine os_know 32 (.bool (decide (¬ (ga[k]'hlt).ty = (gb[k]'hly).ty))) e32 (by simp [undef]) (os_know 33 (.pointer (some ⟨b2, 0, none⟩)) e33 (by simp [undef]) ?_)
    refine os_rv (r_ld1 (v := .slice _ _ _) Tryd.underlying26 rfl rfl (hb2.cell rfl)) ⟨Same.refl _ _, ?_, frsh_no⟩
    exact ⟨fun _ => rfl, fun h => absurd (h.symm.trans hgc) (by decide)⟩
   | 16, _, hoq =>
    obtain rfl : _ = o := Option.some.inj hoq
    have hs0 := hs
    clear hs
    have d13 : gg 32 = .bool (decide (¬ (ga[k]'hlt).ty = (gb[k]'hly).ty)) := hd 13 (dep_of (by kernel_rfl))
    have e32 := d13
    refine guard_case 32 ((decide (¬ (ga[k]'hlt).ty = (gb[k]'hly).ty))) rfl e32 (fun hgc => ?_) (fun hgc => ⟨fun h => absurd (h.symm.trans hgc) (by decide), fun _ => rfl⟩)
    refine os_know 32 (.bool (decide (¬ (ga[k]'hlt).ty = (gb[k]'hly).ty))) e32 (by simp [undef]) ?_
    refine os_rv (r_mv (v := .int _ _) rfl) ⟨Same.refl _ _, ?_, frsh_no⟩
    exact ⟨fun _ => rfl, fun h => absurd (h.symm.trans hgc) (by decide)⟩
   | 17, _, hoq =>
    obtain rfl : _ = o := Option.some.inj hoq
    have hs0 := hs
    clear hs
    have d13 : gg 32 = .bool (decide (¬ (ga[k]'hlt).ty = (gb[k]'hly).ty)) := hd 13 (dep_of (by kernel_rfl))
    have e32 := d13
    have d15 : (((decide (¬ (ga[k]'hlt).ty = (gb[k]'hly).ty))) = false → gg 34 = .slice (some ⟨ab, ao, none⟩) ga.length c) ∧ (((decide (¬ (ga[k]'hlt).ty = (gb[k]'hly).ty))) = true → gg 34 = undef) := hd 15 (dep_of (by kernel_rfl))
    have d16 : (((decide (¬ (ga[k]'hlt).ty = (gb[k]'hly).ty))) = false → gg 35 = .int .i64 k) ∧ (((decide (¬ (ga[k]'hlt).ty = (gb[k]'hly).ty))) = true → gg 35 = undef) := hd 16 (dep_of (by kernel_rfl))
    refine guard_case 32 ((decide (¬ (ga[k]'hlt).ty = (gb[k]'hly).ty))) rfl e32 (fun hgc => ?_) (fun hgc => ⟨fun h => absurd (h.symm.trans hgc) (by decide), fun _ => rfl⟩)
    have e34 := d15.1 hgc
    have e35 := d16.1 hgc
    refine os_know 32 (.bool (decide (¬ (ga[k]'hlt).ty = (gb[k]'hly).ty))) e32 (by simp [undef]) (os_know 34 (.slice (some ⟨ab, ao, none⟩) ga.length c) e34 (by simp [undef]) (os_know 35 (.int .i64 k) e35 (by simp [undef]) ?_))
    refine os_rv (r_ia (i := k) Tryd.underlying26 sz55 rfl rfl (by omega) rfl) ⟨Same.refl _ _, ?_, frsh_no⟩
    exact ⟨fun _ => rfl, fun h => absurd (h.symm.trans hgc) (by decide)⟩
   | 18, _, hoq =>
    obtain rfl : _ = o := Option.some.inj hoq
    have hs0 := hs
    clear hs
    have d13 : gg 32 = .bool (decide (¬ (ga[k]'hlt).ty = (gb[k]'hly).ty)) := hd 13 (dep_of (by kernel_rfl))
    have e32 := d13
    have d17 : (((decide (¬ (ga[k]'hlt).ty = (gb[k]'hly).ty))) = false → gg 36 = .pointer (some ⟨ab, ao + k * 2, none⟩)) ∧ (((decide (¬ (ga[k]'hlt).ty = (gb[k]'hly).ty))) = true → gg 36 = undef) := hd 17 (dep_of (by kernel_rfl))
    refine guard_case 32 ((decide (¬ (ga[k]'hlt).ty = (gb[k]'hly).ty))) rfl e32 (fun hgc => ?_) (fun hgc => ⟨fun h => absurd (h.symm.trans hgc) (by decide), fun _ => rfl⟩)
    have e36 := d17.1 hgc
    refine os_know 32 (.bool (decide (¬ (ga[k]'hlt).ty = (gb[k]'hly).ty))) e32 (by simp [undef]) (os_know 36 (.pointer (some ⟨ab, ao + k * 2, none⟩)) e36 (by simp [undef]) ?_)
    refine os_rv (r_fa Tryd.underlying55 sz53 (by decide) rfl rfl rfl) ⟨Same.refl _ _, ?_, frsh_no⟩
    exact ⟨fun _ => rfl, fun h => absurd (h.symm.trans hgc) (by decide)⟩
   | 19, _, hoq =>
    obtain rfl : _ = o := Option.some.inj hoq
    have hs0 := hs
    replace hB := hB.tr0 hs
    clear hs
    have d13 : gg 32 = .bool (decide (¬ (ga[k]'hlt).ty = (gb[k]'hly).ty)) := hd 13 (dep_of (by kernel_rfl))
    have e32 := d13
    have d18 : (((decide (¬ (ga[k]'hlt).ty = (gb[k]'hly).ty))) = false → gg 37 = .pointer (some ⟨ab, ao + k * 2 + 1, none⟩)) ∧ (((decide (¬ (ga[k]'hlt).ty = (gb[k]'hly).ty))) = true → gg 37 = undef) := hd 18 (dep_of (by kernel_rfl))
    refine guard_case 32 ((decide (¬ (ga[k]'hlt).ty = (gb[k]'hly).ty))) rfl e32 (fun hgc => ?_) (fun hgc => ⟨fun h => absurd (h.symm.trans hgc) (by decide), fun _ => rfl⟩)
    have e37 := d18.1 hgc
    refine os_know 32 (.bool (decide (¬ (ga[k]'hlt).ty = (gb[k]'hly).ty))) e32 (by simp [undef]) (os_know 37 (.pointer (some ⟨ab, ao + k * 2 + 1, none⟩)) e37 (by simp [undef]) ?_)
    refine os_rv (r_ld1 (v := .slice _ _ _) Tryd.underlying53 rfl rfl (hB.cell hab (har 1 _ rfl))) ⟨Same.refl _ _, ?_, frsh_no⟩
    exact ⟨fun _ => rfl, fun h => absurd (h.symm.trans hgc) (by decide)⟩
   | 20, _, hoq =>
    obtain rfl : _ = o := Option.some.inj hoq
    have hs0 := hs
    replace hb3 := hb3.tr0 hs
    clear hs
    have d13 : gg 32 = .bool (decide (¬ (ga[k]'hlt).ty = (gb[k]'hly).ty)) := hd 13 (dep_of (by kernel_rfl))
    have e32 := d13
    refine guard_case 32 ((decide (¬ (ga[k]'hlt).ty = (gb[k]'hly).ty))) rfl e32 (fun hgc => ?_) (fun hgc => ⟨fun h => absurd (h.symm.trans hgc) (by decide), fun _ => rfl⟩)
    refine os_know 32 (.bool (decide (¬ (ga[k]'hlt).ty = (gb[k]'hly).ty))) e32 (by simp [undef]) ?_
    refine os_rv (r_fa Tryd.underlying28 sz26 (by decide) rfl rfl rfl) ⟨Same.refl _ _, ?_, frsh_no⟩
    exact ⟨fun _ => rfl, fun h => absurd (h.symm.trans hgc) (by decide)⟩
   | 21, _, hoq =>
    obtain rfl : _ = o := Option.some.inj hoq
    have hs0 := hs
    replace hb3 := hb3.tr0 hs
    clear hs
    have d13 : gg 32 = .bool (decide (¬ (ga[k]'hlt).ty = (gb[k]'hly).ty)) := hd 13 (dep_of (by kernel_rfl))
    have e32 := d13
    have d20 : (((decide (¬ (ga[k]'hlt).ty = (gb[k]'hly).ty))) = false → gg 39 = .pointer (some ⟨b3, 0, none⟩)) ∧ (((decide (¬ (ga[k]'hlt).ty = (gb[k]'hly).ty))) = true → gg 39 = undef) := hd 20 (dep_of (by kernel_rfl))
    refine guard_case 32 ((decide (¬ (ga[k]'hlt).ty = (gb[k]'hly).ty))) rfl e32 (fun hgc => ?_) (fun hgc => ⟨fun h => absurd (h.symm.trans hgc) (by decide), fun _ => rfl⟩)
    have e39 := d20.1 hgc
    refine os_know 32 (.bool (decide (¬ (ga[k]'hlt).ty = (gb[k]'hly).ty))) e32 (by simp [undef]) (os_know 39 (.pointer (some ⟨b3, 0, none⟩)) e39 (by simp [undef]) ?_)
    refine os_rv (r_ld1 (v := .slice _ _ _) Tryd.underlying26 rfl rfl (hb3.cell rfl)) ⟨Same.refl _ _, ?_, frsh_no⟩
    exact ⟨fun _ => rfl, fun h => absurd (h.symm.trans hgc) (by decide)⟩
   | 22, _, hoq =>
    obtain rfl : _ = o := Option.some.inj hoq
    have hs0 := hs
    clear hs
    have d13 : gg 32 = .bool (decide (¬ (ga[k]'hlt).ty = (gb[k]'hly).ty)) := hd 13 (dep_of (by kernel_rfl))
    have e32 := d13
    refine guard_case 32 ((decide (¬ (ga[k]'hlt).ty = (gb[k]'hly).ty))) rfl e32 (fun hgc => ?_) (fun hgc => ⟨fun h => absurd (h.symm.trans hgc) (by decide), fun _ => rfl⟩)
    refine os_know 32 (.bool (decide (¬ (ga[k]'hlt).ty = (gb[k]'hly).ty))) e32 (by simp [undef]) ?_
    refine os_rv (r_mv (v := .int _ _) rfl) ⟨Same.refl _ _, ?_, frsh_no⟩
    exact ⟨fun _ => rfl, fun h => absurd (h.symm.trans hgc) (by decide)⟩
   | 23, _, hoq =>
    obtain rfl : _ = o := Option.some.inj hoq
    have hs0 := hs
    clear hs
    have d13 : gg 32 = .bool (decide (¬ (ga[k]'hlt).ty = (gb[k]'hly).ty)) := hd 13 (dep_of (by kernel_rfl))
    have e32 := d13
    have d21 : (((decide (¬ (ga[k]'hlt).ty = (gb[k]'hly).ty))) = false → gg 40 = .slice (some ⟨bb, bo, none⟩) gb.length d) ∧ (((decide (¬ (ga[k]'hlt).ty = (gb[k]'hly).ty))) = true → gg 40 = undef) := hd 21 (dep_of (by kernel_rfl))
    have d22 : (((decide (¬ (ga[k]'hlt).ty = (gb[k]'hly).ty))) = false → gg 41 = .int .i64 k) ∧ (((decide (¬ (ga[k]'hlt).ty = (gb[k]'hly).ty))) = true → gg 41 = undef) := hd 22 (dep_of (by kernel_rfl))
    refine guard_case 32 ((decide (¬ (ga[k]'hlt).ty = (gb[k]'hly).ty))) rfl e32 (fun hgc => ?_) (fun hgc => ⟨fun h => absurd (h.symm.trans hgc) (by decide), fun _ => rfl⟩)
    have e40 := d21.1 hgc
    have e41 := d22.1 hgc
    refine os_know 32 (.bool (decide (¬ (ga[k]'hlt).ty = (gb[k]'hly).ty))) e32 (by simp [undef]) (os_know 40 (.slice (some ⟨bb, bo, none⟩) gb.length d) e40 (by simp [undef]) (os_know 41 (.int .i64 k) e41 (by simp [undef]) ?_))
    refine os_rv (r_ia (i := k) Tryd.underlying26 sz55 rfl rfl (by omega) rfl) ⟨Same.refl _ _, ?_, frsh_no⟩
    exact ⟨fun _ => rfl, fun h => absurd (h.symm.trans hgc) (by decide)⟩
   | 24, _, hoq =>
    obtain rfl : _ = o := Option.some.inj hoq
    have hs0 := hs
    clear hs
    have d13 : gg 32 = .bool (decide (¬ (ga[k]'hlt).ty = (gb[k]'hly).ty)) := hd 13 (dep_of (by kernel_rfl))
    have e32 := d13
    have d23 : (((decide (¬ (ga[k]'hlt).ty = (gb[k]'hly).ty))) = false → gg 42 = .pointer (some ⟨bb, bo + k * 2, none⟩)) ∧ (((decide (¬ (ga[k]'hlt).ty = (gb[k]'hly).ty))) = true → gg 42 = undef) := hd 23 (dep_of (by kernel_rfl))
    refine guard_case 32 ((decide (¬ (ga[k]'hlt).ty = (gb[k]'hly).ty))) rfl e32 (fun hgc => ?_) (fun hgc => ⟨fun h => absurd (h.symm.trans hgc) (by decide), fun _ => rfl⟩)
    have e42 := d23.1 hgc
    refine os_know 32 (.bool (decide (¬ (ga[k]'hlt).ty = (gb[k]'hly).ty))) e32 (by simp [undef]) (os_know 42 (.pointer (some ⟨bb, bo + k * 2, none⟩)) e42 (by simp [undef]) ?_)
    refine os_rv (r_fa Tryd.underlying55 sz53 (by decide) rfl rfl rfl) ⟨Same.refl _ _, ?_, frsh_no⟩
    exact ⟨fun _ => rfl, fun h => absurd (h.symm.trans hgc) (by decide)⟩
   | 25, _, hoq =>
    obtain rfl : _ = o := Option.some.inj hoq
    have hs0 := hs
    replace hB := hB.tr0 hs
    clear hs
    have d13 : gg 32 = .bool (decide (¬ (ga[k]'hlt).ty = (gb[k]'hly).ty)) := hd 13 (dep_of (by kernel_rfl))
    have e32 := d13
    have d24 : (((decide (¬ (ga[k]'hlt).ty = (gb[k]'hly).ty))) = false → gg 43 = .pointer (some ⟨bb, bo + k * 2 + 1, none⟩)) ∧ (((decide (¬ (ga[k]'hlt).ty = (gb[k]'hly).ty))) = true → gg 43 = undef) := hd 24 (dep_of (by kernel_rfl))
    refine guard_case 32 ((decide (¬ (ga[k]'hlt).ty = (gb[k]'hly).ty))) rfl e32 (fun hgc => ?_) (fun hgc => ⟨fun h => absurd (h.symm.trans hgc) (by decide), fun _ => rfl⟩)
    have e43 := d24.1 hgc
    refine os_know 32 (.bool (decide (¬ (ga[k]'hlt).ty = (gb[k]'hly).ty))) e32 (by simp [undef]) (os_know 43 (.pointer (some ⟨bb, bo + k * 2 + 1, none⟩)) e43 (by simp [undef]) ?_)
    refine os_rv (r_ld1 (v := .slice _ _ _) Tryd.underlying53 rfl rfl (hB.cell hbb (hbr 1 _ rfl))) ⟨Same.refl _ _, ?_, frsh_no⟩
    exact ⟨fun _ => rfl, fun h => absurd (h.symm.trans hgc) (by decide)⟩
   | 26, _, hoq =>
    obtain rfl : _ = o := Option.some.inj hoq
    have hs0 := hs
    replace hB := hB.tr0 hs
    clear hs
    have d13 : gg 32 = .bool (decide (¬ (ga[k]'hlt).ty = (gb[k]'hly).ty)) := hd 13 (dep_of (by kernel_rfl))
    have e32 := d13
    have d19 : (((decide (¬ (ga[k]'hlt).ty = (gb[k]'hly).ty))) = false → gg 38 = .slice LA (ga[k]'hlt).ln.length la) ∧ (((decide (¬ (ga[k]'hlt).ty = (gb[k]'hly).ty))) = true → gg 38 = undef) := hd 19 (dep_of (by kernel_rfl))
    have d25 : (((decide (¬ (ga[k]'hlt).ty = (gb[k]'hly).ty))) = false → gg 44 = .slice LB (gb[k]'hly).ln.length lb) ∧ (((decide (¬ (ga[k]'hlt).ty = (gb[k]'hly).ty))) = true → gg 44 = undef) := hd 25 (dep_of (by kernel_rfl))
    refine guard_case 32 ((decide (¬ (ga[k]'hlt).ty = (gb[k]'hly).ty))) rfl e32 (fun hgc => ?_) (fun hgc => ⟨fun h => absurd (h.symm.trans hgc) (by decide), fun _ => rfl⟩)
    have e38 := d19.1 hgc
    have e44 := d25.1 hgc
    refine os_know 32 (.bool (decide (¬ (ga[k]'hlt).ty = (gb[k]'hly).ty))) e32 (by simp [undef]) (os_know 38 (.slice LA (ga[k]'hlt).ln.length la) e38 (by simp [undef]) (os_know 44 (.slice LB (gb[k]'hly).ln.length lb) e44 (by simp [undef]) ?_))
    refine os_cl fn31 (leq_any _ _ _ _ _ _ wx (haln.mono hB) (hbln.mono hB)) rfl (fun e' w2 hr => ?_)
    obtain ⟨rfl, hs⟩ := hr
    exact ⟨_, rfl, Same.of_bel hs, ⟨fun _ => rfl, fun h => absurd (h.symm.trans hgc) (by decide)⟩, frsh_no⟩
   | 27, _, hoq =>
    obtain rfl : _ = o := Option.some.inj hoq
    have hs0 := hs
    clear hs
    have d13 : gg 32 = .bool (decide (¬ (ga[k]'hlt).ty = (gb[k]'hly).ty)) := hd 13 (dep_of (by kernel_rfl))
    have e32 := d13
    have d26 : (((decide (¬ (ga[k]'hlt).ty = (gb[k]'hly).ty))) = false → gg 45 = .bool (decide ((ga[k]'hlt).ln = (gb[k]'hly).ln))) ∧ (((decide (¬ (ga[k]'hlt).ty = (gb[k]'hly).ty))) = true → gg 45 = undef) := hd 26 (dep_of (by kernel_rfl))
    refine guard_case 32 ((decide (¬ (ga[k]'hlt).ty = (gb[k]'hly).ty))) rfl e32 (fun hgc => ?_) (fun hgc => ⟨fun h => absurd (h.symm.trans hgc) (by decide), fun _ => rfl⟩)
    have e45 := d26.1 hgc
    refine os_know 32 (.bool (decide (¬ (ga[k]'hlt).ty = (gb[k]'hly).ty))) e32 (by simp [undef]) (os_know 45 (.bool (decide ((ga[k]'hlt).ln = (gb[k]'hly).ln))) e45 (by simp [undef]) ?_)
    refine os_rv (r_not rfl) ⟨Same.refl _ _, ?_, frsh_no⟩
    exact ⟨fun _ => rfl, fun h => absurd (h.symm.trans hgc) (by decide)⟩
   | 28, _, hoq =>
    obtain rfl : _ = o := Option.some.inj hoq
    have hs0 := hs
    clear hs
    have d13 : gg 32 = .bool (decide (¬ (ga[k]'hlt).ty = (gb[k]'hly).ty)) := hd 13 (dep_of (by kernel_rfl))
    have e32 := d13
    have d27 : (((decide (¬ (ga[k]'hlt).ty = (gb[k]'hly).ty))) = false → gg 46 = .bool (!decide ((ga[k]'hlt).ln = (gb[k]'hly).ln))) ∧ (((decide (¬ (ga[k]'hlt).ty = (gb[k]'hly).ty))) = true → gg 46 = undef) := hd 27 (dep_of (by kernel_rfl))
    refine ⟨fun _ => ?_, fun hw => Bool.noConfusion (show true = false from hw)⟩
    cases hcc : (decide (¬ (ga[k]'hlt).ty = (gb[k]'hly).ty)) with
    | true =>
     rw [hcc] at e32
     refine os_know 32 (.bool true) e32 (by simp [undef]) ?_
     refine os_rv (r_pt (v := .bool _) rfl rfl) ⟨Same.refl _ _, ?_, frsh_no⟩
     exact rfl
    | false =>
     have e46 := d27.1 hcc
     rw [hcc] at e32
     refine os_know 32 (.bool false) e32 (by simp [undef]) (os_know 46 (.bool (!decide ((ga[k]'hlt).ln = (gb[k]'hly).ln))) e46 (by simp [undef]) ?_)
     refine os_rv (r_pf (v := .bool _) rfl rfl) ⟨Same.refl _ _, ?_, frsh_no⟩
     exact rfl
   | _ + 29, hix, _ => exact absurd hix (by omega)
  intro gg w4 hs hR hdis
  have hs0 := hs
  replace hB := hB.tr0 hs
  replace hb2 := hb2.tr0 hs
  replace hb3 := hb3.tr0 hs
  clear hs
  have d28 : gg 47 = .bool (decide (¬ (ga[k]'hlt).ty = (gb[k]'hly).ty) || !decide ((ga[k]'hlt).ln = (gb[k]'hly).ln)) := hR 28 (by decide)
  have e47 := d28
  refine wl_know 47 (.bool (decide (¬ (ga[k]'hlt).ty = (gb[k]'hly).ty) || !decide ((ga[k]'hlt).ln = (gb[k]'hly).ln))) e47 (by simp [undef]) (x_nil (e_S ?_))
  refine c_if rfl (fun c47 => ?_) (fun c47 => ?_)
  ·
   refine c_seq (c_region (wl (r_as (v := .bool _) rfl) (x_nil (e_S (c_ret ?_)))))
   refine e_Br (e_Sr (e_LSr (e_Br (e_Sr (fin1 (.inl rfl) rfl rfl ?_)))))
   exact ⟨ret_bool (decide_eq_false (fun h => by
     subst h
     simp at c47)), hB⟩
  have hx : ga[k]'hlt = gb[k]'hly := by
    simp only [Bool.or_eq_false_iff, decide_eq_false_iff_not, Bool.not_eq_false', decide_eq_true_eq] at c47
    exact nd_ext (Decidable.not_not.1 c47.1) c47.2
  refine c_skip (e_B (e_S (c_region (wl (r_add rfl rfl rfl (by omega)) (wl (r_mv (v := .int _ _) rfl) ?_)))))
  refine x_nil (e_LS (ga.length - (k + 1)) (by omega) agA ?_)
  exact ⟨k + 1, by omega, rfl, rfl, hB, hb2, hb3, by rw [List.take_succ_eq_append_getElem hlt, List.take_succ_eq_append_getElem hly, hE, hx]⟩
 have hek : k = ga.length := by omega
 have hfin : ga = gb := by
   rw [hek] at hE
   have e2 : gb.take ga.length = gb := List.take_of_length_le (by omega)
   rw [List.take_length, e2] at hE; exact hE
 refine c_exit (e_Sx (e_LSx (e_Bx (e_S (c_seq ?_)))))
 refine c_region (wl (r_as (v := .bool _) rfl) (x_nil (e_S (c_ret (fin1 (.inl rfl) rfl rfl ?_)))))
 exact ⟨ret_bool (decide_eq_true hfin), hB⟩
end Go.Proofs.YteoncmfiiknfbaaDoor
