/- What these functions of the program compute, at every world: slices.Clone[[][]int,[]int], slices.Insert[[][]int,[]int]. -/
import Derived.Test.YtahdbbgkgokkhaaDoorRcm
import Derived.Test.YtahdbbgkgokkhaaDoorEng3
namespace Go.Proofs.YtahdbbgkgokkhaaDoor
open Go.RowKit

def SameQ (X : List Nat) (w w' : World) : Prop := Same X w w'
theorem SameQ.trans {X : List Nat} {a b c : World} (h : SameQ X a b) {Y : List Nat} (k : Same Y b c) (hy : ∀ g ∈ Y, g ∈ X) : SameQ X a c := Same.trans h (k.weak hy)
theorem Same.freshL {X Y : List Nat} {w w1 w2 : World} (h : Same X w w1) (hs : Same Y w1 w2) (hb : ∀ g ∈ Y, g ∈ X ∨ w.heap.size ≤ g) : Same X w w2 :=
  ⟨hs.os.trans h.os, hs.tape.trans h.tape, hs.output.trans h.output, Nat.le_trans h.size hs.size, fun k hk hx => (hs.blk k (Nat.lt_of_lt_of_le hk h.size) (fun hm => by
    rcases hb k hm with h1 | h1
    · exact hx h1
    · omega)).trans (h.blk k hk hx)⟩
theorem cur_drop {cur : Array Value} {Ps Ys : List Value} {m j : Nat} {v : Value} (h : cur.toList.take m = Ps ++ Ys) (hj : Ys[j]? = some v) : cur[Ps.length + j]? = some v := by
  have h1 : (Ps ++ Ys)[Ps.length + j]? = some v := by
    rw [List.getElem?_append_right (Nat.le_add_right _ _), Nat.add_sub_cancel_left]; exact hj
  rw [← h, List.getElem?_take] at h1
  split at h1
  · simpa using h1
  · cases h1
theorem cur_take {cur : Array Value} {Ps Ys : List Value} {m j : Nat} {v : Value} (h : cur.toList.take m = Ps ++ Ys) (hj : Ps[j]? = some v) : cur[j]? = some v := by
  have hlt := (List.getElem?_eq_some_iff.1 hj).1
  have h1 : (Ps ++ Ys)[j]? = some v := by
    rw [List.getElem?_append_left hlt]; exact hj
  rw [← h, List.getElem?_take] at h1
  split at h1
  · simpa using h1
  · cases h1
def insV (L : List Value) (k : Nat) (x : Value) : List Value := L.take k ++ ([x] ++ L.drop k)
theorem vcut (L : List Value) (k : Nat) : L = L.take k ++ L.drop k := (List.take_append_drop k L).symm
theorem tk_len {L : List Value} {k : Nat} (hk : k ≤ L.length) : (L.take k).length = k * 1 := by rw [List.length_take, Nat.min_eq_left hk, Nat.mul_one]
theorem dr_len {L : List Value} {k : Nat} : (L.drop k).length = (L.length - k) * 1 := by rw [List.length_drop, Nat.mul_one]
theorem ins_new {w : World} {base g cap k : Nat} {R0 : Array Value} {Zs : List Value} {L : List Value} {x : Value} (hb : Blk w g 33 (cpy (cpy R0 (0 + k * 1) [x]) (0 + (k + 1) * 1) (L.drop k))) (hR : R0.toList = L.take k ++ Zs) (hsz : R0.size = cap * 1) (hcap : L.length + 1 ≤ cap) (hm : cap ≤ 9223372036854775807) (hbase : base ≤ g) (hk : k ≤ L.length) : Own w base 33 1 (some ⟨g, 0, none⟩) (L.length + 1) cap (insV L k x) := by
  have h1 := tk_len hk
  have h2 := dr_len (L := L) (k := k)
  have h3 : ([x] : List Value).length = 1 := rfl
  refine own_mk hb hbase hcap hm ?_ ?_
  · rw [cpy_size, cpy_size, hsz]
    · rw [hsz, h3]; omega
    · rw [cpy_size, hsz, h2]
      · omega
      · rw [hsz, h3]; omega
  · rw [insV, show (L.length + 1) * 1 = (L.take k).length + ([x] : List Value).length + (L.drop k).length by omega]
    exact cpy_new hR (by omega) (by omega)
theorem ins_move {w : World} {base g cap k : Nat} {R0 : Array Value} {L : List Value} {x : Value} (hb : Blk w g 33 (cpy (cpy R0 (0 + (k + 1) * 1) (L.drop k)) (0 + k * 1) [x])) (hR : R0.toList.take (L.length * 1) = L) (hsz : R0.size = cap * 1) (hcap : L.length + 1 ≤ cap) (hm : cap ≤ 9223372036854775807) (hbase : base ≤ g) (hk : k ≤ L.length) : Own w base 33 1 (some ⟨g, 0, none⟩) (L.length + 1) cap (insV L k x) := by
  have h1 := tk_len hk
  have h2 := dr_len (L := L) (k := k)
  have h3 : ([x] : List Value).length = 1 := rfl
  have h4 : R0.toList = L.take k ++ (L.drop k ++ R0.toList.drop (L.length * 1)) := by
    have h6 := List.take_append_drop (L.length * 1) R0.toList
    rw [hR] at h6
    rw [← List.append_assoc, List.take_append_drop, h6]
  have h5 : (R0.toList.drop (L.length * 1)).length = cap * 1 - L.length * 1 := by rw [List.length_drop, Array.length_toList, hsz]
  refine own_mk hb hbase hcap hm ?_ ?_
  · rw [cpy_size, cpy_size, hsz]
    · rw [hsz, h2]; omega
    · rw [cpy_size, hsz, h3]
      · omega
      · rw [hsz, h2]; omega
  · rw [insV, show (L.length + 1) * 1 = (L.take k).length + ([x] : List Value).length + (L.drop k).length by omega]
    exact cpy_move h4 (by omega) (by omega) (by omega)
theorem ins_end {w : World} {base cap : Nat} {A : Option Addr} {L : List Value} {x : Value} (h : Own w base 33 1 A (L.length + 1) cap (L ++ [x])) : Own w base 33 1 A (L.length + 1) cap (insV L L.length x) := by
  rw [insV, List.take_length, List.drop_eq_nil_of_le (Nat.le_refl _)]
  simpa using h
theorem ovl_any {w : World} {a b la ca lb cb oa ob : Nat} {tA tB : TypeId} {ka kb : Array Value} (ha : Blk w a tA ka) (hb : Blk w b tB kb) (hne : a ≠ b) (hk : kb.size ≠ 0) : (callFunc 46 #[.slice (some ⟨a, oa, none⟩) la ca, .slice (some ⟨b, ob, none⟩) lb cb]).run Tryd.prog w = .ok (.value (.bool false)) w :=
  run_apart (fn := Tryd.f46) (t := 67) (tR := 4) (e := 33) (by kernel_rfl) (by kernel_rfl) (by kernel_rfl) (by kernel_rfl) (by kernel_rfl) Tryd.underlying67 (sz := 1) (by kernel_rfl) ha hb hne hk

theorem in33 : (Tryd.prog.info? 33).map (fun i => (i.zero, i.size, i.bytes)) = some (some (.slice none 0 0), 1, 24) := by kernel_rfl
theorem sz33_CRi : (Tryd.prog.info? 33).map (·.size) = some 1 := by kernel_rfl
theorem clonev_any {A : Option Addr} {n c base : Nat} {vs : List Value} (w : World) (ho : Own w base 33 1 A n c vs) (h1 : ∀ v ∈ vs, v.oneCell' = true) (hl : n ≤ 1000000) : Calls Tryd.prog 35 #[.slice A n c] w fun e w' => (∃ A' cap', e = .returned (.slice A' n cap') ∧ Own w' w.heap.size 33 1 A' n cap' vs) ∧ Bel w w' := by
 have hlen := ho.len
 refine enter Tryd.func35 Tryd.ntmps35 rfl (Nat.le_of_ble_eq_true rfl) ?_
 have hB : Bel w w := Below.refl _ _
 refine c_seq ?_
 refine c_region ?_
 refine wl (r_as (v := .slice _ _ _) rfl) ?_
 refine x_nil ?_
 refine e_S ?_
 refine c_seq ?_
 refine c_seq ?_
 refine c_region ?_
 refine wl (r_mv (v := .slice _ _ _) rfl) ?_
 refine wl (r_eqlNil Tryd.underlying67 rfl rfl) ?_
 refine x_nil ?_
 refine e_S ?_
 refine c_if rfl (fun c4 => ?_) (fun c4 => ?_)
 ·
  have hn : n = 0 := by
    rcases ho.2 with ⟨_, h⟩ | ⟨g, cp, cu, hv, _⟩
    · exact h
    · cases hv; cases c4
  subst hn
  have hvs : vs = [] := List.length_eq_zero_iff.1 (by omega)
  subst hvs
  refine c_seq ?_
  refine c_region ?_
  refine wl (r_as (v := .slice _ _ _) rfl) ?_
  refine x_nil ?_
  refine e_S ?_
  refine c_ret ?_
  refine e_Sr ?_
  refine fin1 (.inl rfl) rfl rfl ?_
  exact ⟨⟨none, 0, rfl, Own.nil _ _ _ _⟩, hB⟩
 ·
  refine c_skip ?_
  refine e_S ?_
  refine c_seq ?_
  refine c_region ?_
  refine wl_bs0 Tryd.underlying67 sz33_CRi (fun b5 w1 hb5 hs hr => ?_)
  have lo5 := Nat.le_trans (Bel.size hB) hr
  replace hB := hB.tr0 hs
  clear hs
  clear hr
  refine wl (r_mv (v := .slice _ _ _) rfl) ?_
  have hown := own_blk (sz := 1) (m := 0) hb5 (Nat.le_refl b5) rfl (by decide)
  refine wl_appL (news := vs) Tryd.underlying67 in33 rfl (by decide) hown rfl rfl (fun hm => by
    obtain ⟨g, e, _, hgl, hc⟩ := ho.cell (fun e => by rw [e] at hlen; simp at hlen; omega)
    exact ⟨g, 0, e, fun j u hj => by rw [Nat.zero_add]; exact hB.cell hgl (hc j u hj)⟩) hlen (List.all_eq_true.2 h1) (by omega) (by omega) (Nat.le_of_lt hb5.lt) (fun A7 cap7 w9 ho7 hs hg => ?_)
  have hB9 : Bel w w9 := hB.tr hs (fun g hg => by cases List.mem_singleton.1 hg; exact lo5)
  refine wl (r_as (v := .slice _ _ _) rfl) ?_
  refine x_nil ?_
  refine e_S ?_
  refine c_ret ?_
  refine fin1 (.inl rfl) rfl rfl ?_
  refine ⟨⟨A7, cap7, ?_, ?_⟩, hB9⟩
  · show Ending.returned (.slice _ (0 + n) _) = _
    rw [Nat.zero_add]
  · have h := ho7.low lo5
    rw [Nat.zero_add] at h
    exact h

set_option maxHeartbeats 1000000 in
theorem insv_any {base b vc c k : Nat} {A : Option Addr} {L : List Value} {x : Value} (w : World) (ho : Own w base 33 1 A L.length c L) (hb : Blk w b 33 #[x]) (hA : ∀ g ∈ aL A, g ≠ b) (hk : k ≤ L.length) (hl : L.length ≤ 1000000) (hbase : base ≤ w.heap.size) (hL1 : ∀ v ∈ L, v.oneCell' = true) (hx1 : x.oneCell' = true) : Calls Tryd.prog 34 #[.slice A L.length c, .int .i64 (k : Nat), .slice (some ⟨b, 0, none⟩) 1 vc] w fun e w' => ∃ A' c', e = .returned (.slice A' (L.length + 1) c') ∧ Own w' base 33 1 A' (L.length + 1) c' (insV L k x) ∧ Same (aL A) w w' ∧ ∀ g ∈ aL A', g ∈ aL A ∨ w.heap.size ≤ g := by
 have hcl := ho.cap_le
 refine enter Tryd.func34 Tryd.ntmps34 rfl (Nat.le_of_ble_eq_true rfl) ?_
 refine c_seq ?_
 refine c_region ?_
 refine wl (r_as (v := .slice _ _ _) rfl) ?_
 refine x_nil ?_
 refine e_S ?_
 refine c_seq ?_
 refine c_region ?_
 refine wl (r_mv (v := .slice _ _ _) rfl) ?_
 refine wl (r_mv (v := .int _ _) rfl) ?_
 refine wl (r_slL (l := k) Tryd.underlying67 sz33_CRi rfl rfl hk) ?_
 refine x_nil ?_
 refine e_S ?_
 refine c_seq ?_
 refine c_region ?_
 refine wl (r_mv (v := .slice _ _ _) rfl) ?_
 refine wl (r_len Tryd.underlying67 rfl) ?_
 refine wl (r_as (v := .int _ _) rfl) ?_
 refine x_nil ?_
 refine e_S ?_
 refine c_seq ?_
 refine c_seq ?_
 refine c_region ?_
 refine wl (r_mv (v := .int _ _) rfl) ?_
 refine wl (r_eql rfl rfl) ?_
 refine x_nil ?_
 refine e_S ?_
 refine c_ifd rfl (fun c16 => ?_) (fun c16 => ?_)
 ·
  exact absurd c16 (by decide)
 ·
  refine c_skip ?_
  refine e_S ?_
  refine c_seq ?_
  refine c_region ?_
  refine wl (r_mv (v := .slice _ _ _) rfl) ?_
  refine wl (r_len Tryd.underlying67 rfl) ?_
  refine wl (r_as (v := .int _ _) rfl) ?_
  refine x_nil ?_
  refine e_S ?_
  refine c_seq ?_
  refine c_seq ?_
  refine c_region ?_
  refine wl (r_mv (v := .int _ _) rfl) ?_
  refine wl (r_mv (v := .int _ _) rfl) ?_
  refine wl (r_eql rfl rfl) ?_
  refine x_nil ?_
  refine e_S ?_
  refine c_ifd rfl (fun c22 => ?_) (fun c22 => ?_)
  ·
   have hkn : k = L.length := by omega
   subst hkn
   refine c_seq ?_
   refine c_region ?_
   refine wl (r_mv (v := .slice _ _ _) rfl) ?_
   refine wl (r_mv (v := .slice _ _ _) rfl) ?_
   refine wl_app Tryd.underlying67 in33 rfl (by decide) ho hb rfl rfl rfl (by repeat (first | rfl | refine one_cons (by first | rfl | assumption) ?_)) (by decide) (by omega) (by omega) hbase (fun g25 cap25 w25 ho25 hs25 hg25 => ?_)
   refine wl (r_as (v := .slice _ _ _) rfl) ?_
   refine x_nil ?_
   refine e_S ?_
   refine c_ret ?_
   refine e_Sr ?_
   refine fin1 (.inl rfl) rfl rfl ?_
   exact ⟨_, _, rfl, ins_end ho25, hs25, fun g2 hg2 => by rw [List.mem_singleton.1 hg2]; rcases hg25 with h | h; (· left; rw [h]; exact List.mem_singleton.2 rfl); exact .inr h⟩
  ·
   have hkn : k < L.length := by omega
   obtain ⟨g, cur, rfl, hgb, hcur, hcm, hcs, hct⟩ := ho.whole (show 0 < L.length by omega)
   have hgl := hcur.lt
   have hgn : g ≠ b := hA g (List.mem_singleton.2 rfl)
   have htk := tk_len hk
   have hdr := dr_len (L := L) (k := k)
   have hct2 := hct
   rw [Nat.mul_one] at hct2
   rw [vcut L k] at hct
   refine c_skip ?_
   refine e_S ?_
   refine c_seq ?_
   refine c_seq ?_
   refine c_region ?_
   refine wl (r_mv (v := .int _ _) rfl) ?_
   refine wl (r_mv (v := .int _ _) rfl) ?_
   refine wl (r_add (c := ((L.length + 1 : Nat) : Int)) rfl rfl (by omega) (by omega)) ?_
   refine wl (r_mv (v := .slice _ _ _) rfl) ?_
   refine wl (r_cap Tryd.underlying67 rfl) ?_
   refine wl (r_gtr rfl rfl) ?_
   refine x_nil ?_
   refine e_S ?_
   refine c_ifd rfl (fun c31 => ?_) (fun c31 => ?_)
   ·
    have hroom : c < L.length + 1 := by omega
    refine c_seq ?_
    refine c_region ?_
    refine wl (r_mv (v := .slice _ _ _) rfl) ?_
    refine wl (r_mv (v := .int _ _) rfl) ?_
    refine wl (r_slH (h := k) Tryd.underlying67 sz33_CRi rfl rfl (by omega)) ?_
    refine wl (r_mv (v := .int _ _) rfl) ?_
    refine wl (r_mv (v := .int _ _) rfl) ?_
    refine wl (r_add (c := ((L.length + 1 : Nat) : Int)) rfl rfl (by omega) (by omega)) ?_
    refine wl (r_mv (v := .int _ _) rfl) ?_
    refine wl (r_sub (c := ((L.length + 1 - k : Nat) : Int)) rfl rfl (by omega) (by omega)) ?_
    refine wl_appZ2 (olds := (L.take k)) (m := k) (k := L.length + 1 - k) Tryd.underlying67 Tryd.underlying3 in33 (by omega) (by decide) (by omega) (by omega) (by omega) rfl rfl htk (fun j v hj => hcur.cell (cur_take hct hj)) (fun b40 cap40 w40 hb40 hs40 hr40 hge hle => ?_)
    have e40 : k + (L.length + 1 - k) = L.length + 1 := by omega
    rw [e40] at hge hb40 ⊢
    have hne40 : b ≠ b40 := by have := hb.lt; omega
    have hng40 : g ≠ b40 := by omega
    replace hb := hb.tr0 hs40
    replace hcur := hcur.tr0 hs40
    have hS : SameQ [b40] w40 w40 := Same.refl _ _
    obtain ⟨Zs, hZs⟩ : ∃ Zs : List Value, Zs = (Builtin.zeroCells (Value.slice none 0 0).cells (L.length + 1 - k)).toList ++ (Builtin.zeroCells (Value.slice none 0 0).cells (cap40 - (L.length + 1))).toList := ⟨_, rfl⟩
    obtain ⟨R0, hR0⟩ : ∃ R0 : Array Value, R0 = ((L.take k)).toArray ++ Builtin.zeroCells (Value.slice none 0 0).cells (L.length + 1 - k) ++ Builtin.zeroCells (Value.slice none 0 0).cells (cap40 - (L.length + 1)) := ⟨_, rfl⟩
    have hRl : R0.toList = (L.take k) ++ Zs := by rw [hR0, hZs]; simp
    have hRs : R0.size = cap40 * 1 := by
      rw [hR0]
      simp only [Array.size_append, List.size_toArray, htk, Builtin.zeroCells, Array.size_map, Array.size_range, show (Value.slice none 0 0).cells.size = 1 from rfl]
      omega
    rw [← hR0] at hb40
    clear hR0 hZs
    refine wl (r_as (v := .slice _ _ _) rfl) ?_
    refine x_nil ?_
    refine e_S ?_
    refine c_seq ?_
    refine c_region ?_
    refine wl (r_mv (v := .slice _ _ _) rfl) ?_
    refine wl (r_mv (v := .int _ _) rfl) ?_
    refine wl (r_slM (l := k) (l2 := L.length + 1 - k) Tryd.underlying67 sz33_CRi rfl rfl (by omega) (by omega) (by omega)) ?_
    refine wl (r_mv (v := .slice _ _ _) rfl) ?_
    refine wl_cp (m := 1) (cs := [x]) Tryd.underlying67 sz33_CRi rfl rfl hb40 (by simp only [Nat.min_def]; split <;> omega) rfl (fun j v hj => by rw [Addr.add_mid, Nat.zero_add]; exact hb.cell (by simpa using hj)) (by rw [hRs]; simp only [List.length_cons, List.length_nil]; omega) (fun v hv => by rw [List.mem_singleton.1 hv]; exact hx1) (fun w45 hb45 hs45 => ?_)
    replace hb := hb.tr1 hs45 hne40
    replace hcur := hcur.tr1 hs45 hng40
    replace hS := SameQ.trans hS hs45 (by simp)
    have hR1 : (cpy R0 (0 + k * 1) ([x])).size = cap40 * 1 := by rw [cpy_size (by rw [hRs]; simp only [List.length_cons, List.length_nil]; omega), hRs]
    refine x_nil ?_
    refine e_S ?_
    refine c_seq ?_
    refine c_tail 8 (by kernel_rfl) (by kernel_rfl) (fun w1 hs => ?_)
    replace hb := hb.tr0 hs
    replace hcur := hcur.tr0 hs
    replace hb45 := hb45.tr0 hs
    replace hS := SameQ.trans hS hs (by simp)
    clear hs
    refine ws (r_mv (v := .slice _ _ _) rfl) ?_
    refine ws (r_mv (v := .int _ _) rfl) ?_
    refine ws (r_mv (v := .int _ _) rfl) ?_
    refine ws (r_add (c := ((k + 1 : Nat) : Int)) rfl rfl (by omega) (by omega)) ?_
    refine ws (r_slM (l := k + 1) (l2 := L.length - k) Tryd.underlying67 sz33_CRi rfl rfl (by omega) (by omega) (by omega)) ?_
    refine ws (r_mv (v := .slice _ _ _) rfl) ?_
    refine ws (r_mv (v := .int _ _) rfl) ?_
    refine ws (r_slM (l := k) (l2 := L.length - k) Tryd.underlying67 sz33_CRi rfl rfl (by omega) (by omega) (by omega)) ?_
    refine s_tail ?_
    refine wl_cp (m := L.length - k) (cs := (L.drop k)) Tryd.underlying67 sz33_CRi rfl rfl hb45 (by simp only [Nat.min_def]; split <;> omega) hdr (fun j v hj => by
      rw [Addr.add_mid]
      have h := cur_drop hct hj
      rw [htk] at h
      exact hcur.cell (by rw [Nat.zero_add]; exact h)) (by rw [hR1, hdr]; omega) (fun v hv => hL1 v (List.mem_of_mem_drop hv)) (fun w54 hb54 hs54 => ?_)
    replace hS := SameQ.trans hS hs54 (by simp)
    refine x_nil ?_
    refine e_S ?_
    refine c_seq ?_
    refine c_region ?_
    refine wl (r_mv (v := .slice _ _ _) rfl) ?_
    refine wl (r_as (v := .slice _ _ _) rfl) ?_
    refine x_nil ?_
    refine e_S ?_
    refine c_ret ?_
    refine e_Sr ?_
    refine fin1 (.inl rfl) rfl rfl ?_
    exact ⟨_, _, rfl, ins_new hb54 hRl hRs hge hle (Nat.le_trans hbase hr40) hk, (hs40.freshL (show Same [b40] _ _ from hS) (fun g hg => .inr (by rw [List.mem_singleton.1 hg]; exact hr40))).weak (by simp), fun g2 hg2 => .inr (by rw [List.mem_singleton.1 hg2]; exact hr40)⟩
   ·
    have hroom : L.length + 1 ≤ c := by omega
    refine c_skip ?_
    refine e_S ?_
    refine c_seq ?_
    refine c_region ?_
    refine wl (r_mv (v := .slice _ _ _) rfl) ?_
    refine wl (r_mv (v := .int _ _) rfl) ?_
    refine wl (r_mv (v := .int _ _) rfl) ?_
    refine wl (r_add (c := ((L.length + 1 : Nat) : Int)) rfl rfl (by omega) (by omega)) ?_
    refine wl (r_slH (h := (L.length + 1)) Tryd.underlying67 sz33_CRi rfl rfl hroom) ?_
    refine wl (r_as (v := .slice _ _ _) rfl) ?_
    refine x_nil ?_
    refine e_S ?_
    refine c_seq ?_
    refine c_seq ?_
    refine c_region ?_
    refine wl (r_mv (v := .slice _ _ _) rfl) ?_
    refine wl (r_mv (v := .slice _ _ _) rfl) ?_
    refine wl (r_mv (v := .int _ _) rfl) ?_
    refine wl (r_mv (v := .int _ _) rfl) ?_
    refine wl (r_add (c := ((k + 1 : Nat) : Int)) rfl rfl (by omega) (by omega)) ?_
    refine wl (r_slM (l := k + 1) (l2 := L.length - k) Tryd.underlying67 sz33_CRi rfl rfl (by omega) (by omega) (by omega)) ?_
    refine wl (r_ext (ovl_any hb hcur (fun e => hgn e.symm) (by omega)) rfl) ?_
    refine wl (r_not rfl) ?_
    refine x_nil ?_
    refine e_S ?_
    refine c_if rfl (fun c68 => ?_) (fun c68 => ?_)
    ·
     have hS : SameQ [g] w w := Same.refl _ _
     refine c_seq ?_
     refine c_tail 8 (by kernel_rfl) (by kernel_rfl) (fun w2 hs => ?_)
     replace hb := hb.tr0 hs
     replace hcur := hcur.tr0 hs
     replace hS := SameQ.trans hS hs (by simp)
     clear hs
     refine ws (r_mv (v := .slice _ _ _) rfl) ?_
     refine ws (r_mv (v := .int _ _) rfl) ?_
     refine ws (r_mv (v := .int _ _) rfl) ?_
     refine ws (r_add (c := ((k + 1 : Nat) : Int)) rfl rfl (by omega) (by omega)) ?_
     refine ws (r_slM (l := k + 1) (l2 := L.length - k) Tryd.underlying67 sz33_CRi rfl rfl (by omega) (by omega) (by omega)) ?_
     refine ws (r_mv (v := .slice _ _ _) rfl) ?_
     refine ws (r_mv (v := .int _ _) rfl) ?_
     refine ws (r_slM (l := k) (l2 := L.length + 1 - k) Tryd.underlying67 sz33_CRi rfl rfl (by omega) (by omega) (by omega)) ?_
     refine s_tail ?_
     refine wl_cp (m := L.length - k) (cs := (L.drop k)) Tryd.underlying67 sz33_CRi rfl rfl hcur (by simp only [Nat.min_def]; split <;> omega) hdr (fun j v hj => by
       rw [Addr.add_mid]
       have h := cur_drop hct hj
       rw [htk] at h
       exact hcur.cell (by rw [Nat.zero_add]; exact h)) (by rw [hcs, hdr]; omega) (fun v hv => hL1 v (List.mem_of_mem_drop hv)) (fun w77 hb77 hs77 => ?_)
     replace hS := SameQ.trans hS hs77 (by simp)
     replace hb := hb.tr1 hs77 (fun e => hgn e.symm)
     have hR1 : (cpy cur (0 + (k + 1) * 1) ((L.drop k))).size = c * 1 := by rw [cpy_size (by rw [hcs, hdr]; omega), hcs]
     refine x_nil ?_
     refine e_S ?_
     refine c_seq ?_
     refine c_region ?_
     refine wl (r_mv (v := .slice _ _ _) rfl) ?_
     refine wl (r_mv (v := .int _ _) rfl) ?_
     refine wl (r_slM (l := k) (l2 := L.length + 1 - k) Tryd.underlying67 sz33_CRi rfl rfl (by omega) (by omega) (by omega)) ?_
     refine wl (r_mv (v := .slice _ _ _) rfl) ?_
     refine wl_cp (m := 1) (cs := [x]) Tryd.underlying67 sz33_CRi rfl rfl hb77 (by simp only [Nat.min_def]; split <;> omega) rfl (fun j v hj => by rw [Addr.add_mid, Nat.zero_add]; exact hb.cell (by simpa using hj)) (by rw [hR1]; simp only [List.length_cons, List.length_nil]; omega) (fun v hv => by rw [List.mem_singleton.1 hv]; exact hx1) (fun w82 hb82 hs82 => ?_)
     replace hS := SameQ.trans hS hs82 (by simp)
     refine x_nil ?_
     refine e_S ?_
     refine c_seq ?_
     refine c_region ?_
     refine wl (r_mv (v := .slice _ _ _) rfl) ?_
     refine wl (r_as (v := .slice _ _ _) rfl) ?_
     refine x_nil ?_
     refine e_S ?_
     refine c_ret ?_
     refine e_Sr ?_
     refine fin1 (.inl rfl) rfl rfl ?_
     exact ⟨_, _, rfl, ins_move hb82 (by rw [Nat.mul_one]; exact hct2) hcs hroom hcm hgb hk, by simpa [aL, SameQ] using hS, fun g2 hg2 => .inl hg2⟩
    ·
     exact absurd c68 (by decide)
end Go.Proofs.YtahdbbgkgokkhaaDoor
