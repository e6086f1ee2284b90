/- What these functions of the program compute, at every world: glosswright/glosswrightref3.Joined. -/
import Derived.Test.YteoncmfiiknfbaaDoorU
import Derived.Test.YteoncmfiiknfbaaDoorRMeet
import Derived.Test.YteoncmfiiknfbaaDoorEng3
import Derived.Test.YteoncmfiiknfbaaDoorTurn
import Derived.Test.YteoncmfiiknfbaaDoorPool
import Derived.Test.YteoncmfiiknfbaaDoorUAll
namespace Go.Proofs.YteoncmfiiknfbaaDoor
open Go.RowKit
def VA (gs : List (List Nd)) (k : Nat) : List Nd := (gs.take k).foldl addU []
theorem VA_zero (gs : List (List Nd)) : VA gs 0 = [] := rfl
theorem VA_succ {gs : List (List Nd)} {k : Nat} (hk : k < gs.length) : VA gs (k + 1) = VA gs k ++ (gs[k]).map (shN (VA gs k).length) := by
  unfold VA
  rw [List.take_succ_eq_append_getElem hk, List.foldl_append]
  rfl
theorem VA_le {gs : List (List Nd)} : ∀ (d : Nat) {k : Nat}, k + d ≤ gs.length → (VA gs k).length ≤ (VA gs (k + d)).length
  | 0, _, _ => Nat.le_refl _
  | d + 1, k, h => by
    have := VA_le (gs := gs) d (k := k) om
    rw [show k + (d + 1) = (k + d) + 1 by omega, VA_succ om, List.length_append]; omega
theorem VA_lt {gs : List (List Nd)} (hp : ∀ i (hi : i < gs.length), 0 < (gs[i]).length) {k : Nat} (hk : k < gs.length) : (VA gs k).length < (VA gs gs.length).length := by
  have h := VA_le (gs := gs) (gs.length - (k + 1)) (k := k + 1) om
  rw [show k + 1 + (gs.length - (k + 1)) = gs.length by omega] at h
  have h2 : (VA gs (k + 1)).length = (VA gs k).length + (gs[k]).length := by rw [VA_succ hk, List.length_append, List.length_map]
  have := hp k hk
  omega
theorem VA_gy {l : List Ty} {gs : List (List Nd)} (h : ∀ i (hi : i < gs.length), GY l gs[i]) : ∀ k, k < gs.length → GY l (VA gs (k + 1))
  | 0, hk => by
    rw [VA_succ hk, VA_zero, List.nil_append, List.length_nil, shN_zero]
    exact h 0 hk
  | k + 1, hk => by
    rw [VA_succ hk]
    exact add_gy (VA_gy h k om) (h (k + 1) hk)
theorem VA_feat {nf : Nat} {gs : List (List Nd)} (h : ∀ i (hi : i < gs.length), ∀ j, j < (gs[i]).length → ∀ z ∈ (nd (gs[i]) j).ln, 0 ≤ z.1 ∧ z.1 < nf) : ∀ k, k ≤ gs.length → ∀ i, i < (VA gs k).length → ∀ z ∈ (nd (VA gs k) i).ln, 0 ≤ z.1 ∧ z.1 < nf
  | 0, _ => fun i hi => by rw [VA_zero] at hi; exact absurd hi (Nat.not_lt_zero _)
  | k + 1, hk => by
    rw [VA_succ om]
    exact two_feat (VA_feat h k om) (h k om)
def PA (gs : List (List Nd)) (ats : List Nat) : List (Nat × Nat) := (List.range ats.length).map (fun k => (ats.getD k 0, (VA gs (k + 1)).length))
theorem PA_len (gs : List (List Nd)) (ats : List Nat) : (PA gs ats).length = ats.length := by simp [PA]
theorem PA_get {gs : List (List Nd)} {ats : List Nat} {k : Nat} (hk : k < ats.length) : (PA gs ats)[k]'(by rw [PA_len]; exact hk) = (ats[k], (VA gs (k + 1)).length) := by simp [PA, List.getD, hk]
def stV (gs : List (List Nd)) (k : Nat) : List Value := (List.range k).map (fun i => Value.int .i64 (((VA gs i).length : Nat) : Int))
theorem stV_succ (gs : List (List Nd)) (k : Nat) : stV gs k ++ [Value.int .i64 (((VA gs k).length : Nat) : Int)] = stV gs (k + 1) := by simp [stV, List.range_succ]
theorem st_get {w : World} {base g k cap : Nat} {gs : List (List Nd)} (h : Own w base 3 1 (some ⟨g, 0, none⟩) k cap (stV gs k)) {i : Nat} (hi : i < k) : w.cell? ⟨g, 0 + i * 1, none⟩ = some (.int .i64 (((VA gs i).length : Nat) : Int)) := by
  have h1 : (stV gs k)[i]? = some (.int .i64 (((VA gs i).length : Nat) : Int)) := by simp [stV, hi]
  obtain ⟨q, e, _, _, h2⟩ := h.cell (fun e => by rw [e] at h1; cases h1)
  cases e
  have := h2 i _ h1
  simpa using this
def tyV (D : List Nd) (x : Nat) : Value := .int .i64 (nd D x).ty
theorem nd_last (D : List Nd) (y : Nd) : nd (D ++ [y]) D.length = y := by simp [nd, List.getD]
theorem nl_snoc {w : World} {base cap : Nat} {A : Option Addr} {V : Nat → Value} {D : List Nd} {y : Nd} {v : Value} (h : Own w base 55 2 A (D.length + 1) cap (ndV (tyV D) V D.length ++ [.int .i64 y.ty, v])) : Own w base 55 2 A (D ++ [y]).length cap (ndV (tyV (D ++ [y])) (putV V D.length v) (D ++ [y]).length) := by
  have hl : (D ++ [y]).length = D.length + 1 := by simp
  rw [hl, ndV_snoc, ndV_congr (f' := tyV D) (h' := V) (fun x hx => by unfold tyV; rw [nd_left hx]) (fun x hx => by unfold putV; rw [if_neg om])]
  have e1 : tyV (D ++ [y]) D.length = .int .i64 y.ty := by unfold tyV; rw [nd_last]
  have e2 : putV V D.length v D.length = v := by simp [putV]
  rw [e1, e2]; exact h
theorem rows_snoc {w : World} {lo bs bs2 : Nat} {V : Nat → Value} {D : List Nd} {y : Nd} {v : Value} (h : ∀ x, x < D.length → RowO w lo bs (V x) (nd D x).ln) (hv : RowO w lo bs2 v y.ln) (hb : bs ≤ w.heap.size) (hb2 : bs2 ≤ w.heap.size) : ∀ x, x < (D ++ [y]).length → RowO w lo w.heap.size (putV V D.length v x) (nd (D ++ [y]) x).ln := fun x hx => by
  by_cases e : x = D.length
  · subst e
    simp only [putV, if_true]
    rw [nd_last]; exact hv.up hb2
  · have hl : x < D.length := by simp at hx; omega
    simp only [putV, if_neg e]
    rw [nd_left hl]; exact (h x hl).up hb
theorem app_take {D g : List Nd} {s j : Nat} (hj : j < g.length) : D ++ (g.take (j + 1)).map (shN s) = (D ++ (g.take j).map (shN s)) ++ [shN s g[j]] := by
  rw [List.take_succ_eq_append_getElem hj, List.map_append, List.append_assoc]; rfl
theorem shL_take {n : Nat} {xs : List (Int × Int)} {q : Nat} (hq : q < xs.length) : lnV (shL n (xs.take q)) ++ [.int .i64 (xs[q]).1, .int .i64 ((xs[q]).2 + (n : Int))] = lnV (shL n (xs.take (q + 1))) := by
  rw [List.take_succ_eq_append_getElem hq]
  unfold shL
  rw [List.map_append, List.map_cons, List.map_nil, ← lnV_snoc]
def RW (n : Nat) (rep : Nat → Nat) : Array Value := row n (fun x => .int .i64 ((rep x : Nat) : Int))
theorem RW_get {n i : Nat} {rep : Nat → Nat} (hi : i < n) : (RW n rep)[0 + i * 1]? = some (.int .i64 ((rep i : Nat) : Int)) := row_get hi
def chN (b : Bool) : Nat := bif b then 1 else 0
theorem jp_meas {l : List Ty} {U : List Nd} {J : List (Nat × Nat)} {r0 rep : Nat → Nat} {k i j : Nat} {ch : Bool} (h : JP l U J k r0 rep ch i j) : 2 * roots U.length rep + chN ch < 2 * roots U.length r0 + chN true := by
  have h1 := h.le
  cases ch with
  | true => have := h.less rfl; simp only [chN, cond_true]; omega
  | false => simp only [chN, cond_true, cond_false]; omega
def mgG (n : Nat) (rep : Nat → Nat) (T : Nat → Int) (L : Nat → List (Int × Int)) : List Nd := (List.range n).map (fun i => ⟨T i, rpL rep (L i)⟩)
theorem mgG_len (n : Nat) (rep : Nat → Nat) (T : Nat → Int) (L : Nat → List (Int × Int)) : (mgG n rep T L).length = n := by simp [mgG]
theorem mgG_get {n : Nat} {rep : Nat → Nat} {T : Nat → Int} {L : Nat → List (Int × Int)} {i : Nat} (hi : i < n) : (mgG n rep T L)[i]'(by rw [mgG_len]; exact hi) = ⟨T i, rpL rep (L i)⟩ := by simp [mgG]
theorem mg_nodes {w : World} {b n lo bs : Nat} {rep : Nat → Nat} {T : Nat → Int} {V : Nat → Value} {L : Nat → List (Int × Int)} (hb : Blk w b 55 (row2 n (fun x => .int .i64 (T x)) V)) (hn : n ≤ 1000000) (hr : ∀ x, x < n → RowO w lo bs (V x) (rpL rep (L x))) : NodesIn w (some ⟨b, 0, none⟩) (mgG n rep T L) :=
  nodes_row2 hb (mgG_len _ _ _ _) (by unfold maxI; omega) (fun k hk => by
    have hk2 : k < n := by rw [mgG_len] at hk; exact hk
    rw [mgG_get hk2]) (fun k hk => by
    have hk2 : k < n := by rw [mgG_len] at hk; exact hk
    rw [mgG_get hk2]; exact hr k hk2)
theorem mg_pool {l : List Ty} {U : List Nd} {J : List (Nat × Nat)} {rep : Nat → Nat} {seen : Nat → Bool} {T : Nat → Int} {L : Nat → List (Int × Int)} {it il q : Nat} (hc : ∀ i, i < U.length → rep (rep i) = rep i) (h : MJ l U J rep seen T L it il q) : mgG U.length rep T L = poolG U.length rep T L := by
  unfold mgG poolG
  refine List.map_congr_left (fun i _ => ?_)
  by_cases e : rep i = i
  · rw [if_pos e]; rfl
  · have hL : L i = [] := by
      refine List.eq_nil_iff_forall_not_mem.2 (fun x hx => ?_)
      obtain ⟨u, hu, hr, _⟩ := h.val i x hx
      have := hc u hu
      rw [hr] at this; exact e this
    rw [if_neg e, hL]; rfl
theorem rtn_any {w : World} {b n c i : Nat} {f : Int} {rep : Nat → Nat} {T : Nat → Int} {L : Nat → List (Int × Int)} (hG : NodesIn w (some ⟨b, 0, none⟩) (mgG n rep T L)) (hi : i < n) : Calls Tryd.prog 48 #[.agg #[.slice (some ⟨b, 0, none⟩) n c], .int .i64 i, .int .i64 f] w fun e w' => e = .returned (.int .i64 (tgt (rpL rep (L i)) f)) ∧ Bel w w' := by
  have h := rtarget_any (some ⟨b, 0, none⟩) c (mgG n rep T L) i f w hG (by rw [mgG_len]; exact hi)
  rw [mgG_get hi, mgG_len] at h
  exact h
theorem rfromn_any (G : Option Addr) (cg nf : Nat) (gr : List Nd) (r n : Nat) (w : World) (hG : NodesIn w G gr) (hn : gr.length = n) (hk : GOk2 nf gr) (hnf : nf ≤ 1000) (hr : r < gr.length) : Calls Tryd.prog 39 #[.agg #[.slice G n cg], .int .i64 r] w fun e w' => (∃ o A c, DL gr [r] [] o ∧ OOk gr.length o ∧ e = .returned (.agg #[.slice A o.length c]) ∧ (∀ w2, FrSame w.heap.size w' w2 → NodesIn w2 A (canG gr o))) ∧ Bel w w' := by
  subst hn; exact rfrom2_any G cg nf gr r w hG hk hnf hr
theorem rowo_at {w : World} {lo bs n c : Nat} {A : Option Addr} {rep : Nat → Nat} {L : List (Int × Int)} (h : RowO w lo bs (.slice A n c) (rpL rep L)) {k : Nat} (hk : k < L.length) : ∃ g, A = some ⟨g, 0, none⟩ ∧ w.cell? ⟨g, 0 + k * 2 + 0, none⟩ = some (.int .i64 (L.getD k (0, 0)).1) := by
  obtain ⟨_, ho, _⟩ := h.own
  have hk2 : k < (rpL rep L).length := by rw [rpL_len]; exact hk
  have h1 := (lnV_get (rpL rep L) k hk2).1
  obtain ⟨g, e, _, _, hc⟩ := ho.cell (fun e => by rw [e] at h1; cases h1)
  refine ⟨g, e, ?_⟩
  have h2 := hc _ _ h1
  have e1 : ((rpL rep L)[k]).1 = (L.getD k (0, 0)).1 := by simp [rpL, List.getD, hk]
  rw [e1] at h2
  simpa using h2
theorem int_nat {x : Int} (h : 0 ≤ x) : ∃ n : Nat, x = (n : Int) := ⟨x.toNat, by omega⟩
theorem low_get {L : List (Int × Int)} {k : Nat} {z : Int} (h : ∀ u (hu : u < L.length), u < k → (L[u]).1 < z) (hk : k < L.length ∧ (L.getD k (0, 0)).1 < z) : ∀ u (hu : u < L.length), u < k + 1 → (L[u]).1 < z := fun u hu hk1 => by
  by_cases e : u = k
  · subst e; have := hk.2; simpa [List.getD, hu] using this
  · exact h u hu om
theorem low_end {L : List (Int × Int)} {k : Nat} {z : Int} (h : ¬ (k < L.length ∧ (L.getD k (0, 0)).1 < z)) : ∀ hk : k < L.length, ¬ (L[k]).1 < z := fun hk h2 => h ⟨hk, by simpa [List.getD, hk] using h2⟩
theorem ret_join {A : Option Addr} {n c : Nat} {X : List Nd} (h : X.length = n) : Ending.returned (.tuple #[.agg #[.slice A n c], .bool true]) = .returned (.tuple #[.agg #[.slice A X.length c], .bool true]) := by rw [h]
theorem ro_nil (w : World) (lo bs : Nat) : RowO w lo bs (.slice none 0 0) [] := ⟨none, 0, rfl, Own.nil _ _ _ _, fun g hg => by cases hg⟩
theorem fn46 : callable Tryd.prog 46 = true := by kernel_rfl
theorem fn47 : callable Tryd.prog 47 = true := by kernel_rfl
theorem fn48 : callable Tryd.prog 48 = true := by kernel_rfl
theorem fn49 : callable Tryd.prog 49 = true := by kernel_rfl
theorem fn50 : callable Tryd.prog 50 = true := by kernel_rfl
set_option maxRecDepth 100000 in
set_option maxHeartbeats 16000000 in
theorem joined_any (A B LA AT : Option Addr) (c d lc ac nf : Nat) (l : List Ty) (fs : List Ft) (gs : List (List Nd)) (ats : List Nat) (w : World) (hT : TypesIn w A l) (hL : GrsIn w LA gs) (hAT : IntsIn w AT (ats.map (fun n => ((n : Nat) : Int)))) (hS : Sound l) (hgs : ∀ i (hi : i < gs.length), GY l gs[i]) (hUf : ∀ i (hi : i < gs.length), ∀ j, j < (gs[i]).length → ∀ z ∈ (nd (gs[i]) j).ln, 0 ≤ z.1 ∧ z.1 < nf) (hnf : nf ≤ 1000) (hgl6 : gs.length ≤ 1000000) (hn6 : (VA gs gs.length).length ≤ 1000000) (hp : 0 < gs.length) (hat : ats.length < gs.length) (hatr : ∀ k (hk : k < ats.length), ats[k] < (gs[0]'hp).length) : Calls Tryd.prog 22 #[.agg #[.slice A l.length c, .slice B fs.length d], .slice LA gs.length lc, .slice AT ats.length ac] w fun e w' => (∃ AX X cX ok, e = .returned (.tuple #[.agg #[.slice AX (List.length X) cX], .bool ok]) ∧ (∀ w2, FrSame w.heap.size w' w2 → NodesIn w2 AX X) ∧ ((ok = true ∧ UniR l (VA gs gs.length) (PA gs ats) X) ∨ (ok = false ∧ X = [] ∧ ¬ Bound l (VA gs gs.length) (PA gs ats)))) ∧ Bel w w' := by
 have hLm := hL.1
 have hAm := hAT.1
 rw [List.length_map] at hAm
 have hgp : ∀ i (hi : i < gs.length), 0 < (gs[i]).length := fun i hi => (hgs i hi).pos
 unfold maxI at hLm hAm
 refine enter Tryd.func22 Tryd.ntmps22 rfl (Nat.le_of_ble_eq_true rfl) ?_
 have hB : Bel w w := Below.refl _ _
 refine c_seq (c_region ?_)
 refine wl_bx (v := .agg #[_, _]) (cs := #[_, _]) rfl rfl (fun b3 w1 hb3 hs hr => ?_)
 have lo3 := lT (Bel.size hB) hr
 replace hB := hB.tr0 hs
 clear hs
 clear hr
 refine wl_al (cs := #[.slice none 0 0]) ze28 rfl (fun b6 w2 hb6 hs hr => ?_)
 have or_b3_b6 : b3 < b6 := lL hb3.lt hr
 have lo6 := lT (Bel.size hB) hr
 replace hB := hB.tr0 hs
 replace hb3 := hb3.tr0 hs
 clear hs
 clear hr
 refine waB rfl (x_nil (e_S (c_seq (c_region (waS rfl ?_)))))
 refine x_nil (e_S (c_seq (c_region (waS rfl (x_nil ?_)))))
 refine e_S (c_seq (c_seq (c_region (wmS rfl (wl (r_len U35 rfl) ?_)))))
 refine wmI rfl (x_nil (e_S (c_block ?_)))
 refine c_loopS [8, 9, 11, 13, 14, 16, 41, 42, 43, 44, 45, 46, 47, 48, 49, 50, 51, 52, 53, 54, 55, 56, 57, 58, 59, 60, 61, 62, 63, 64, 65, 66, 67, 68, 69, 70, 71, 72, 73, 74, 75, 76, 77, 78, 79, 80, 81, 82, 83, 84, 85, 86, 87, 88, 89, 90] (fun m g w' => ∃ (k : Nat) (A8 A9 : Option Addr) (cap8 cap9 : Nat) (V : Nat → Value), k ≤ gs.length ∧ m = gs.length - k ∧ g 41 = .int .i64 k ∧ g 8 = .slice A8 (VA gs k).length cap8 ∧ g 9 = .slice A9 k cap9 ∧ Bel w w' ∧ Blk w' b3 25 #[.slice A l.length c, .slice B fs.length d] ∧ (∃ z, Blk w' b6 28 #[z]) ∧ Own w' (b6 + 1) 3 1 A9 k cap9 (stV gs k) ∧ Own w' (b6 + 1) 55 2 A8 (VA gs k).length cap8 (ndV (tyV (VA gs k)) V (VA gs k).length) ∧ (∀ x, x < (VA gs k).length → RowO w' w.heap.size w'.heap.size (V x) (nd (VA gs k) x).ln)) (gs.length) ?_ (fun m g4 w3 hI => ?_)
 ·
  exact ⟨0, none, none, 0, 0, fun _ => .slice none 0 0, Nat.zero_le _, rfl, rfl, rfl, rfl, hB, hb3, ⟨_, hb6⟩, Own.nil _ _ _ _, Own.nil _ _ _ _, fun x hx => absurd hx (Nat.not_lt_zero _)⟩
 obtain ⟨k, A8, A9, cap8, cap9, V, hk, hm, h41, h8, h9, hB, hb3, ⟨z6, hb6⟩, ho9, ho8, hrw⟩ := hI
 obtain ⟨bs, hbse⟩ : ∃ b, b = w3.heap.size := ⟨_, rfl⟩
 rw [← hbse] at hrw
 have hbz : bs ≤ w3.heap.size := Nat.le_of_eq hbse
 refine c_know 41 (.int .i64 k) h41 nu (c_know 8 (.slice A8 (VA gs k).length cap8) h8 nu (c_know 9 (.slice A9 k cap9) h9 nu (c_seq (c_region (wl (r_lss rfl rfl) ?_)))))
 refine x_nil (e_S (c_seq ?_))
 refine c_ifd rfl (fun c42 => ?_) (fun c42 => ?_)
 ·
  have hlt : k < gs.length := by omega
  obtain ⟨gb, go, GA, gc, rfl, hgr, hgn⟩ := hL.at_ hB hlt
  have hkU := VA_lt hgp hlt
  have hgy := hgs k hlt
  have hgm := hgn.1
  unfold maxI at hgm
  refine c_skip (e_S (c_seq (c_block (c_seq (c_region ?_)))))
  refine wl (r_ia (i := k) U35 sz28_UAll rfl rfl hlt rfl) (wl (r_ldS U28 rfl rfl hgr sz28_UAll) ?_)
  refine wl_al (cs := #[.slice none 0 0]) ze28 rfl (fun b11 w4 hb11 hs hr => ?_)
  have or_b3_b11 : b3 < b11 := lL hb3.lt hr
  have or_b6_b11 : b6 < b11 := lL hb6.lt hr
  have or_ho9_b11 := (fun (g : Nat) hg => lL (ho9.lt g hg).2 hr)
  have or_ho8_b11 := (fun (g : Nat) hg => lL (ho8.lt g hg).2 hr)
  have or_hbz_b11 := (lT hbz hr)
  have lo11 := lT (Bel.size hB) hr
  replace hB := hB.tr0 hs
  replace hb3 := hb3.tr0 hs
  replace hb6 := hb6.tr0 hs
  replace ho9 := ho9.tr0 hs
  replace ho8 := ho8.tr0 hs
  replace hrw := fun x hx => (hrw x hx).tr hs (by simp)
  replace hbz := lT hbz (Same.size hs)
  clear hs
  clear hr
  refine wl_stW hb11 rfl rfl sz28_UAll rfl oneA (fun w5 hq hs => ?_)
  replace hB := hB.tr1 hs lo11
  replace hb3 := hb3.tr1 hs om
  replace hb6 := hb6.tr1 hs om
  replace ho9 := ho9.tr1 hs (fun g hg => by have := (ho9.lt g hg).1; (try have := or_ho9_b11 g hg); omega)
  replace ho8 := ho8.tr1 hs (fun g hg => by have := (ho8.lt g hg).1; (try have := or_ho8_b11 g hg); omega)
  replace hrw := fun x hx => (hrw x hx).tr hs (fun g hg => by rw [List.mem_singleton.1 hg]; first | exact .inr ⟨_, _, hb11, by decide⟩ | exact .inl om)
  replace hbz := lT hbz (Same.size hs)
  clear hs
  replace hb11 := hq
  refine x_nil (e_S (c_seq (c_region (wmS rfl (wmS rfl ?_)))))
  refine wl (r_len U26 rfl) ?_
  refine wl_bs (cs := #[_]) [(0, .int _ _)] rfl U51 sz3_UAll ze3_SFind dE dE kR rfl (fun b48 w6 hb48 hs hr => ?_)
  have or_b3_b48 : b3 < b48 := lL hb3.lt hr
  have or_b6_b48 : b6 < b48 := lL hb6.lt hr
  have or_ho9_b48 := (fun (g : Nat) hg => lL (ho9.lt g hg).2 hr)
  have or_ho8_b48 := (fun (g : Nat) hg => lL (ho8.lt g hg).2 hr)
  have or_hbz_b48 := (lT hbz hr)
  have or_b11_b48 : b11 < b48 := lL hb11.lt hr
  have lo48 := lT (Bel.size hB) hr
  replace hB := hB.tr0 hs
  replace hb3 := hb3.tr0 hs
  replace hb6 := hb6.tr0 hs
  replace ho9 := ho9.tr0 hs
  replace ho8 := ho8.tr0 hs
  replace hrw := fun x hx => (hrw x hx).tr hs (by simp)
  replace hbz := lT hbz (Same.size hs)
  replace hb11 := hb11.tr0 hs
  clear hs
  clear hr
  refine wl_app U51 in3_SFind rfl dE ho9 hb48 rfl rfl rfl oneA dE om om (Nat.succ_le_of_lt hb6.lt) (fun g49 cap49 w7 ho49 hs hg => ?_)
  have ne_ho49_b3 : g49 ≠ b3 := fun e => by
   have hl := hb3.lt
   rcases hg with hg | hg
   · have h1 := ho9.lt g49 (by rw [hg]; exact List.mem_singleton.2 rfl)
     (try have := or_ho9_b3 g49 (by rw [hg]; exact List.mem_singleton.2 rfl)); omega
   · omega
  have ne_ho49_b6 : g49 ≠ b6 := fun e => by
   have hl := hb6.lt
   rcases hg with hg | hg
   · have h1 := ho9.lt g49 (by rw [hg]; exact List.mem_singleton.2 rfl)
     (try have := or_ho9_b6 g49 (by rw [hg]; exact List.mem_singleton.2 rfl)); omega
   · omega
  have ne_ho49_b11 : g49 ≠ b11 := fun e => by
   have hl := hb11.lt
   rcases hg with hg | hg
   · have h1 := ho9.lt g49 (by rw [hg]; exact List.mem_singleton.2 rfl)
     (try have := or_ho9_b11 g49 (by rw [hg]; exact List.mem_singleton.2 rfl)); omega
   · omega
  replace hB := hB.tr hs (fun g hg => lT (Nat.le_succ_of_le lo6) (ho9.lt g hg).1)
  replace hb3 := hb3.tr hs (fun hx => by have := (ho9.lt _ hx).1; (try have := or_ho9_b3 _ hx); omega)
  replace hb6 := hb6.tr hs (fun hx => by have := (ho9.lt _ hx).1; (try have := or_ho9_b6 _ hx); omega)
  replace ho8 := ho8.tr hs (fun g hg hx => own_ne ho8 ho9 dE g hg hx)
  replace hrw := fun x hx => (hrw x hx).tr hs (fun g hg => by first | exact .inl (by have := ((ho9).lt g hg).1; omega) | (obtain ⟨cs, h⟩ := (ho9).typ g hg; exact .inr ⟨_, _, h, by decide⟩))
  replace hbz := lT hbz (Same.size hs)
  replace hb11 := hb11.tr hs (fun hx => by have := (ho9.lt _ hx).1; (try have := or_ho9_b11 _ hx); omega)
  replace ho49 : Own w7 (b6 + 1) 3 1 (some ⟨g49, 0, none⟩) (k + 1) cap49 (stV gs (k + 1)) := by rw [← stV_succ]; exact ho49
  have ho9 := ho49
  refine waS rfl (x_nil (e_S (c_seq (c_region (wl (r_fa U28 sz26 dE rfl rfl rfl) ?_)))))
  refine wl (r_ld1 (v := .slice _ _ _) U26 rfl rfl (hb11.cell rfl)) (wl (r_len U26 rfl) (wmI rfl (x_nil (e_S (c_block ?_)))))
  refine c_loopS [8, 13, 14, 16, 53, 54, 55, 56, 57, 58, 59, 60, 61, 62, 63, 64, 65, 66, 67, 68, 69, 70, 71, 72, 73, 74, 75, 76, 77, 78, 79, 80, 81, 82, 83, 84, 85, 86, 87, 88, 89] (fun m g w' => ∃ (j : Nat) (A8 : Option Addr) (cap8 : Nat) (V : Nat → Value) (D : List Nd), j ≤ (gs[k]'hlt).length ∧ m = (gs[k]'hlt).length - j ∧ D = (VA gs k ++ ((gs[k]'hlt).take j).map (shN (VA gs k).length)) ∧ g 53 = .int .i64 j ∧ g 8 = .slice A8 D.length cap8 ∧ Bel w w' ∧ Blk w' b3 25 #[.slice A l.length c, .slice B fs.length d] ∧ (∃ z, Blk w' b6 28 #[z]) ∧ Own w' (b6 + 1) 3 1 (some ⟨g49, 0, none⟩) (k + 1) cap49 (stV gs (k + 1)) ∧ Own w' (b6 + 1) 55 2 A8 D.length cap8 (ndV (tyV D) V D.length) ∧ (∀ x, x < D.length → RowO w' w.heap.size w'.heap.size (V x) (nd D x).ln)) ((gs[k]'hlt).length) ?_ (fun m g8 w8 hI => ?_)
  ·
   exact ⟨0, A8, cap8, V, VA gs k, Nat.zero_le _, rfl, by simp, rfl, rfl, hB, hb3, ⟨_, hb6⟩, ho9, ho8, fun x hx => (hrw x hx).up hbz⟩
  obtain ⟨j, A8, cap8, V, D, hj, hmj, hDe, h53, h8, hB, hb3, ⟨z6, hb6⟩, ho9, ho8, hrw⟩ := hI
  obtain ⟨bs, hbse⟩ : ∃ b, b = w8.heap.size := ⟨_, rfl⟩
  rw [← hbse] at hrw
  have hbz : bs ≤ w8.heap.size := Nat.le_of_eq hbse
  refine c_know 53 (.int .i64 j) h53 nu (c_know 8 (.slice A8 D.length cap8) h8 nu (c_seq (c_region (wl (r_lss rfl rfl) (x_nil ?_)))))
  refine e_S (c_seq ?_)
  refine c_ifd rfl (fun c54 => ?_) (fun c54 => ?_)
  ·
   have hjl : j < (gs[k]'hlt).length := by omega
   obtain ⟨nb, no, LA0, lc0, rfl, hnb, hnr, hln⟩ := hgn.at_ (Below.refl _ _ : Bel w w) hjl
   have hmx := hln.1
   unfold maxI at hmx
   have hnd := nd_eq hjl
   have hlr5 := hgy.lr j hjl
   rw [hnd] at hlr5
   have hDl : D.length = (VA gs k).length + j := by rw [hDe, List.length_append, List.length_map, List.length_take]; omega
   have hDU : (VA gs k).length + (gs[k]'hlt).length ≤ (VA gs gs.length).length := by
     have h := VA_le (gs := gs) (gs.length - (k + 1)) (k := k + 1) om
     rw [show k + 1 + (gs.length - (k + 1)) = gs.length by omega, VA_succ hlt, List.length_append, List.length_map] at h
     exact h
   have hfw : (((gs[k]'hlt)[j]'hjl)).ln.length ≤ nf := by
     have h := srt_len (nf := nf) (lo := 0) (hgy.srt j hjl) (fun z hz => hUf k hlt j hjl z hz) (Int.le_refl _) om
     rw [hnd] at h; omega
   refine c_skip (e_S (c_seq (c_block (c_seq (c_region ?_)))))
   refine wl (r_ia (i := j) U26 sz55_UAll rfl rfl hjl rfl) (wl (r_ldS U55 rfl rfl (hB.range hnb hnr) sz55_UAll) ?_)
   refine wl_al (cs := #[.int .i64 0, .slice none 0 0]) ze55_UAll rfl (fun b13 w9 hb13 hs hr => ?_)
   have or_b3_b13 : b3 < b13 := lL hb3.lt hr
   have or_b6_b13 : b6 < b13 := lL hb6.lt hr
   have or_ho9_b13 := (fun (g : Nat) hg => lL (ho9.lt g hg).2 hr)
   have or_ho8_b13 := (fun (g : Nat) hg => lL (ho8.lt g hg).2 hr)
   have or_hbz_b13 := (lT hbz hr)
   have lo13 := lT (Bel.size hB) hr
   replace hB := hB.tr0 hs
   replace hb3 := hb3.tr0 hs
   replace hb6 := hb6.tr0 hs
   replace ho9 := ho9.tr0 hs
   replace ho8 := ho8.tr0 hs
   replace hrw := fun x hx => (hrw x hx).tr hs (by simp)
   replace hbz := lT hbz (Same.size hs)
   clear hs
   clear hr
   refine wl_stW hb13 rfl rfl sz55_UAll rfl oneA (fun w10 hq hs => ?_)
   replace hB := hB.tr1 hs lo13
   replace hb3 := hb3.tr1 hs om
   replace hb6 := hb6.tr1 hs om
   replace ho9 := ho9.tr1 hs (fun g hg => by have := (ho9.lt g hg).1; (try have := or_ho9_b13 g hg); omega)
   replace ho8 := ho8.tr1 hs (fun g hg => by have := (ho8.lt g hg).1; (try have := or_ho8_b13 g hg); omega)
   replace hrw := fun x hx => (hrw x hx).tr hs (fun g hg => by rw [List.mem_singleton.1 hg]; first | exact .inr ⟨_, _, hb13, by decide⟩ | exact .inl om)
   replace hbz := lT hbz (Same.size hs)
   clear hs
   replace hb13 := hq
   refine x_nil (e_S (c_seq (c_region (wl (r_fa U55 sz3_UAll dE rfl rfl rfl) (wl (r_ld1 (v := .int _ _) U3 rfl rfl (hb13.cell rfl)) ?_)))))
   refine wl (r_bd1 (v0 := .int _ _) (fun v0 => #[v0, .slice none 0 0]) rfl kR) ?_
   refine wl_al (cs := #[.int .i64 0, .slice none 0 0]) ze55_UAll rfl (fun b14 w11 hb14 hs hr => ?_)
   have or_b3_b14 : b3 < b14 := lL hb3.lt hr
   have or_b6_b14 : b6 < b14 := lL hb6.lt hr
   have or_ho9_b14 := (fun (g : Nat) hg => lL (ho9.lt g hg).2 hr)
   have or_ho8_b14 := (fun (g : Nat) hg => lL (ho8.lt g hg).2 hr)
   have or_hbz_b14 := (lT hbz hr)
   have or_b13_b14 : b13 < b14 := lL hb13.lt hr
   have lo14 := lT (Bel.size hB) hr
   replace hB := hB.tr0 hs
   replace hb3 := hb3.tr0 hs
   replace hb6 := hb6.tr0 hs
   replace ho9 := ho9.tr0 hs
   replace ho8 := ho8.tr0 hs
   replace hrw := fun x hx => (hrw x hx).tr hs (by simp)
   replace hbz := lT hbz (Same.size hs)
   replace hb13 := hb13.tr0 hs
   clear hs
   clear hr
   refine wl_stW hb14 rfl rfl sz55_UAll rfl oneA (fun w12 hq hs => ?_)
   replace hB := hB.tr1 hs lo14
   replace hb3 := hb3.tr1 hs om
   replace hb6 := hb6.tr1 hs om
   replace ho9 := ho9.tr1 hs (fun g hg => by have := (ho9.lt g hg).1; (try have := or_ho9_b14 g hg); omega)
   replace ho8 := ho8.tr1 hs (fun g hg => by have := (ho8.lt g hg).1; (try have := or_ho8_b14 g hg); omega)
   replace hrw := fun x hx => (hrw x hx).tr hs (fun g hg => by rw [List.mem_singleton.1 hg]; first | exact .inr ⟨_, _, hb14, by decide⟩ | exact .inl om)
   replace hbz := lT hbz (Same.size hs)
   replace hb13 := hb13.tr1 hs om
   clear hs
   replace hb14 := hq
   refine x_nil (e_S (c_seq (c_seq (c_region (wl (r_fa U55 sz53 dE rfl rfl rfl) ?_)))))
   refine wl (r_ld1 (v := .slice _ _ _) U53 rfl rfl (hb13.cell rfl)) (wl (r_len U53 rfl) (wmI rfl (x_nil (e_S (c_block ?_)))))
   refine c_loopS [16, 63, 64, 65, 66, 67, 68, 69, 70, 71, 72, 73, 74, 75, 76, 77, 78, 79, 80, 81, 82, 83, 84] (fun m g w' => ∃ (q : Nat) (A5 : Option Addr) (cap5 : Nat), q ≤ (((gs[k]'hlt)[j]'hjl)).ln.length ∧ m = (((gs[k]'hlt)[j]'hjl)).ln.length - q ∧ g 63 = .int .i64 q ∧ Bel w w' ∧ Blk w' b3 25 #[.slice A l.length c, .slice B fs.length d] ∧ (∃ z, Blk w' b6 28 #[z]) ∧ Own w' (b6 + 1) 3 1 (some ⟨g49, 0, none⟩) (k + 1) cap49 (stV gs (k + 1)) ∧ Own w' (b6 + 1) 55 2 A8 D.length cap8 (ndV (tyV D) V D.length) ∧ (∀ x, x < D.length → RowO w' w.heap.size bs (V x) (nd D x).ln) ∧ bs ≤ w'.heap.size ∧ Blk w' b14 55 #[.int .i64 (((gs[k]'hlt)[j]'hjl)).ty, .slice A5 q cap5] ∧ Own w' (b14 + 1) 74 2 A5 q cap5 (lnV (shL (VA gs k).length ((((gs[k]'hlt)[j]'hjl)).ln.take q)))) ((((gs[k]'hlt)[j]'hjl)).ln.length) ?_ (fun m g12 w13 hI => ?_)
   ·
    exact ⟨0, none, 0, Nat.zero_le _, rfl, rfl, hB, hb3, ⟨_, hb6⟩, ho9, ho8, hrw, hbz, hb14, Own.nil _ _ _ _⟩
   obtain ⟨q, A5, cap5, hq, hmq, h63, hB, hb3, ⟨z6, hb6⟩, ho9, ho8, hrw, hbz, hb14, ho5⟩ := hI
   have hz14 := hb14.lt
   refine c_know 63 (.int .i64 q) h63 nu (c_seq (c_region (wl (r_lss rfl rfl) (x_nil (e_S ?_)))))
   refine c_seq ?_
   refine c_ifd rfl (fun c64 => ?_) (fun c64 => ?_)
   ·
    have hql : q < (((gs[k]'hlt)[j]'hjl)).ln.length := by omega
    obtain ⟨lb, lof, rfl, hlb, hlr⟩ := hln.at_ hB hql
    have hx2 := hlr5 _ (List.getElem_mem hql)
    refine c_skip (e_S (c_seq (c_block (c_seq (c_region ?_)))))
    refine wl (r_ia (i := q) U53 sz74_GSearch rfl rfl hql rfl) (wl (r_ldS U74 rfl rfl hlr sz74_GSearch) ?_)
    refine wl_al (cs := #[.int .i64 0, .int .i64 0]) ze74 rfl (fun b16 w14 hb16 hs hr => ?_)
    have or_b3_b16 : b3 < b16 := lL hb3.lt hr
    have or_b6_b16 : b6 < b16 := lL hb6.lt hr
    have or_ho9_b16 := (fun (g : Nat) hg => lL (ho9.lt g hg).2 hr)
    have or_ho8_b16 := (fun (g : Nat) hg => lL (ho8.lt g hg).2 hr)
    have or_hbz_b16 := (lT hbz hr)
    have or_b14_b16 : b14 < b16 := lL hb14.lt hr
    have or_ho5_b16 := (fun (g : Nat) hg => lL (ho5.lt g hg).2 hr)
    have lo16 := lT (Bel.size hB) hr
    replace hB := hB.tr0 hs
    replace hb3 := hb3.tr0 hs
    replace hb6 := hb6.tr0 hs
    replace ho9 := ho9.tr0 hs
    replace ho8 := ho8.tr0 hs
    replace hrw := fun x hx => (hrw x hx).tr hs (by simp)
    replace hbz := lT hbz (Same.size hs)
    replace hb14 := hb14.tr0 hs
    replace ho5 := ho5.tr0 hs
    clear hs
    clear hr
    refine wl_stW hb16 rfl rfl sz74_GSearch rfl oneA (fun w15 hq hs => ?_)
    replace hB := hB.tr1 hs lo16
    replace hb3 := hb3.tr1 hs om
    replace hb6 := hb6.tr1 hs om
    replace ho9 := ho9.tr1 hs (fun g hg => by have := (ho9.lt g hg).1; (try have := or_ho9_b16 g hg); omega)
    replace ho8 := ho8.tr1 hs (fun g hg => by have := (ho8.lt g hg).1; (try have := or_ho8_b16 g hg); omega)
    replace hrw := fun x hx => (hrw x hx).tr hs (fun g hg => by rw [List.mem_singleton.1 hg]; first | exact .inr ⟨_, _, hb16, by decide⟩ | exact .inl om)
    replace hbz := lT hbz (Same.size hs)
    replace hb14 := hb14.tr1 hs om
    replace ho5 := ho5.tr1 hs (fun g hg => by have := (ho5.lt g hg).1; (try have := or_ho5_b16 g hg); omega)
    clear hs
    replace hb16 := hq
    refine x_nil (e_S ?_)
    have zo := fun g hg => (ho5.lt g hg).2
    refine c_monoSO 17 [67, 68, 69, 70, 71, 72, 73, 74, 75, 76, 77, 78, 79, 80, 81, 82, 83] (aL A5) 15 (fun ix v wv => match ix with | 0 => v = .pointer (some ⟨b14, 1, none⟩) | 1 => v = .slice A5 q cap5 | 2 => v = .pointer (some ⟨b16, 0, none⟩) | 3 => v = .int .i64 (((((gs[k]'hlt)[j]'hjl)).ln)[q]'hql).1 | 4 => v = .pointer (some ⟨b16, 1, none⟩) | 5 => v = .int .i64 (((((gs[k]'hlt)[j]'hjl)).ln)[q]'hql).2 | 6 => v = .slice (some ⟨g49, 0, none⟩) (k + 1) cap49 | 7 => v = .slice (some ⟨g49, 0, none⟩) (k + 1) cap49 | 8 => v = .int .i64 ((k + 1 : Nat) : Int) | 9 => v = .int .i64 ((k : Nat) : Int) | 10 => v = .pointer (some ⟨g49, 0 + k * 1, none⟩) | 11 => v = .int .i64 (((VA gs k).length : Nat) : Int) | 12 => v = .int .i64 ((((((gs[k]'hlt)[j]'hjl)).ln)[q]'hql).2 + (((VA gs k).length : Nat) : Int)) | 13 => v = .agg #[.int .i64 (((((gs[k]'hlt)[j]'hjl)).ln)[q]'hql).1, .int .i64 ((((((gs[k]'hlt)[j]'hjl)).ln)[q]'hql).2 + (((VA gs k).length : Nat) : Int))] | 14 => ∃ b, v = .slice (some ⟨b, 0, none⟩) 1 1 ∧ w15.heap.size ≤ b ∧ Blk wv b 74 #[.int .i64 (((((gs[k]'hlt)[j]'hjl)).ln)[q]'hql).1, .int .i64 ((((((gs[k]'hlt)[j]'hjl)).ln)[q]'hql).2 + (((VA gs k).length : Nat) : Int))] | 15 => ∃ g cap, v = .slice (some ⟨g, 0, none⟩) (q + 1) cap ∧ Own wv (b14 + 1) 74 2 (some ⟨g, 0, none⟩) (q + 1) cap (lnV (shL (VA gs k).length ((((gs[k]'hlt)[j]'hjl)).ln.take q)) ++ [.int .i64 (((((gs[k]'hlt)[j]'hjl)).ln)[q]'hql).1, .int .i64 ((((((gs[k]'hlt)[j]'hjl)).ln)[q]'hql).2 + (((VA gs k).length : Nat) : Int))]) | 16 => v = .pointer (some ⟨b14, 1, none⟩) | _ => True) (fun _ => True) kR kR ?_ (fun _ _ _ _ => trivial) ?_ ?_ dE ?_
    ·
     intro ix v wv wv2 h hs
     match ix, h with
     | 0, h => exact h
     | 1, h => exact h
     | 2, h => exact h
     | 3, h => exact h
     | 4, h => exact h
     | 5, h => exact h
     | 6, h => exact h
     | 7, h => exact h
     | 8, h => exact h
     | 9, h => exact h
     | 10, h => exact h
     | 11, h => exact h
     | 12, h => exact h
     | 13, h => exact h
     | 14, h =>
      obtain ⟨b81, e81, lo81, hb81⟩ := (show ∃ b, v = .slice (some ⟨b, 0, none⟩) 1 1 ∧ w15.heap.size ≤ b ∧ Blk wv b 74 #[.int .i64 (((((gs[k]'hlt)[j]'hjl)).ln)[q]'hql).1, .int .i64 ((((((gs[k]'hlt)[j]'hjl)).ln)[q]'hql).2 + (((VA gs k).length : Nat) : Int))] from h)
      exact ⟨b81, e81, lo81, hb81.tr0 hs⟩
     | 15, h =>
      obtain ⟨g82, cap82, e82, ho82⟩ := (show ∃ g cap, v = .slice (some ⟨g, 0, none⟩) (q + 1) cap ∧ Own wv (b14 + 1) 74 2 (some ⟨g, 0, none⟩) (q + 1) cap (lnV (shL (VA gs k).length ((((gs[k]'hlt)[j]'hjl)).ln.take q)) ++ [.int .i64 (((((gs[k]'hlt)[j]'hjl)).ln)[q]'hql).1, .int .i64 ((((((gs[k]'hlt)[j]'hjl)).ln)[q]'hql).2 + (((VA gs k).length : Nat) : Int))]) from h)
      exact ⟨g82, cap82, e82, ho82.tr0 hs⟩
     | 16, h => exact h
     | _ + 17, h => exact trivial
    ·
     intro ix o hix hne hoq gg wx hs hd
     match ix, hix, hne, hoq with
     | 0, _, _, hoq =>
      obtain rfl := sI hoq
      have hs0 := hs
      replace hb14 := hb14.tr hs (fun hx => by have := (ho5.lt _ hx).1; (try have := or_ho5_b14 _ hx); omega)
      refine os_rv (r_fa U55 sz53 dE rfl rfl rfl) ⟨Same.refl _ _, ?_⟩
      exact rfl
     | 1, _, _, hoq =>
      obtain rfl := sI hoq
      have hs0 := hs
      replace hb14 := hb14.tr hs (fun hx => by have := (ho5.lt _ hx).1; (try have := or_ho5_b14 _ hx); omega)
      have d0 : gg 67 = .pointer (some ⟨b14, 1, none⟩) := hd 0 (dep_of kR)
      have e67 := d0
      refine os_know 67 (.pointer (some ⟨b14, 1, none⟩)) e67 nu ?_
      refine os_rv (r_ld1 (v := .slice _ _ _) U53 rfl rfl (hb14.cell rfl)) ⟨Same.refl _ _, ?_⟩
      exact rfl
     | 2, _, _, hoq =>
      obtain rfl := sI hoq
      have hs0 := hs
      replace hb16 := hb16.tr hs (fun hx => by have := (ho5.lt _ hx).1; (try have := or_ho5_b16 _ hx); omega)
      refine os_rv (r_fa U74 sz3_UAll dE rfl rfl rfl) ⟨Same.refl _ _, ?_⟩
      exact rfl
     | 3, _, _, hoq =>
      obtain rfl := sI hoq
      have hs0 := hs
      replace hb16 := hb16.tr hs (fun hx => by have := (ho5.lt _ hx).1; (try have := or_ho5_b16 _ hx); omega)
      have d2 : gg 69 = .pointer (some ⟨b16, 0, none⟩) := hd 2 (dep_of kR)
      have e69 := d2
      refine os_know 69 (.pointer (some ⟨b16, 0, none⟩)) e69 nu ?_
      refine os_rv (r_ld1 (v := .int _ _) U3 rfl rfl (hb16.cell rfl)) ⟨Same.refl _ _, ?_⟩
      exact rfl
     | 4, _, _, hoq =>
      obtain rfl := sI hoq
      have hs0 := hs
      replace hb16 := hb16.tr hs (fun hx => by have := (ho5.lt _ hx).1; (try have := or_ho5_b16 _ hx); omega)
      refine os_rv (r_fa U74 sz3_UAll dE rfl rfl rfl) ⟨Same.refl _ _, ?_⟩
      exact rfl
     | 5, _, _, hoq =>
      obtain rfl := sI hoq
      have hs0 := hs
      replace hb16 := hb16.tr hs (fun hx => by have := (ho5.lt _ hx).1; (try have := or_ho5_b16 _ hx); omega)
      have d4 : gg 71 = .pointer (some ⟨b16, 1, none⟩) := hd 4 (dep_of kR)
      have e71 := d4
      refine os_know 71 (.pointer (some ⟨b16, 1, none⟩)) e71 nu ?_
      refine os_rv (r_ld1 (v := .int _ _) U3 rfl rfl (hb16.cell rfl)) ⟨Same.refl _ _, ?_⟩
      exact rfl
     | 6, _, _, hoq =>
      obtain rfl := sI hoq
      have hs0 := hs
      refine os_rv (r_mv (v := .slice _ _ _) rfl) ⟨Same.refl _ _, ?_⟩
      exact rfl
     | 7, _, _, hoq =>
      obtain rfl := sI hoq
      have hs0 := hs
      refine os_rv (r_mv (v := .slice _ _ _) rfl) ⟨Same.refl _ _, ?_⟩
      exact rfl
     | 8, _, _, hoq =>
      obtain rfl := sI hoq
      have hs0 := hs
      have d7 : gg 74 = .slice (some ⟨g49, 0, none⟩) (k + 1) cap49 := hd 7 (dep_of kR)
      have e74 := d7
      refine os_know 74 (.slice (some ⟨g49, 0, none⟩) (k + 1) cap49) e74 nu ?_
      refine os_rv (r_len U51 rfl) ⟨Same.refl _ _, ?_⟩
      exact rfl
     | 9, _, _, hoq =>
      obtain rfl := sI hoq
      have hs0 := hs
      have d8 : gg 75 = .int .i64 ((k + 1 : Nat) : Int) := hd 8 (dep_of kR)
      have e75 := d8
      refine os_know 75 (.int .i64 ((k + 1 : Nat) : Int)) e75 nu ?_
      refine os_rv (r_sub (c := ((k : Nat) : Int)) rfl rfl om om) ⟨Same.refl _ _, ?_⟩
      exact rfl
     | 10, _, _, hoq =>
      obtain rfl := sI hoq
      have hs0 := hs
      have d6 : gg 73 = .slice (some ⟨g49, 0, none⟩) (k + 1) cap49 := hd 6 (dep_of kR)
      have e73 := d6
      have d9 : gg 76 = .int .i64 ((k : Nat) : Int) := hd 9 (dep_of kR)
      have e76 := d9
      refine os_know 73 (.slice (some ⟨g49, 0, none⟩) (k + 1) cap49) e73 nu (os_know 76 (.int .i64 ((k : Nat) : Int)) e76 nu ?_)
      refine os_rv (r_ia (i := k) U51 sz3_UAll rfl rfl om rfl) ⟨Same.refl _ _, ?_⟩
      exact rfl
     | 11, _, _, hoq =>
      obtain rfl := sI hoq
      have hs0 := hs
      replace ho9 := ho9.tr hs (fun g hg hx => own_ne ho9 ho5 dE g hg hx)
      have d10 : gg 77 = .pointer (some ⟨g49, 0 + k * 1, none⟩) := hd 10 (dep_of kR)
      have e77 := d10
      refine os_know 77 (.pointer (some ⟨g49, 0 + k * 1, none⟩)) e77 nu ?_
      refine os_rv (r_ld1 (v := .int _ _) U3 rfl rfl (st_get ho9 (Nat.lt_succ_self k))) ⟨Same.refl _ _, ?_⟩
      exact rfl
     | 12, _, _, hoq =>
      obtain rfl := sI hoq
      have hs0 := hs
      have d5 : gg 72 = .int .i64 (((((gs[k]'hlt)[j]'hjl)).ln)[q]'hql).2 := hd 5 (dep_of kR)
      have e72 := d5
      have d11 : gg 78 = .int .i64 (((VA gs k).length : Nat) : Int) := hd 11 (dep_of kR)
      have e78 := d11
      refine os_know 72 (.int .i64 (((((gs[k]'hlt)[j]'hjl)).ln)[q]'hql).2) e72 nu (os_know 78 (.int .i64 (((VA gs k).length : Nat) : Int)) e78 nu ?_)
      refine os_rv (r_add (c := ((((((gs[k]'hlt)[j]'hjl)).ln)[q]'hql).2 + (((VA gs k).length : Nat) : Int))) rfl rfl rfl om) ⟨Same.refl _ _, ?_⟩
      exact rfl
     | 13, _, _, hoq =>
      obtain rfl := sI hoq
      have hs0 := hs
      have d3 : gg 70 = .int .i64 (((((gs[k]'hlt)[j]'hjl)).ln)[q]'hql).1 := hd 3 (dep_of kR)
      have e70 := d3
      have d12 : gg 79 = .int .i64 ((((((gs[k]'hlt)[j]'hjl)).ln)[q]'hql).2 + (((VA gs k).length : Nat) : Int)) := hd 12 (dep_of kR)
      have e79 := d12
      refine os_know 70 (.int .i64 (((((gs[k]'hlt)[j]'hjl)).ln)[q]'hql).1) e70 nu (os_know 79 (.int .i64 ((((((gs[k]'hlt)[j]'hjl)).ln)[q]'hql).2 + (((VA gs k).length : Nat) : Int))) e79 nu ?_)
      refine os_rv (r_bd2 (v0 := .int _ _) (v1 := .int _ _) (fun v0 v1 => #[v0, v1]) rfl rfl kR) ⟨Same.refl _ _, ?_⟩
      exact rfl
     | 14, _, _, hoq =>
      obtain rfl := sI hoq
      have hs0 := hs
      have d13 : gg 80 = .agg #[.int .i64 (((((gs[k]'hlt)[j]'hjl)).ln)[q]'hql).1, .int .i64 ((((((gs[k]'hlt)[j]'hjl)).ln)[q]'hql).2 + (((VA gs k).length : Nat) : Int))] := hd 13 (dep_of kR)
      have e80 := d13
      refine os_know 80 (.agg #[.int .i64 (((((gs[k]'hlt)[j]'hjl)).ln)[q]'hql).1, .int .i64 ((((((gs[k]'hlt)[j]'hjl)).ln)[q]'hql).2 + (((VA gs k).length : Nat) : Int))]) e80 nu ?_
      refine os_wl (fun ops Q K => ?_)
      refine wl_bs (cs := #[_, _]) [(0, .agg _)] rfl U53 sz74_GSearch ze74 dE dE kR rfl (fun b81 w16 hb81 hs hr => ?_)
      exact K _ _ ⟨hs, ⟨_, rfl, lT hs0.size hr, hb81⟩⟩
     | 15, _, hne, _ => exact absurd rfl hne
     | 16, _, _, hoq =>
      obtain rfl := sI hoq
      have hs0 := hs
      replace hb14 := hb14.tr hs (fun hx => by have := (ho5.lt _ hx).1; (try have := or_ho5_b14 _ hx); omega)
      refine os_rv (r_fa U55 sz53 dE rfl rfl rfl) ⟨Same.refl _ _, ?_⟩
      exact rfl
     | _ + 17, hix, _, _ => exact absurd hix om
    ·
     intro o hoq gg wx hs hd
     obtain rfl := sI hoq
     have hs0 := hs
     replace hB := hB.tr0 hs
     replace hb3 := hb3.tr0 hs
     replace hb6 := hb6.tr0 hs
     replace ho9 := ho9.tr0 hs
     replace ho8 := ho8.tr0 hs
     replace hrw := fun x hx => (hrw x hx).tr hs (by simp)
     replace hbz := lT hbz (Same.size hs)
     replace hb14 := hb14.tr0 hs
     replace ho5 := ho5.tr0 hs
     replace hb16 := hb16.tr0 hs
     clear hs
     have d1 : gg 68 = .slice A5 q cap5 := hd 1 (dep_of kR)
     have e68 := d1
     have d14 : ∃ b, gg 81 = .slice (some ⟨b, 0, none⟩) 1 1 ∧ w15.heap.size ≤ b ∧ Blk wx b 74 #[.int .i64 (((((gs[k]'hlt)[j]'hjl)).ln)[q]'hql).1, .int .i64 ((((((gs[k]'hlt)[j]'hjl)).ln)[q]'hql).2 + (((VA gs k).length : Nat) : Int))] := hd 14 (dep_of kR)
     obtain ⟨b81, e81, lo81, hb81⟩ := d14
     refine os_know 68 (.slice A5 q cap5) e68 nu (os_know 81 (.slice (some ⟨b81, 0, none⟩) 1 1) e81 nu ?_)
     refine os_wl (fun ops Q K => ?_)
     refine wl_app U53 in74_PAdd rfl dE ho5 hb81 rfl rfl rfl oneA dE om om (Nat.succ_le_of_lt hb14.lt) (fun g82 cap82 w2 ho82 hs2 hg82 => ?_)
     refine K _ _ ⟨hs2, ⟨_, _, rfl, ho82⟩, trivial, fun kx v hne h => ?_⟩
     match kx, hne, h with
     | 0, _, h => exact h
     | 1, _, h => exact h
     | 2, _, h => exact h
     | 3, _, h => exact h
     | 4, _, h => exact h
     | 5, _, h => exact h
     | 6, _, h => exact h
     | 7, _, h => exact h
     | 8, _, h => exact h
     | 9, _, h => exact h
     | 10, _, h => exact h
     | 11, _, h => exact h
     | 12, _, h => exact h
     | 13, _, h => exact h
     | 14, _, h =>
      obtain ⟨b81, e81, lo81, hb81⟩ := (show ∃ b, v = .slice (some ⟨b, 0, none⟩) 1 1 ∧ w15.heap.size ≤ b ∧ Blk wx b 74 #[.int .i64 (((((gs[k]'hlt)[j]'hjl)).ln)[q]'hql).1, .int .i64 ((((((gs[k]'hlt)[j]'hjl)).ln)[q]'hql).2 + (((VA gs k).length : Nat) : Int))] from h)
      exact ⟨b81, e81, lo81, hb81.tr hs2 (fun hx => by have := zo _ hx; omega)⟩
     | 15, hne, _ => exact absurd rfl hne
     | 16, _, h => exact h
     | _ + 17, _, _ => exact trivial
    intro gg w17 hs _ hR
    have hs0 := hs
    replace hB := hB.tr hs (fun g hg => lT (Nat.le_succ_of_le lo14) (ho5.lt g hg).1)
    replace hb3 := hb3.tr hs (fun hx => by have := (ho5.lt _ hx).1; (try have := or_ho5_b3 _ hx); omega)
    replace hb6 := hb6.tr hs (fun hx => by have := (ho5.lt _ hx).1; (try have := or_ho5_b6 _ hx); omega)
    replace ho9 := ho9.tr hs (fun g hg hx => own_ne ho9 ho5 dE g hg hx)
    replace ho8 := ho8.tr hs (fun g hg hx => own_ne ho8 ho5 dE g hg hx)
    replace hrw := fun x hx => (hrw x hx).tr hs (fun g hg => by first | exact .inl (by have := ((ho5).lt g hg).1; omega) | (obtain ⟨cs, h⟩ := (ho5).typ g hg; exact .inr ⟨_, _, h, by decide⟩))
    replace hbz := lT hbz (Same.size hs)
    replace hb14 := hb14.tr hs (fun hx => by have := (ho5.lt _ hx).1; (try have := or_ho5_b14 _ hx); omega)
    replace hb16 := hb16.tr hs (fun hx => by have := (ho5.lt _ hx).1; (try have := or_ho5_b16 _ hx); omega)
    have d15 : ∃ g cap, gg 82 = .slice (some ⟨g, 0, none⟩) (q + 1) cap ∧ Own w17 (b14 + 1) 74 2 (some ⟨g, 0, none⟩) (q + 1) cap (lnV (shL (VA gs k).length ((((gs[k]'hlt)[j]'hjl)).ln.take q)) ++ [.int .i64 (((((gs[k]'hlt)[j]'hjl)).ln)[q]'hql).1, .int .i64 ((((((gs[k]'hlt)[j]'hjl)).ln)[q]'hql).2 + (((VA gs k).length : Nat) : Int))]) := hR 15 dE
    obtain ⟨g82, cap82, e82, ho82⟩ := d15
    have d16 : gg 83 = .pointer (some ⟨b14, 1, none⟩) := hR 16 dE
    have e83 := d16
    have ho5 : Own w17 (b14 + 1) 74 2 (some ⟨g82, 0, none⟩) (q + 1) cap82 (lnV (shL (VA gs k).length ((((gs[k]'hlt)[j]'hjl)).ln.take (q + 1)))) := by rw [← shL_take hql]; exact ho82
    refine wl_know 82 (.slice (some ⟨g82, 0, none⟩) (q + 1) cap82) e82 nu (wl_know 83 (.pointer (some ⟨b14, 1, none⟩)) e83 nu ?_)
    refine wl_st1 (v := .slice _ _ _) hb14 rfl rfl sz53 (by first | decide | simp) rfl rfl (fun w18 hq hs => ?_)
    replace hB := hB.tr1 hs lo14
    replace hb3 := hb3.tr1 hs om
    replace hb6 := hb6.tr1 hs om
    replace ho9 := ho9.tr1 hs (fun g hg => by have := (ho9.lt g hg).1; (try have := or_ho9_b14 g hg); omega)
    replace ho8 := ho8.tr1 hs (fun g hg => by have := (ho8.lt g hg).1; (try have := or_ho8_b14 g hg); omega)
    replace hrw := fun x hx => (hrw x hx).tr hs (fun g hg => by rw [List.mem_singleton.1 hg]; first | exact .inr ⟨_, _, hb14, by decide⟩ | exact .inl om)
    replace hbz := lT hbz (Same.size hs)
    replace hb16 := hb16.tr1 hs om
    replace ho5 := ho5.tr1 hs (fun g hg => by have := (ho5.lt g hg).1; (try have := or_ho5_b14 g hg); omega)
    clear hs
    replace hb14 := hq
    refine x_nil (e_B (e_S (c_region (wl (r_add rfl rfl rfl om) (wmI rfl ?_)))))
    refine x_nil (e_LS ((((gs[k]'hlt)[j]'hjl)).ln.length - (q + 1)) om agA ?_)
    exact ⟨q + 1, _, _, by omega, rfl, rfl, hB, hb3, ⟨_, hb6⟩, ho9, ho8, hrw, hbz, hb14, ho5⟩
   have hqx : q = (((gs[k]'hlt)[j]'hjl)).ln.length := by omega
   subst hqx
   rw [List.take_length] at ho5
   refine c_exit (e_Sx (e_LSx (e_Bx (e_S ?_))))
   have hrow5 := RowO.of (lo := w.heap.size) (xs := (shN (VA gs k).length (((gs[k]'hlt)[j]'hjl))).ln) (Nat.le_succ_of_le lo14) (A := A5) (cap := cap5) (w := w13) (by
     have e1 : (shN (VA gs k).length (((gs[k]'hlt)[j]'hjl))).ln.length = (((gs[k]'hlt)[j]'hjl)).ln.length := by simp [shN]
     rw [e1]; exact ho5)
   rw [show (shN (VA gs k).length (((gs[k]'hlt)[j]'hjl))).ln.length = (((gs[k]'hlt)[j]'hjl)).ln.length by simp [shN]] at hrow5
   obtain ⟨s5, hs5⟩ : ∃ b, b = w13.heap.size := ⟨_, rfl⟩
   rw [← hs5] at hrow5
   have hz5 : s5 ≤ w13.heap.size := Nat.le_of_eq hs5
   refine c_region (wmS rfl (wl (r_ldS U55 rfl rfl hb14.range0 sz55_UAll) ?_))
   refine wl_bs (cs := #[_, _]) [(0, .agg _)] rfl U26 sz55_UAll ze55_UAll dE dE kR rfl (fun b87 w19 hb87 hs hr => ?_)
   have or_b3_b87 : b3 < b87 := lL hb3.lt hr
   have or_b6_b87 : b6 < b87 := lL hb6.lt hr
   have or_ho9_b87 := (fun (g : Nat) hg => lL (ho9.lt g hg).2 hr)
   have or_ho8_b87 := (fun (g : Nat) hg => lL (ho8.lt g hg).2 hr)
   have or_hbz_b87 := (lT hbz hr)
   have or_b14_b87 : b14 < b87 := lL hb14.lt hr
   have or_hz5_b87 := (lT hz5 hr)
   have lo87 := lT (Bel.size hB) hr
   replace hB := hB.tr0 hs
   replace hb3 := hb3.tr0 hs
   replace hb6 := hb6.tr0 hs
   replace ho9 := ho9.tr0 hs
   replace ho8 := ho8.tr0 hs
   replace hrw := fun x hx => (hrw x hx).tr hs (by simp)
   replace hbz := lT hbz (Same.size hs)
   replace hb14 := hb14.tr0 hs
   replace hrow5 := hrow5.tr hs (by simp)
   replace hz5 := lT hz5 (Same.size hs)
   clear hs
   clear hr
   refine wl_app U26 in55_PGraph rfl dE ho8 hb87 rfl rfl rfl oneA dE om om (Nat.succ_le_of_lt hb6.lt) (fun g88 cap88 w20 ho88 hs hg => ?_)
   have ne_ho88_b3 : g88 ≠ b3 := fun e => by
    have hl := hb3.lt
    rcases hg with hg | hg
    · have h1 := ho8.lt g88 (by rw [hg]; exact List.mem_singleton.2 rfl)
      (try have := or_ho8_b3 g88 (by rw [hg]; exact List.mem_singleton.2 rfl)); omega
    · omega
   have ne_ho88_b6 : g88 ≠ b6 := fun e => by
    have hl := hb6.lt
    rcases hg with hg | hg
    · have h1 := ho8.lt g88 (by rw [hg]; exact List.mem_singleton.2 rfl)
      (try have := or_ho8_b6 g88 (by rw [hg]; exact List.mem_singleton.2 rfl)); omega
    · omega
   have ne_ho88_b14 : g88 ≠ b14 := fun e => by
    have hl := hb14.lt
    rcases hg with hg | hg
    · have h1 := ho8.lt g88 (by rw [hg]; exact List.mem_singleton.2 rfl)
      (try have := or_ho8_b14 g88 (by rw [hg]; exact List.mem_singleton.2 rfl)); omega
    · omega
   replace hB := hB.tr hs (fun g hg => lT (Nat.le_succ_of_le lo6) (ho8.lt g hg).1)
   replace hb3 := hb3.tr hs (fun hx => by have := (ho8.lt _ hx).1; (try have := or_ho8_b3 _ hx); omega)
   replace hb6 := hb6.tr hs (fun hx => by have := (ho8.lt _ hx).1; (try have := or_ho8_b6 _ hx); omega)
   replace ho9 := ho9.tr hs (fun g hg hx => own_ne ho9 ho8 dE g hg hx)
   replace hrw := fun x hx => (hrw x hx).tr hs (fun g hg => by first | exact .inl (by have := ((ho8).lt g hg).1; omega) | (obtain ⟨cs, h⟩ := (ho8).typ g hg; exact .inr ⟨_, _, h, by decide⟩))
   replace hbz := lT hbz (Same.size hs)
   replace hrow5 := hrow5.tr hs (fun g hg => by first | exact .inl (by have := ((ho8).lt g hg).1; omega) | (obtain ⟨cs, h⟩ := (ho8).typ g hg; exact .inr ⟨_, _, h, by decide⟩))
   replace hz5 := lT hz5 (Same.size hs)
   have hlo88 := hb6.lt
   refine waS rfl (x_nil (e_B (e_S (c_region (wl (r_add rfl rfl rfl om) ?_)))))
   refine wmI rfl (x_nil (e_LS ((gs[k]'hlt).length - (j + 1)) om agA ?_))
   exact ⟨j + 1, some ⟨g88, 0, none⟩, cap88, putV V D.length (.slice A5 (((gs[k]'hlt)[j]'hjl)).ln.length cap5), D ++ [shN (VA gs k).length ((gs[k]'hlt)[j]'hjl)], by omega, rfl, by rw [hDe, app_take hjl], rfl, by rw [List.length_append]; rfl, hB, hb3, ⟨_, hb6⟩, ho9, nl_snoc (y := shN (VA gs k).length ((gs[k]'hlt)[j]'hjl)) ho88, rows_snoc hrw hrow5 hbz hz5⟩
  have hjx : j = (gs[k]'hlt).length := by omega
  subst hjx
  rw [List.take_length, ← VA_succ hlt] at hDe
  have hDl : D.length = (VA gs (k + 1)).length := by rw [hDe]
  refine c_exit (e_Sx (e_LSx (e_Bx (e_B (e_S ?_)))))
  refine c_region (wl (r_add rfl rfl rfl om) (wmI rfl (x_nil (e_LS (gs.length - (k + 1)) om agA ?_))))
  exact ⟨k + 1, A8, (some ⟨g49, 0, none⟩), cap8, cap49, V, by omega, rfl, rfl, by rw [← hDe]; rfl, rfl, hB, hb3, ⟨_, hb6⟩, ho9, by rw [← hDe]; exact ho8, fun x hx => by
   rw [← hDe] at hx ⊢
   exact (hrw x hx).up hbz⟩
 have hke : k = gs.length := by omega
 subst hke
 obtain ⟨q9, rfl, _, hq9l, _⟩ := ho9.cell (fun e => by
   have h : (stV gs gs.length).length = 0 := by rw [e]; rfl
   have h2 : (stV gs gs.length).length = gs.length := by simp [stV]
   omega)
 have hst9 : ∀ i, i < gs.length → w3.cell? ⟨q9, 0 + i * 1, none⟩ = some (.int .i64 (((VA gs i).length : Nat) : Int)) := fun i hi => st_get ho9 hi
 have hn0 : 0 < (VA gs gs.length).length := Nat.lt_of_le_of_lt (Nat.zero_le _) (VA_lt hgp hp)
 have hgyU : GY l (VA gs gs.length) := by have h := VA_gy hgs (gs.length - 1) om; rwa [show gs.length - 1 + 1 = gs.length by omega] at h
 have hNU : NodesIn w3 A8 (VA gs gs.length) := nodes_own (lo := w.heap.size) (bs := bs) ho8 rfl (fun x hx => by unfold tyV; rw [nd_eq hx]) (fun x hx => by rw [← nd_eq hx]; exact hrw x hx)
 obtain ⟨q8, o8, rfl, hq8l, hNUc⟩ := hNU.2 (fun e => by rw [e] at hn0; exact absurd hn0 (Nat.lt_irrefl _))
 obtain ⟨wA, hwA⟩ : ∃ x, x = w3 := ⟨_, rfl⟩
 have hBA : Bel wA w3 := by rw [hwA]; exact Below.refl _ _
 rw [← hwA] at hNUc hst9 hq8l hq9l
 refine c_exit (e_Sx (e_LSx (e_Bx (e_S (c_seq ?_)))))
 refine c_region (wmS rfl (wl (r_len U26 rfl) ?_))
 refine wl_mkR (m := (VA gs gs.length).length) U51 in3_SFind rfl rfl rfl om om (fun b93 w21 hb93 hs hr => ?_)
 have or_b3_b93 : b3 < b93 := lL hb3.lt hr
 have or_b6_b93 : b6 < b93 := lL hb6.lt hr
 have lo93 := lT (Bel.size hB) hr
 have lo_hBA_b93 := lT (Bel.size hBA) hr
 replace hB := hB.tr0 hs
 replace hb3 := hb3.tr0 hs
 replace hb6 := hb6.tr0 hs
 replace hBA := hBA.tr0 hs
 clear hs
 clear hr
 refine waS rfl (x_nil (e_S (c_seq (c_seq (c_region ?_)))))
 refine wmS rfl (wl (r_len U51 rfl) (wmI rfl (x_nil (e_S (c_block ?_)))))
 refine c_loopS [18, 96, 97, 98, 99, 100, 101, 102, 103] (fun m g w' => ∃ k : Nat, k ≤ (VA gs gs.length).length ∧ m = (VA gs gs.length).length - k ∧ g 96 = .int .i64 k ∧ Bel w w' ∧ Bel wA w' ∧ Blk w' b3 25 #[.slice A l.length c, .slice B fs.length d] ∧ (∃ z, Blk w' b6 28 #[z]) ∧ Blk w' b93 3 (row (VA gs gs.length).length (fun x => .int .i64 (((if x < k then x else 0 : Nat)) : Int)))) ((VA gs gs.length).length) ?_ (fun m g21 w22 hI => ?_)
 ·
  refine ⟨0, Nat.zero_le _, rfl, rfl, hB, hBA, hb3, ⟨_, hb6⟩, ?_⟩
  rw [row_congr (g' := fun _ => .int .i64 0) (fun x _ => by simp)]; exact hb93
 obtain ⟨k, hkk, hm, h96, hB, hBA, hb3, ⟨z6, hb6⟩, hb93⟩ := hI
 refine c_know 96 (.int .i64 k) h96 nu (c_seq (c_region (wl (r_lss rfl rfl) (x_nil (e_S ?_)))))
 refine c_seq ?_
 refine c_ifd rfl (fun c97 => ?_) (fun c97 => ?_)
 ·
  have hlt : k < (VA gs gs.length).length := by omega
  refine c_skip (e_S (c_seq (c_block (c_seq (c_region ?_)))))
  refine wmI rfl (waI rfl (x_nil (e_S (c_region (wmS rfl ?_)))))
  refine wmI rfl (wmI rfl (wl (r_ia (i := k) U51 sz3_UAll rfl rfl hlt rfl) ?_))
  refine wl_st1 (v := .int _ _) hb93 rfl rfl sz3_UAll (by rw [row_size]; omega) rfl row_set (fun w23 hq hs => ?_)
  replace hB := hB.tr1 hs lo93
  replace hb3 := hb3.tr1 hs om
  replace hb6 := hb6.tr1 hs om
  replace hBA := hBA.tr1 hs lo_hBA_b93
  clear hs
  replace hb93 := hq
  rw [row_congr (g' := fun x => .int .i64 (((if x < k + 1 then x else 0 : Nat)) : Int)) (fun x _ => by
    by_cases e : x = k
    · subst e; simp
    · have e1 : (x < k + 1) ↔ (x < k) := by omega
      simp [e, e1])] at hb93
  refine x_nil (e_B (e_S (c_region (wl (r_add rfl rfl rfl om) (wmI rfl ?_)))))
  refine x_nil (e_LS ((VA gs gs.length).length - (k + 1)) om agA ?_)
  exact ⟨k + 1, by omega, rfl, rfl, hB, hBA, hb3, ⟨_, hb6⟩, hb93⟩
 have hke : k = (VA gs gs.length).length := by omega
 rw [hke, row_congr (g' := fun x => .int .i64 (((fun i : Nat => i) x : Nat) : Int)) (fun x hx => by simp [hx])] at hb93
 replace hb93 : Blk w22 b93 3 (RW (VA gs gs.length).length (fun i => i)) := hb93
 have hcs0 : CS l (VA gs gs.length) (PA gs ats) 0 (fun i => i) := CS.start
 refine c_exit (e_Sx (e_LSx (e_Bx (e_S (c_seq ?_)))))
 refine c_seq (c_region (wmS rfl (wl (r_len U51 rfl) (wmI rfl (x_nil ?_)))))
 refine e_S (c_block ?_)
 refine c_loopS [19, 20, 106, 107, 108, 109, 110, 111, 112, 113, 114, 115, 116, 117, 118, 119, 120, 121, 122, 123, 124, 125] (fun m g w' => ∃ (k : Nat) (rep : Nat → Nat), k ≤ ats.length ∧ m = ats.length - k ∧ g 106 = .int .i64 k ∧ Bel w w' ∧ Bel wA w' ∧ Blk w' b3 25 #[.slice A l.length c, .slice B fs.length d] ∧ (∃ z, Blk w' b6 28 #[z]) ∧ Blk w' b93 3 (RW (VA gs gs.length).length rep) ∧ CS l (VA gs gs.length) (PA gs ats) k rep) (ats.length) ?_ (fun m g26 w24 hI => ?_)
 ·
  exact ⟨0, fun i => i, Nat.zero_le _, rfl, rfl, hB, hBA, hb3, ⟨_, hb6⟩, hb93, hcs0⟩
 obtain ⟨k, rep, hkk, hm, h106, hB, hBA, hb3, ⟨z6, hb6⟩, hb93, hcs⟩ := hI
 refine c_know 106 (.int .i64 k) h106 nu (c_seq (c_region (wl (r_lss rfl rfl) (x_nil (e_S ?_)))))
 refine c_seq ?_
 refine c_ifd rfl (fun c107 => ?_) (fun c107 => ?_)
 ·
  have hlt : k < ats.length := by omega
  obtain ⟨pb, po, rfl, hpb, hpc⟩ := hAT.at_ (k := k) (by rw [List.length_map]; exact hlt)
  rw [List.getElem_map] at hpc
  have hxl : ats[k]'hlt < (VA gs gs.length).length := by
    have h := hatr k hlt
    have h2 := VA_le (gs := gs) (gs.length - 1) (k := 1) om
    rw [show 1 + (gs.length - 1) = gs.length by omega, VA_succ hp, VA_zero, List.nil_append, List.length_map] at h2
    omega
  have hyl : (VA gs (k + 1)).length < (VA gs gs.length).length := VA_lt hgp om
  have hcs2 := hcs.pair (by rw [PA_len]; exact hlt) (PA_get hlt) hxl hyl
  refine c_skip (e_S (c_seq (c_block (c_seq (c_region ?_)))))
  refine wmI rfl (wl (r_ia (i := k) U51 sz3_UAll rfl rfl hlt rfl) (wl (r_ld1 (v := .int _ _) U3 rfl rfl (hB.cell hpb hpc)) (waI rfl (waI rfl (x_nil ?_)))))
  refine e_S ?_
  refine c_tail 13 kR kR (fun w25 hs => ?_)
  replace hB := hB.tr0 hs
  replace hb3 := hb3.tr0 hs
  replace hb6 := hb6.tr0 hs
  replace hBA := hBA.tr0 hs
  replace hb93 := hb93.tr0 hs
  clear hs
  refine ws (r_mv (v := .slice _ _ _) rfl) (ws (r_mv (v := .slice _ _ _) rfl) (ws (r_mv (v := .slice _ _ _) rfl) (ws (r_mv (v := .int _ _) rfl) (ws (r_add (c := ((k + 1 : Nat) : Int)) rfl rfl om om) (ws (r_ia (i := (k + 1)) U51 sz3_UAll rfl rfl om rfl) ?_)))))
  refine ws (r_ld1 (v := .int _ _) U3 rfl rfl (hBA.cell hq9l (hst9 (k + 1) om))) (ws (r_ia (i := (VA gs (k + 1)).length) U51 sz3_UAll rfl rfl hyl rfl) (ws (r_ld1 (v := .int _ _) U3 rfl rfl (hb93.cell (RW_get hyl))) (ws (r_mv (v := .slice _ _ _) rfl) (ws (r_mv (v := .int _ _) rfl) (ws (r_ia (i := (ats[k]'hlt)) U51 sz3_UAll rfl rfl hxl rfl) ?_)))))
  refine ws (r_ld1 (v := .int _ _) U3 rfl rfl (hb93.cell (RW_get hxl))) (s_tail ?_)
  refine wl_cl fn46 (ren_any _ hn6 hb93) rfl (fun e' w26 hr => ?_)
  obtain ⟨rfl, hb93n, hs⟩ := hr
  replace hB := hB.tr1 hs lo93
  replace hBA := hBA.tr1 hs lo_hBA_b93
  replace hb3 := hb3.tr1 hs om
  replace hb6 := hb6.tr1 hs om
  clear hs
  replace hb93 : Blk w26 b93 3 (RW (VA gs gs.length).length _) := hb93n
  refine ⟨_, rfl, ?_⟩
  refine x_nil (e_B (e_S (c_region (wl (r_add rfl rfl rfl om) (wmI rfl ?_)))))
  refine x_nil (e_LS (ats.length - (k + 1)) om agA ?_)
  exact ⟨k + 1, _, by omega, rfl, rfl, hB, hBA, hb3, ⟨_, hb6⟩, hb93, hcs2⟩
 have hke : k = ats.length := by omega
 rw [hke] at hcs
 rw [← PA_len gs ats] at hcs
 refine c_exit (e_Sx (e_LSx (e_Bx (e_S (c_seq ?_)))))
 refine c_seq (c_region (waB rfl (x_nil (e_S (c_block ?_)))))
 refine c_loopS [21, 22, 23, 25, 27, 126, 127, 128, 129, 130, 131, 132, 133, 134, 135, 136, 137, 138, 139, 140, 141, 142, 143, 144, 145, 146, 147, 148, 149, 150, 151, 152, 153, 154, 155, 156, 157, 158, 159, 160, 161, 162, 163, 164, 165, 166, 167, 168, 169, 170, 171, 172, 173, 174, 175, 176, 177, 178, 179, 180, 181, 182, 183, 184, 185, 186, 187, 188, 189, 190, 191, 192, 193, 194, 195, 196, 197, 198] (fun m g w' => ∃ (rep : Nat → Nat) (ch : Bool), m = 2 * roots (VA gs gs.length).length rep + chN ch ∧ g 21 = .bool ch ∧ Bel w w' ∧ Bel wA w' ∧ Blk w' b3 25 #[.slice A l.length c, .slice B fs.length d] ∧ (∃ z, Blk w' b6 28 #[z]) ∧ Blk w' b93 3 (RW (VA gs gs.length).length rep) ∧ CS l (VA gs gs.length) (PA gs ats) (PA gs ats).length rep ∧ (ch = false → JF l (VA gs gs.length) (PA gs ats) rep)) (2 * roots (VA gs gs.length).length rep + chN true) ?_ (fun m g31 w27 hI => ?_)
 ·
  exact ⟨rep, true, rfl, rfl, hB, hBA, hb3, ⟨_, hb6⟩, hb93, hcs, fun h => by cases h⟩
 obtain ⟨rep, ch, hm, h21, hB, hBA, hb3, ⟨z6, hb6⟩, hb93, hcs, hjf⟩ := hI
 refine c_know 21 (.bool ch) h21 nu (c_seq (c_seq (c_region (wmB rfl (x_nil ?_)))))
 refine e_S ?_
 refine c_if rfl (fun c126 => ?_) (fun c126 => ?_)
 ·
  subst c126
  refine c_skip (e_S (c_block (c_seq (c_region (waB rfl ?_)))))
  refine x_nil (e_S (c_seq (c_region (wmS rfl (wl (r_len U26 rfl) ?_)))))
  refine wmI rfl (x_nil (e_S (c_block ?_)))
  refine c_loopS [21, 22, 23, 25, 27, 129, 130, 131, 132, 133, 134, 135, 136, 137, 138, 139, 140, 141, 142, 143, 144, 145, 146, 147, 148, 149, 150, 151, 152, 153, 154, 155, 156, 157, 158, 159, 160, 161, 162, 163, 164, 165, 166, 167, 168, 169, 170, 171, 172, 173, 174, 175, 176, 177, 178, 179, 180, 181, 182, 183, 184, 185, 186, 187, 188, 189, 190, 191, 192, 193, 194, 195, 196, 197, 198] (fun m g w' => ∃ (i : Nat) (rep1 : Nat → Nat) (ch1 : Bool), i ≤ (VA gs gs.length).length ∧ m = (VA gs gs.length).length - i ∧ g 129 = .int .i64 i ∧ g 21 = .bool ch1 ∧ Bel w w' ∧ Bel wA w' ∧ Blk w' b3 25 #[.slice A l.length c, .slice B fs.length d] ∧ (∃ z, Blk w' b6 28 #[z]) ∧ Blk w' b93 3 (RW (VA gs gs.length).length rep1) ∧ JP l (VA gs gs.length) (PA gs ats) (PA gs ats).length rep rep1 ch1 i 0) ((VA gs gs.length).length) ?_ (fun m g34 w28 hI => ?_)
  ·
   exact ⟨0, rep, false, Nat.zero_le _, rfl, rfl, rfl, hB, hBA, hb3, ⟨_, hb6⟩, hb93, JP.start hcs⟩
  obtain ⟨i, rep1, ch1, hi, hmi, h129, h21, hB, hBA, hb3, ⟨z6, hb6⟩, hb93, hJP⟩ := hI
  refine c_know 129 (.int .i64 i) h129 nu (c_know 21 (.bool ch1) h21 nu (c_seq (c_region (wl (r_lss rfl rfl) (x_nil ?_)))))
  refine e_S (c_seq ?_)
  refine c_ifd rfl (fun c130 => ?_) (fun c130 => ?_)
  ·
   have hil : i < (VA gs gs.length).length := by omega
   obtain ⟨LAi, lci, hri, hlni⟩ := hNUc i hil
   rw [← nd_eq hil] at hri hlni
   have hmxi := hlni.1
   unfold maxI at hmxi
   refine c_skip (e_S (c_seq (c_block (c_seq (c_region ?_)))))
   refine wmI rfl (waI rfl (x_nil (e_S (c_seq (c_region ?_)))))
   refine wmI rfl (wmI rfl (x_nil (e_S (c_block ?_))))
   refine c_loopS [21, 23, 25, 27, 133, 134, 135, 136, 137, 138, 139, 140, 141, 142, 143, 144, 145, 146, 147, 148, 149, 150, 151, 152, 153, 154, 155, 156, 157, 158, 159, 160, 161, 162, 163, 164, 165, 166, 167, 168, 169, 170, 171, 172, 173, 174, 175, 176, 177, 178, 179, 180, 181, 182, 183, 184, 185, 186, 187, 188, 189, 190, 191, 192, 193, 194, 195, 196, 197] (fun m g w' => ∃ (j : Nat) (rep2 : Nat → Nat) (ch2 : Bool), j ≤ i ∧ m = i - j ∧ g 133 = .int .i64 j ∧ g 21 = .bool ch2 ∧ Bel w w' ∧ Bel wA w' ∧ Blk w' b3 25 #[.slice A l.length c, .slice B fs.length d] ∧ (∃ z, Blk w' b6 28 #[z]) ∧ Blk w' b93 3 (RW (VA gs gs.length).length rep2) ∧ JP l (VA gs gs.length) (PA gs ats) (PA gs ats).length rep rep2 ch2 i j) (i) ?_ (fun m g37 w29 hI => ?_)
   ·
    exact ⟨0, rep1, ch1, Nat.zero_le _, rfl, rfl, rfl, hB, hBA, hb3, ⟨_, hb6⟩, hb93, hJP⟩
   obtain ⟨j, rep2, ch2, hj, hmj, h133, h21, hB, hBA, hb3, ⟨z6, hb6⟩, hb93, hJP2⟩ := hI
   refine c_know 133 (.int .i64 j) h133 nu (c_know 21 (.bool ch2) h21 nu (c_seq (c_region (wl (r_lss rfl rfl) (x_nil ?_)))))
   refine e_S (c_seq ?_)
   refine c_ifd rfl (fun c134 => ?_) (fun c134 => ?_)
   ·
    have hji : j < i := by omega
    have hjn : j < (VA gs gs.length).length := by omega
    obtain ⟨LAj, lcj, hrj, hlnj⟩ := hNUc j hjn
    rw [← nd_eq hjn] at hrj hlnj
    have hmxj := hlnj.1
    unfold maxI at hmxj
    refine c_skip (e_S (c_seq (c_block (c_seq (c_region ?_)))))
    refine wmI rfl (waI rfl (x_nil (e_S (c_seq (c_seq ?_)))))
    refine c_still kR kR (fun w30 hs => ?_)
    replace hB := hB.tr0 hs
    replace hb3 := hb3.tr0 hs
    replace hb6 := hb6.tr0 hs
    replace hBA := hBA.tr0 hs
    replace hb93 := hb93.tr0 hs
    clear hs
    refine ws (r_mv (v := .slice _ _ _) rfl) (ws (r_mv (v := .int _ _) rfl) (ws (r_ia (i := i) U51 sz3_UAll rfl rfl hil rfl) (ws (r_ld1 (v := .int _ _) U3 rfl rfl (hb93.cell (RW_get hil))) (ws (r_mv (v := .slice _ _ _) rfl) (ws (r_mv (v := .int _ _) rfl) ?_)))))
    refine ws (r_ia (i := j) U51 sz3_UAll rfl rfl hjn rfl) (ws (r_ld1 (v := .int _ _) U3 rfl rfl (hb93.cell (RW_get hjn))) (ws (r_neq rfl rfl) (s_nil (e_S ?_))))
    refine c_ifd rfl (fun c144 => ?_) (fun c144 => ?_)
    ·
     have hsk := hJP2.skip (fun e => c144 (by rw [e]))
     refine c_exit (e_Sx (e_Bx (e_S (c_region (wl (r_add rfl rfl rfl om) ?_)))))
     refine wmI rfl (x_nil (e_LS (i - (j + 1)) om agA ?_))
     first
      | exact ⟨j + 1, rep2, ch2, by omega, rfl, rfl, rfl, hB, hBA, hb3, ⟨_, hb6⟩, hb93, hsk⟩
      | exact ⟨j + 1, rep3, ch3, by omega, rfl, rfl, rfl, hB, hBA, hb3, ⟨_, hb6⟩, hb93, hJK.done⟩
    have hJK0 := JK.start hJP2 om
    refine c_skip (e_S (c_seq (c_region (wmS rfl (wmI rfl ?_)))))
    refine wl (r_ia (i := i) U26 sz55_UAll rfl rfl hil rfl) (wl (r_fa U55 sz53 dE rfl rfl rfl) (wl (r_ld1 (v := .slice _ _ _) U53 rfl rfl (hBA.cell hq8l (hri 1 _ rfl))) (wl (r_len U53 rfl) (wmI rfl (x_nil ?_)))))
    refine e_S (c_block ?_)
    refine c_loopS [21, 25, 27, 151, 152, 153, 154, 155, 156, 157, 158, 159, 160, 161, 162, 163, 164, 165, 166, 167, 168, 169, 170, 171, 172, 173, 174, 175, 176, 177, 178, 179, 180, 181, 182, 183, 184, 185, 186, 187, 188, 189, 190, 191, 192, 193, 194, 195, 196] (fun m g w' => ∃ (p : Nat) (rep3 : Nat → Nat) (ch3 : Bool), p ≤ (nd (VA gs gs.length) i).ln.length ∧ m = (nd (VA gs gs.length) i).ln.length - p ∧ g 151 = .int .i64 p ∧ g 21 = .bool ch3 ∧ Bel w w' ∧ Bel wA w' ∧ Blk w' b3 25 #[.slice A l.length c, .slice B fs.length d] ∧ (∃ z, Blk w' b6 28 #[z]) ∧ Blk w' b93 3 (RW (VA gs gs.length).length rep3) ∧ JK l (VA gs gs.length) (PA gs ats) (PA gs ats).length rep rep3 ch3 i j p 0) ((nd (VA gs gs.length) i).ln.length) ?_ (fun m g41 w31 hI => ?_)
    ·
     exact ⟨0, rep2, ch2, Nat.zero_le _, rfl, rfl, rfl, hB, hBA, hb3, ⟨_, hb6⟩, hb93, hJK0⟩
    obtain ⟨p, rep3, ch3, hpp, hmp, h151, h21, hB, hBA, hb3, ⟨z6, hb6⟩, hb93, hJK⟩ := hI
    refine c_know 151 (.int .i64 p) h151 nu (c_know 21 (.bool ch3) h21 nu (c_seq (c_region (wl (r_lss rfl rfl) (x_nil ?_)))))
    refine e_S (c_seq ?_)
    refine c_ifd rfl (fun c152 => ?_) (fun c152 => ?_)
    ·
     have hpl : p < (nd (VA gs gs.length) i).ln.length := by omega
     obtain ⟨lb1, lof1, rfl, hlb1, hlr1⟩ := hlni.at_ hBA hpl
     have hxr := hgyU.lr i hil _ (List.getElem_mem hpl)
     obtain ⟨tx, htx⟩ := int_nat hxr.1
     have htx2 : (((nd (VA gs gs.length) i).ln[p]'hpl)).2.toNat = tx := by omega
     have htxl : tx < (VA gs gs.length).length := by omega
     refine c_skip (e_S (c_seq (c_block (c_seq (c_region ?_)))))
     refine wl (r_ia (i := p) U53 sz74_GSearch rfl rfl hpl rfl) (wl (r_ldS U74 rfl rfl hlr1 sz74_GSearch) ?_)
     refine wl_al (cs := #[.int .i64 0, .int .i64 0]) ze74 rfl (fun b25 w32 hb25 hs hr => ?_)
     have or_b3_b25 : b3 < b25 := lL hb3.lt hr
     have or_b6_b25 : b6 < b25 := lL hb6.lt hr
     have or_b93_b25 : b93 < b25 := lL hb93.lt hr
     have lo25 := lT (Bel.size hB) hr
     have lo_hBA_b25 := lT (Bel.size hBA) hr
     replace hB := hB.tr0 hs
     replace hb3 := hb3.tr0 hs
     replace hb6 := hb6.tr0 hs
     replace hBA := hBA.tr0 hs
     replace hb93 := hb93.tr0 hs
     clear hs
     clear hr
     refine wl_stW hb25 rfl rfl sz74_GSearch rfl oneA (fun w33 hq hs => ?_)
     replace hB := hB.tr1 hs lo25
     replace hb3 := hb3.tr1 hs om
     replace hb6 := hb6.tr1 hs om
     replace hBA := hBA.tr1 hs lo_hBA_b25
     replace hb93 := hb93.tr1 hs om
     clear hs
     replace hb25 := hq
     refine x_nil (e_S (c_seq ?_))
     rw [htx] at hb25
     refine c_region (wmS rfl (wmI rfl (wl (r_ia (i := j) U26 sz55_UAll rfl rfl hjn rfl) (wl (r_fa U55 sz53 dE rfl rfl rfl) (wl (r_ld1 (v := .slice _ _ _) U53 rfl rfl (hBA.cell hq8l (hrj 1 _ rfl))) ?_)))))
     refine wl (r_len U53 rfl) (wmI rfl (x_nil (e_S (c_block ?_))))
     refine c_loopS [21, 27, 161, 162, 163, 164, 165, 166, 167, 168, 169, 170, 171, 172, 173, 174, 175, 176, 177, 178, 179, 180, 181, 182, 183, 184, 185, 186, 187, 188, 189, 190, 191, 192, 193, 194, 195] (fun m g w' => ∃ (q : Nat) (rep4 : Nat → Nat) (ch4 : Bool), q ≤ (nd (VA gs gs.length) j).ln.length ∧ m = (nd (VA gs gs.length) j).ln.length - q ∧ g 161 = .int .i64 q ∧ g 21 = .bool ch4 ∧ Bel w w' ∧ Bel wA w' ∧ Blk w' b3 25 #[.slice A l.length c, .slice B fs.length d] ∧ (∃ z, Blk w' b6 28 #[z]) ∧ Blk w' b93 3 (RW (VA gs gs.length).length rep4) ∧ Blk w' b25 74 #[.int .i64 (((nd (VA gs gs.length) i).ln[p]'hpl)).1, .int .i64 ((tx : Nat) : Int)] ∧ JK l (VA gs gs.length) (PA gs ats) (PA gs ats).length rep rep4 ch4 i j p q) ((nd (VA gs gs.length) j).ln.length) ?_ (fun m g44 w34 hI => ?_)
     ·
      exact ⟨0, rep3, ch3, Nat.zero_le _, rfl, rfl, rfl, hB, hBA, hb3, ⟨_, hb6⟩, hb93, hb25, hJK⟩
     obtain ⟨q, rep4, ch4, hqq, hmq, h161, h21, hB, hBA, hb3, ⟨z6, hb6⟩, hb93, hb25, hJK4⟩ := hI
     refine c_know 161 (.int .i64 q) h161 nu (c_know 21 (.bool ch4) h21 nu (c_seq (c_region (wl (r_lss rfl rfl) (x_nil ?_)))))
     refine e_S (c_seq ?_)
     refine c_ifd rfl (fun c162 => ?_) (fun c162 => ?_)
     ·
      have hql : q < (nd (VA gs gs.length) j).ln.length := by omega
      obtain ⟨lb2, lof2, rfl, hlb2, hlr2⟩ := hlnj.at_ hBA hql
      have hyr := hgyU.lr j hjn _ (List.getElem_mem hql)
      obtain ⟨ty, hty⟩ := int_nat hyr.1
      have hty2 : (((nd (VA gs gs.length) j).ln[q]'hql)).2.toNat = ty := by omega
      have htyl : ty < (VA gs gs.length).length := by omega
      refine c_skip (e_S (c_seq (c_block (c_seq (c_region ?_)))))
      refine wl (r_ia (i := q) U53 sz74_GSearch rfl rfl hql rfl) (wl (r_ldS U74 rfl rfl hlr2 sz74_GSearch) ?_)
      refine wl_al (cs := #[.int .i64 0, .int .i64 0]) ze74 rfl (fun b27 w35 hb27 hs hr => ?_)
      have or_b3_b27 : b3 < b27 := lL hb3.lt hr
      have or_b6_b27 : b6 < b27 := lL hb6.lt hr
      have or_b93_b27 : b93 < b27 := lL hb93.lt hr
      have or_b25_b27 : b25 < b27 := lL hb25.lt hr
      have lo27 := lT (Bel.size hB) hr
      have lo_hBA_b27 := lT (Bel.size hBA) hr
      replace hB := hB.tr0 hs
      replace hb3 := hb3.tr0 hs
      replace hb6 := hb6.tr0 hs
      replace hBA := hBA.tr0 hs
      replace hb93 := hb93.tr0 hs
      replace hb25 := hb25.tr0 hs
      clear hs
      clear hr
      refine wl_stW hb27 rfl rfl sz74_GSearch rfl oneA (fun w36 hq hs => ?_)
      replace hB := hB.tr1 hs lo27
      replace hb3 := hb3.tr1 hs om
      replace hb6 := hb6.tr1 hs om
      replace hBA := hBA.tr1 hs lo_hBA_b27
      replace hb93 := hb93.tr1 hs om
      replace hb25 := hb25.tr1 hs om
      clear hs
      replace hb27 := hq
      refine x_nil (e_S (c_seq ?_))
      rw [hty] at hb27
      refine c_cutS [165, 166, 167, 168, 169, 170, 171, 172, 173, 174, 175, 176, 177, 178, 179, 180, 181, 182] (fun g w' => (g 182 = .bool (decide ((((nd (VA gs gs.length) i).ln[p]'hpl)).1 = (((nd (VA gs gs.length) j).ln[q]'hql)).1 ∧ ¬ rep4 tx = rep4 ty))) ∧ Same [] w36 w') ?_ (fun g46 w37 hI => ?_)
      ·
       have hZ : SameQ [] w36 w36 := Same.refl _ _
       refine c_still kR kR (fun w38 hs => ?_)
       replace hB := hB.tr0 hs
       replace hb3 := hb3.tr0 hs
       replace hb6 := hb6.tr0 hs
       replace hBA := hBA.tr0 hs
       replace hb93 := hb93.tr0 hs
       replace hb25 := hb25.tr0 hs
       replace hb27 := hb27.tr0 hs
       replace hZ := SameQ.trans hZ hs (by simp)
       clear hs
       refine ws (r_fa U74 sz3_UAll dE rfl rfl rfl) (ws (r_ld1 (v := .int _ _) U3 rfl rfl (hb25.cell rfl)) (ws (r_fa U74 sz3_UAll dE rfl rfl rfl) (ws (r_ld1 (v := .int _ _) U3 rfl rfl (hb27.cell rfl)) (ws (r_eql rfl rfl) (ws (r_mv (v := .bool _) rfl) ?_)))))
       refine ws_cases 170 rfl (fun g170 => ?_) (fun g170 => ?_)
       ·
        refine wsgy 170 rfl rfl (r_mv (v := .slice _ _ _) rfl) (wsgy 170 rfl rfl (r_fa U74 sz3_UAll dE rfl rfl rfl) (wsgy 170 rfl rfl (r_ld1 (v := .int _ _) U3 rfl rfl (hb25.cell rfl)) (wsgy 170 rfl rfl (r_ia (i := tx) U51 sz3_UAll rfl rfl htxl rfl) (wsgy 170 rfl rfl (r_ld1 (v := .int _ _) U3 rfl rfl (hb93.cell (RW_get htxl))) (wsgy 170 rfl rfl (r_mv (v := .slice _ _ _) rfl) ?_)))))
        refine wsgy 170 rfl rfl (r_fa U74 sz3_UAll dE rfl rfl rfl) (wsgy 170 rfl rfl (r_ld1 (v := .int _ _) U3 rfl rfl (hb27.cell rfl)) (wsgy 170 rfl rfl (r_ia (i := ty) U51 sz3_UAll rfl rfl htyl rfl) (wsgy 170 rfl rfl (r_ld1 (v := .int _ _) U3 rfl rfl (hb93.cell (RW_get htyl))) (wsgy 170 rfl rfl (r_neq rfl rfl) (ws (r_pt (v := .bool _) rfl rfl) ?_)))))
        refine s_nil ?_
        refine e_R ⟨agA, ?_⟩
        refine ⟨?_, hZ⟩
        exact clA
       refine wsgn 170 rfl rfl rfl (wsgn 170 rfl rfl rfl (wsgn 170 rfl rfl rfl (wsgn 170 rfl rfl rfl (wsgn 170 rfl rfl rfl (wsgn 170 rfl rfl rfl ?_)))))
       refine wsgn 170 rfl rfl rfl (wsgn 170 rfl rfl rfl (wsgn 170 rfl rfl rfl (wsgn 170 rfl rfl rfl (wsgn 170 rfl rfl rfl (ws (r_pf (v := .bool _) rfl rfl) ?_)))))
       refine s_nil ?_
       refine e_R ⟨agA, ?_⟩
       refine ⟨?_, hZ⟩
       exact clA
      obtain ⟨h182, hs⟩ := hI
      replace hB := hB.tr0 hs
      replace hb3 := hb3.tr0 hs
      replace hb6 := hb6.tr0 hs
      replace hBA := hBA.tr0 hs
      replace hb93 := hb93.tr0 hs
      replace hb25 := hb25.tr0 hs
      replace hb27 := hb27.tr0 hs
      clear hs
      refine e_know 182 (.bool (decide ((((nd (VA gs gs.length) i).ln[p]'hpl)).1 = (((nd (VA gs gs.length) j).ln[q]'hql)).1 ∧ ¬ rep4 tx = rep4 ty))) h182 nu (e_S ?_)
      refine c_ifd rfl (fun c182 => ?_) (fun c182 => ?_)
      ·
       have hJKn := hJK4.ren hil hjn hpl hql c182.1 om om (by rw [htx2, hty2]; exact c182.2)
       rw [htx2, hty2] at hJKn
       refine c_seq ?_
       refine c_tail 11 kR kR (fun w39 hs => ?_)
       replace hB := hB.tr0 hs
       replace hb3 := hb3.tr0 hs
       replace hb6 := hb6.tr0 hs
       replace hBA := hBA.tr0 hs
       replace hb93 := hb93.tr0 hs
       replace hb25 := hb25.tr0 hs
       replace hb27 := hb27.tr0 hs
       clear hs
       refine ws (r_mv (v := .slice _ _ _) rfl) (ws (r_mv (v := .slice _ _ _) rfl) (ws (r_fa U74 sz3_UAll dE rfl rfl rfl) (ws (r_ld1 (v := .int _ _) U3 rfl rfl (hb25.cell rfl)) (ws (r_ia (i := tx) U51 sz3_UAll rfl rfl htxl rfl) (ws (r_ld1 (v := .int _ _) U3 rfl rfl (hb93.cell (RW_get htxl))) ?_)))))
       refine ws (r_mv (v := .slice _ _ _) rfl) (ws (r_fa U74 sz3_UAll dE rfl rfl rfl) (ws (r_ld1 (v := .int _ _) U3 rfl rfl (hb27.cell rfl)) (ws (r_ia (i := ty) U51 sz3_UAll rfl rfl htyl rfl) (ws (r_ld1 (v := .int _ _) U3 rfl rfl (hb93.cell (RW_get htyl))) (s_tail ?_)))))
       refine wl_cl fn46 (ren_any _ hn6 hb93) rfl (fun e' w40 hr => ?_)
       obtain ⟨rfl, hb93n, hs⟩ := hr
       replace hB := hB.tr1 hs lo93
       replace hBA := hBA.tr1 hs lo_hBA_b93
       replace hb3 := hb3.tr1 hs om
       replace hb6 := hb6.tr1 hs om
       replace hb25 := hb25.tr1 hs om
       clear hs
       replace hb93 : Blk w40 b93 3 (RW (VA gs gs.length).length _) := hb93n
       refine ⟨_, rfl, ?_⟩
       refine x_nil (e_S (c_region (waB rfl (x_nil (e_B ?_)))))
       refine e_S (c_region (wl (r_add rfl rfl rfl om) (wmI rfl (x_nil (e_LS ((nd (VA gs gs.length) j).ln.length - (q + 1)) om agA ?_)))))
       first
        | exact ⟨q + 1, _, true, by omega, rfl, rfl, rfl, hB, hBA, hb3, ⟨_, hb6⟩, hb93, hb25, hJKn⟩
        | exact ⟨q + 1, rep4, ch4, by omega, rfl, rfl, rfl, hB, hBA, hb3, ⟨_, hb6⟩, hb93, hb25, hJKs⟩
      have hJKs := hJK4.skip hpl hql (fun e => by rw [htx2, hty2]; exact Classical.byContradiction (fun h => c182 ⟨e, h⟩))
      refine c_skip (e_B (e_S (c_region (wl (r_add rfl rfl rfl om) (wmI rfl ?_)))))
      refine x_nil (e_LS ((nd (VA gs gs.length) j).ln.length - (q + 1)) om agA ?_)
      first
       | exact ⟨q + 1, _, true, by omega, rfl, rfl, rfl, hB, hBA, hb3, ⟨_, hb6⟩, hb93, hb25, hJKn⟩
       | exact ⟨q + 1, rep4, ch4, by omega, rfl, rfl, rfl, hB, hBA, hb3, ⟨_, hb6⟩, hb93, hb25, hJKs⟩
     have hqe : q = (nd (VA gs gs.length) j).ln.length := by omega
     subst hqe
     refine c_exit (e_Sx (e_LSx (e_Bx (e_B (e_S ?_)))))
     refine c_region (wl (r_add rfl rfl rfl om) (wmI rfl (x_nil (e_LS ((nd (VA gs gs.length) i).ln.length - (p + 1)) om agA ?_))))
     exact ⟨p + 1, rep4, ch4, by omega, rfl, rfl, rfl, hB, hBA, hb3, ⟨_, hb6⟩, hb93, hJK4.row⟩
    have hpe : p = (nd (VA gs gs.length) i).ln.length := by omega
    subst hpe
    refine c_exit (e_Sx (e_LSx (e_Bx (e_B (e_S ?_)))))
    refine c_region (wl (r_add rfl rfl rfl om) (wmI rfl (x_nil (e_LS (i - (j + 1)) om agA ?_))))
    first
     | exact ⟨j + 1, rep2, ch2, by omega, rfl, rfl, rfl, hB, hBA, hb3, ⟨_, hb6⟩, hb93, hsk⟩
     | exact ⟨j + 1, rep3, ch3, by omega, rfl, rfl, rfl, hB, hBA, hb3, ⟨_, hb6⟩, hb93, hJK.done⟩
   have hje : i = j := by omega
   subst hje
   refine c_exit (e_Sx (e_LSx (e_Bx (e_B (e_S ?_)))))
   refine c_region (wl (r_add rfl rfl rfl om) (wmI rfl (x_nil (e_LS ((VA gs gs.length).length - (i + 1)) om agA ?_))))
   exact ⟨i + 1, rep2, ch2, by omega, rfl, rfl, rfl, hB, hBA, hb3, ⟨_, hb6⟩, hb93, hJP2.row⟩
  have hie : i = (VA gs gs.length).length := by omega
  subst hie
  have hmeas := jp_meas hJP
  refine c_exit (e_Sx (e_LSx (e_Bx (e_B (e_LS (2 * roots (VA gs gs.length).length rep1 + chN ch1) om agA ?_)))))
  exact ⟨rep1, ch1, rfl, rfl, hB, hBA, hb3, ⟨_, hb6⟩, hb93, hJP.cs, fun h => by subst h; exact JP.end_ hgyU.srt hJP⟩
 have hJF := hjf c126
 have hmg0 : MJ l (VA gs gs.length) (PA gs ats) rep (fun _ => false) (fun _ => 0) (fun _ => []) 0 0 0 := MJ.start hS.pos
 refine c_exit (e_Sx (e_LSx (e_Bx (e_S (c_seq ?_)))))
 refine c_region (wmS rfl (wl (r_len U26 rfl) ?_))
 refine wl_mk (m := (VA gs gs.length).length) U26 in55_PGraph rfl rfl om om (fun b201 w41 hb201 hs hr => ?_)
 have or_b3_b201 : b3 < b201 := lL hb3.lt hr
 have or_b6_b201 : b6 < b201 := lL hb6.lt hr
 have or_b93_b201 : b93 < b201 := lL hb93.lt hr
 have lo201 := lT (Bel.size hB) hr
 have lo_hBA_b201 := lT (Bel.size hBA) hr
 replace hB := hB.tr0 hs
 replace hb3 := hb3.tr0 hs
 replace hb6 := hb6.tr0 hs
 replace hBA := hBA.tr0 hs
 replace hb93 := hb93.tr0 hs
 clear hs
 clear hr
 refine waS rfl (x_nil (e_S (c_seq ?_)))
 replace hb201 : Blk w41 b201 55 (row2 (VA gs gs.length).length (fun _ => .int .i64 0) (fun _ => .slice none 0 0)) := by
   have h := hb201
   rw [show (Value.agg #[.int .i64 0, .slice none 0 0]).cells = #[.int .i64 0, .slice none 0 0] from rfl, row2_made] at h
   exact h
 refine c_region (wmS rfl (wl (r_len U26 rfl) ?_))
 refine wl_mkR (m := (VA gs gs.length).length) U93 in4_GUnr rfl rfl rfl om om (fun b204 w42 hb204 hs hr => ?_)
 have or_b3_b204 : b3 < b204 := lL hb3.lt hr
 have or_b6_b204 : b6 < b204 := lL hb6.lt hr
 have or_b93_b204 : b93 < b204 := lL hb93.lt hr
 have or_b201_b204 : b201 < b204 := lL hb201.lt hr
 have lo204 := lT (Bel.size hB) hr
 have lo_hBA_b204 := lT (Bel.size hBA) hr
 replace hB := hB.tr0 hs
 replace hb3 := hb3.tr0 hs
 replace hb6 := hb6.tr0 hs
 replace hBA := hBA.tr0 hs
 replace hb93 := hb93.tr0 hs
 replace hb201 := hb201.tr0 hs
 clear hs
 clear hr
 refine waS rfl (x_nil (e_S (c_seq (c_seq (c_region ?_)))))
 refine wmS rfl (wl (r_len U26 rfl) (wmI rfl (x_nil (e_S (c_block ?_)))))
 refine c_loopS [7, 30, 31, 32, 33, 34, 35, 37, 38, 207, 208, 209, 210, 211, 212, 213, 214, 215, 216, 217, 218, 219, 220, 221, 222, 223, 224, 225, 226, 227, 228, 229, 230, 231, 232, 233, 234, 235, 236, 237, 238, 239, 240, 241, 242, 243, 244, 245, 246, 247, 248, 249, 250, 251, 252, 253, 254, 255, 256, 257, 258, 259, 260, 261, 262, 263, 264, 265, 266, 267, 268, 269, 270, 271, 272, 273, 274, 275, 276, 277, 278, 279, 280, 281, 282, 283, 284, 285, 286, 287, 288, 289, 290, 291, 292, 293, 294, 295, 296, 297, 298, 299, 300, 301, 302, 303, 304, 305, 306, 307, 308, 309, 310, 311, 312] (fun m g w' => ∃ (i : Nat) (seen : Nat → Bool) (T : Nat → Int) (L : Nat → List (Int × Int)) (V : Nat → Value), i ≤ (VA gs gs.length).length ∧ m = (VA gs gs.length).length - i ∧ g 207 = .int .i64 i ∧ Bel w w' ∧ Bel wA w' ∧ Blk w' b3 25 #[.slice A l.length c, .slice B fs.length d] ∧ (∃ z, Blk w' b6 28 #[z]) ∧ Blk w' b93 3 (RW (VA gs gs.length).length rep) ∧ Blk w' b204 4 (row (VA gs gs.length).length (fun x => .bool (seen x))) ∧ Blk w' b201 55 (row2 (VA gs gs.length).length (fun x => .int .i64 (T x)) V) ∧ (∀ x, x < (VA gs gs.length).length → RowO w' w.heap.size w'.heap.size (V x) (rpL rep (L x))) ∧ MJ l (VA gs gs.length) (PA gs ats) rep seen T L i i 0) ((VA gs gs.length).length) ?_ (fun m g56 w43 hI => ?_)
 ·
  exact ⟨0, fun _ => false, fun _ => 0, fun _ => [], fun _ => .slice none 0 0, Nat.zero_le _, rfl, rfl, hB, hBA, hb3, ⟨_, hb6⟩, hb93, hb204, hb201, fun x _ => ro_nil _ _ _, hmg0⟩
 obtain ⟨i, seen, T, L, V, hi, hmi, h207, hB, hBA, hb3, ⟨z6, hb6⟩, hb93, hb204, hb201, hrw, hMG⟩ := hI
 obtain ⟨bs, hbse⟩ : ∃ b, b = w43.heap.size := ⟨_, rfl⟩
 rw [← hbse] at hrw
 have hbz : bs ≤ w43.heap.size := Nat.le_of_eq hbse
 refine c_know 207 (.int .i64 i) h207 nu (c_seq (c_region (wl (r_lss rfl rfl) (x_nil (e_S ?_)))))
 refine c_seq ?_
 refine c_ifd rfl (fun c208 => ?_) (fun c208 => ?_)
 ·
  have hil : i < (VA gs gs.length).length := by omega
  obtain ⟨LAi, lci, hri, hlni⟩ := hNUc i hil
  rw [← nd_eq hil] at hri hlni
  have hmxi := hlni.1
  unfold maxI at hmxi
  have hcl := hJF.cs.lt i hil
  have htyi := hgyU.tr i hil
  obtain ⟨tyn, htyn⟩ := int_nat htyi.1
  have htcr := hMG.ty _ hcl
  obtain ⟨tcn, htcn⟩ := int_nat htcr.1
  refine c_skip (e_S (c_seq (c_block (c_seq (c_region ?_)))))
  refine wmI rfl (wl (r_ia (i := i) U26 sz55_UAll rfl rfl hil rfl) (wl (r_ldS U55 rfl rfl (hBA.range hq8l hri) sz55_UAll) ?_))
  refine wl_al (cs := #[.int .i64 0, .slice none 0 0]) ze55_UAll rfl (fun b31 w44 hb31 hs hr => ?_)
  have or_b3_b31 : b3 < b31 := lL hb3.lt hr
  have or_b6_b31 : b6 < b31 := lL hb6.lt hr
  have or_b93_b31 : b93 < b31 := lL hb93.lt hr
  have or_b201_b31 : b201 < b31 := lL hb201.lt hr
  have or_b204_b31 : b204 < b31 := lL hb204.lt hr
  have or_hbz_b31 := (lT hbz hr)
  have lo31 := lT (Bel.size hB) hr
  have lo_hBA_b31 := lT (Bel.size hBA) hr
  replace hB := hB.tr0 hs
  replace hb3 := hb3.tr0 hs
  replace hb6 := hb6.tr0 hs
  replace hBA := hBA.tr0 hs
  replace hb93 := hb93.tr0 hs
  replace hb201 := hb201.tr0 hs
  replace hb204 := hb204.tr0 hs
  replace hrw := fun x hx => (hrw x hx).tr hs (by simp)
  replace hbz := lT hbz (Same.size hs)
  clear hs
  clear hr
  refine waI rfl ?_
  refine wl_stW hb31 rfl rfl sz55_UAll rfl oneA (fun w45 hq hs => ?_)
  replace hB := hB.tr1 hs lo31
  replace hb3 := hb3.tr1 hs om
  replace hb6 := hb6.tr1 hs om
  replace hBA := hBA.tr1 hs lo_hBA_b31
  replace hb93 := hb93.tr1 hs om
  replace hb201 := hb201.tr1 hs om
  replace hb204 := hb204.tr1 hs om
  replace hrw := fun x hx => (hrw x hx).tr hs (fun g hg => by rw [List.mem_singleton.1 hg]; first | exact .inr ⟨_, _, hb31, by decide⟩ | exact .inl om)
  replace hbz := lT hbz (Same.size hs)
  clear hs
  replace hb31 := hq
  refine x_nil (e_S (c_seq ?_))
  rw [htyn] at hb31
  refine c_region (wmS rfl (wmI rfl (wl (r_ia (i := i) U51 sz3_UAll rfl rfl hil rfl) (wl (r_ld1 (v := .int _ _) U3 rfl rfl (hb93.cell (RW_get hil))) (waI rfl ?_)))))
  refine x_nil (e_S (c_seq (c_seq (c_region (wmS rfl ?_)))))
  refine wmI rfl (wl (r_ia (i := (rep i)) U93 sz4_GLoose rfl rfl hcl rfl) (wl (r_ld1 (v := .bool _) U4 rfl rfl (hb204.cell (row_get hcl))) (wl (r_not rfl) (x_nil (e_S ?_)))))
  refine c_cutS [7, 33, 34, 35, 221, 222, 223, 224, 225, 226, 227, 228, 229, 230, 231, 232, 233, 234, 235, 236, 237, 238, 239, 240, 241, 242, 243, 244, 245, 246, 247, 248, 249, 250, 251] (fun g w' => ∃ (seen2 : Nat → Bool) (T2 : Nat → Int), Bel w w' ∧ Bel wA w' ∧ Blk w' b3 25 #[.slice A l.length c, .slice B fs.length d] ∧ (∃ z, Blk w' b6 28 #[z]) ∧ Blk w' b93 3 (RW (VA gs gs.length).length rep) ∧ Blk w' b204 4 (row (VA gs gs.length).length (fun x => .bool (seen2 x))) ∧ Blk w' b201 55 (row2 (VA gs gs.length).length (fun x => .int .i64 (T2 x)) V) ∧ (∀ x, x < (VA gs gs.length).length → RowO w' w.heap.size bs (V x) (rpL rep (L x))) ∧ bs ≤ w'.heap.size ∧ Blk w' b31 55 #[.int .i64 ((tyn : Nat) : Int), .slice LAi (nd (VA gs gs.length) i).ln.length lci] ∧ MJ l (VA gs gs.length) (PA gs ats) rep seen2 T2 L (i + 1) i 0) ?_ (fun gx1 w46 hI => ?_)
  ·
   refine c_if rfl (fun c220 => ?_) (fun c220 => ?_)
   ·
    have hns : seen (rep i) = false := by simpa using c220
    have hMGa := hMG.first hS.vt hJF.cs hil htyi hns
    refine c_seq (c_region (wmS rfl (wmI rfl (wl (r_ia (i := (rep i)) U93 sz4_GLoose rfl rfl hcl rfl) ?_))))
    refine wl_st1 (v := .bool _) hb204 rfl rfl sz4_GLoose (by rw [row_size]; omega) rfl row_set (fun w47 hq hs => ?_)
    replace hB := hB.tr1 hs lo204
    replace hb3 := hb3.tr1 hs om
    replace hb6 := hb6.tr1 hs om
    replace hBA := hBA.tr1 hs lo_hBA_b204
    replace hb93 := hb93.tr1 hs om
    replace hb201 := hb201.tr1 hs om
    replace hrw := fun x hx => (hrw x hx).tr hs (fun g hg => by rw [List.mem_singleton.1 hg]; first | exact .inr ⟨_, _, hb204, by decide⟩ | exact .inl om)
    replace hbz := lT hbz (Same.size hs)
    replace hb31 := hb31.tr1 hs om
    clear hs
    replace hb204 := hq
    rw [row_setB (mk := seen)] at hb204
    refine x_nil (e_S (c_region (wmS rfl (wmI rfl (wl (r_fa U55 sz3_UAll dE rfl rfl rfl) ?_)))))
    refine wl (r_ld1 (v := .int _ _) U3 rfl rfl (hb31.cell rfl)) (wl (r_ia (i := (rep i)) U26 sz55_UAll rfl rfl hcl rfl) (wl (r_fa U55 sz3_UAll dE rfl rfl rfl) ?_))
    refine wl_st1 (v := .int _ _) hb201 rfl rfl sz3_UAll (by rw [row2_size]; show 0 + rep i * 2 + 0 < (VA gs gs.length).length * 2; omega) rfl row2_set0 (fun w48 hq hs => ?_)
    replace hB := hB.tr1 hs lo201
    replace hb3 := hb3.tr1 hs om
    replace hb6 := hb6.tr1 hs om
    replace hBA := hBA.tr1 hs lo_hBA_b201
    replace hb93 := hb93.tr1 hs om
    replace hb204 := hb204.tr1 hs om
    replace hrw := fun x hx => (hrw x hx).tr hs (fun g hg => by rw [List.mem_singleton.1 hg]; first | exact .inr ⟨_, _, hb201, by decide⟩ | exact .inl om)
    replace hbz := lT hbz (Same.size hs)
    replace hb31 := hb31.tr1 hs om
    clear hs
    replace hb201 := hq
    rw [row2_congr (f' := fun x => .int .i64 (if x = rep i then (nd (VA gs gs.length) i).ty else T x)) (h' := V) (fun x _ => by by_cases e : x = rep i <;> simp [e, htyn]) (fun x _ => rfl)] at hb201
    refine x_nil ?_
    refine e_R ⟨agA, ?_⟩
    first
     | exact ⟨_, _, hB, hBA, hb3, ⟨_, hb6⟩, hb93, hb204, hb201, hrw, hbz, hb31, hMGa⟩
     | exact ⟨_, _, hB, hBA, hb3, ⟨_, hb6⟩, hb93, hb204, hb201, hrw, hbz, hb31, hMGb⟩
   have hsn : seen (rep i) = true := by simpa using c220
   refine c_seq ?_
   have hctc : w45.cell? ⟨b201, 0 + rep i * 2 + 0, none⟩ = some (.int .i64 ((tcn : Nat) : Int)) := by rw [← htcn]; exact hb201.cell (row2_get0 hcl)
   clear hctc
   refine c_monoTO 17 [231, 232, 233, 234, 235, 236, 237, 238, 239, 240, 230, 241, 242, 243, 33, 34, 35] (fun _ => false) (fun ix v wv => match ix with | 0 => v = .pointer (some ⟨b3, 0, none⟩) | 1 => v = .slice A l.length c | 2 => v = .slice (some ⟨b201, 0, none⟩) (VA gs gs.length).length (VA gs gs.length).length | 3 => v = .int .i64 ((rep i : Nat) : Int) | 4 => v = .pointer (some ⟨b201, 0 + rep i * 2, none⟩) | 5 => v = .pointer (some ⟨b201, 0 + rep i * 2 + 0, none⟩) | 6 => v = .int .i64 ((tcn : Nat) : Int) | 7 => v = .pointer (some ⟨b31, 0, none⟩) | 8 => v = .int .i64 ((tyn : Nat) : Int) | 9 => ∃ u : Bool, v = .tuple #[.int .i64 ((meet l tcn tyn).1 : Nat), .bool (meet l tcn tyn).2.1, .bool u] | 10 => ∃ u : Bool, v = .tuple #[.int .i64 ((meet l tcn tyn).1 : Nat), .bool (meet l tcn tyn).2.1, .bool u] | 11 => v = .int .i64 ((meet l tcn tyn).1 : Nat) | 12 => v = .bool (meet l tcn tyn).2.1 | 13 => ∃ u : Bool, v = .bool u | 14 => v = .int .i64 ((meet l tcn tyn).1 : Nat) | 15 => v = .bool (meet l tcn tyn).2.1 | 16 => ∃ u : Bool, v = .bool u | _ => True) kR kR ?_ ?_ ?_
   ·
    intro ix v wv wv2 h hs
    match ix, h with
    | 0, h => exact h
    | 1, h => exact h
    | 2, h => exact h
    | 3, h => exact h
    | 4, h => exact h
    | 5, h => exact h
    | 6, h => exact h
    | 7, h => exact h
    | 8, h => exact h
    | 9, h => exact h
    | 10, h => exact h
    | 11, h => exact h
    | 12, h => exact h
    | 13, h => exact h
    | 14, h => exact h
    | 15, h => exact h
    | 16, h => exact h
    | _ + 17, h => exact trivial
   ·
    intro ix o hix hoq gg wx hs hd hdis
    match ix, hix, hoq with
    | 0, _, hoq =>
     obtain rfl := sI hoq
     have hs0 := hs
     replace hb3 := hb3.tr0 hs
     clear hs
     refine os_rv (r_fa U25 sz22_SFind dE rfl rfl rfl) ⟨Same.refl _ _, ?_, frsh_no⟩
     exact rfl
    | 1, _, hoq =>
     obtain rfl := sI hoq
     have hs0 := hs
     replace hb3 := hb3.tr0 hs
     clear hs
     have d0 : gg 231 = .pointer (some ⟨b3, 0, none⟩) := hd 0 (dep_of kR)
     have e231 := d0
     refine os_know 231 (.pointer (some ⟨b3, 0, none⟩)) e231 nu ?_
     refine os_rv (r_ld1 (v := .slice _ _ _) U22 rfl rfl (hb3.cell rfl)) ⟨Same.refl _ _, ?_, frsh_no⟩
     exact rfl
    | 2, _, hoq =>
     obtain rfl := sI hoq
     have hs0 := hs
     replace hb201 := hb201.tr0 hs
     clear hs
     refine os_rv (r_mv (v := .slice _ _ _) rfl) ⟨Same.refl _ _, ?_, frsh_no⟩
     exact rfl
    | 3, _, hoq =>
     obtain rfl := sI hoq
     have hs0 := hs
     clear hs
     refine os_rv (r_mv (v := .int _ _) rfl) ⟨Same.refl _ _, ?_, frsh_no⟩
     exact rfl
    | 4, _, hoq =>
     obtain rfl := sI hoq
     have hs0 := hs
     clear hs
     have d2 : gg 233 = .slice (some ⟨b201, 0, none⟩) (VA gs gs.length).length (VA gs gs.length).length := hd 2 (dep_of kR)
     have e233 := d2
     have d3 : gg 234 = .int .i64 ((rep i : Nat) : Int) := hd 3 (dep_of kR)
     have e234 := d3
     refine os_know 233 (.slice (some ⟨b201, 0, none⟩) (VA gs gs.length).length (VA gs gs.length).length) e233 nu (os_know 234 (.int .i64 ((rep i : Nat) : Int)) e234 nu ?_)
     refine os_rv (r_ia (i := (rep i)) U26 sz55_UAll rfl rfl hcl rfl) ⟨Same.refl _ _, ?_, frsh_no⟩
     exact rfl
    | 5, _, hoq =>
     obtain rfl := sI hoq
     have hs0 := hs
     clear hs
     have d4 : gg 235 = .pointer (some ⟨b201, 0 + rep i * 2, none⟩) := hd 4 (dep_of kR)
     have e235 := d4
     refine os_know 235 (.pointer (some ⟨b201, 0 + rep i * 2, none⟩)) e235 nu ?_
     refine os_rv (r_fa U55 sz3_UAll dE rfl rfl rfl) ⟨Same.refl _ _, ?_, frsh_no⟩
     exact rfl
    | 6, _, hoq =>
     obtain rfl := sI hoq
     have hs0 := hs
     replace hb201 := hb201.tr0 hs
     clear hs
     have d5 : gg 236 = .pointer (some ⟨b201, 0 + rep i * 2 + 0, none⟩) := hd 5 (dep_of kR)
     have e236 := d5
     refine os_know 236 (.pointer (some ⟨b201, 0 + rep i * 2 + 0, none⟩)) e236 nu ?_
     refine os_rv (r_ld1 (v := .int .i64 ((tcn : Nat) : Int)) U3 rfl rfl (by rw [← htcn]; exact hb201.cell (row2_get0 hcl))) ⟨Same.refl _ _, ?_, frsh_no⟩
     exact rfl
    | 7, _, hoq =>
     obtain rfl := sI hoq
     have hs0 := hs
     replace hb31 := hb31.tr0 hs
     clear hs
     refine os_rv (r_fa U55 sz3_UAll dE rfl rfl rfl) ⟨Same.refl _ _, ?_, frsh_no⟩
     exact rfl
    | 8, _, hoq =>
     obtain rfl := sI hoq
     have hs0 := hs
     replace hb31 := hb31.tr0 hs
     clear hs
     have d7 : gg 238 = .pointer (some ⟨b31, 0, none⟩) := hd 7 (dep_of kR)
     have e238 := d7
     refine os_know 238 (.pointer (some ⟨b31, 0, none⟩)) e238 nu ?_
     refine os_rv (r_ld1 (v := .int _ _) U3 rfl rfl (hb31.cell rfl)) ⟨Same.refl _ _, ?_, frsh_no⟩
     exact rfl
    | 9, _, hoq =>
     obtain rfl := sI hoq
     have hs0 := hs
     replace hB := hB.tr0 hs
     clear hs
     have d1 : gg 232 = .slice A l.length c := hd 1 (dep_of kR)
     have e232 := d1
     have d6 : gg 237 = .int .i64 ((tcn : Nat) : Int) := hd 6 (dep_of kR)
     have e237 := d6
     have d8 : gg 239 = .int .i64 ((tyn : Nat) : Int) := hd 8 (dep_of kR)
     have e239 := d8
     refine os_know 232 (.slice A l.length c) e232 nu (os_know 237 (.int .i64 ((tcn : Nat) : Int)) e237 nu (os_know 239 (.int .i64 ((tyn : Nat) : Int)) e239 nu ?_))
     refine os_cl fn47 (smeet_any A c l tcn tyn wx (hT.mono hB) hS.vt hS.le om om) rfl (fun e' w2 hr => ?_)
     obtain ⟨⟨u, rfl⟩, hs⟩ := hr
     exact ⟨_, rfl, Same.of_bel hs, ⟨_, rfl⟩, frsh_no⟩
    | 10, _, hoq =>
     obtain rfl := sI hoq
     have hs0 := hs
     clear hs
     have d9 : ∃ u : Bool, gg 240 = .tuple #[.int .i64 ((meet l tcn tyn).1 : Nat), .bool (meet l tcn tyn).2.1, .bool u] := hd 9 (dep_of kR)
     obtain ⟨u9, e240⟩ := d9
     refine os_know 240 (.tuple #[.int .i64 ((meet l tcn tyn).1 : Nat), .bool (meet l tcn tyn).2.1, .bool u9]) e240 nu ?_
     refine os_rv (r_mv (v := .tuple _) rfl) ⟨Same.refl _ _, ?_, frsh_no⟩
     exact ⟨_, rfl⟩
    | 11, _, hoq =>
     obtain rfl := sI hoq
     have hs0 := hs
     clear hs
     have d10 : ∃ u : Bool, gg 230 = .tuple #[.int .i64 ((meet l tcn tyn).1 : Nat), .bool (meet l tcn tyn).2.1, .bool u] := hd 10 (dep_of kR)
     obtain ⟨u10, e230⟩ := d10
     refine os_know 230 (.tuple #[.int .i64 ((meet l tcn tyn).1 : Nat), .bool (meet l tcn tyn).2.1, .bool u10]) e230 nu ?_
     refine os_rv (r_ex (v := .int _ _) rfl rfl) ⟨Same.refl _ _, ?_, frsh_no⟩
     exact rfl
    | 12, _, hoq =>
     obtain rfl := sI hoq
     have hs0 := hs
     clear hs
     have d10 : ∃ u : Bool, gg 230 = .tuple #[.int .i64 ((meet l tcn tyn).1 : Nat), .bool (meet l tcn tyn).2.1, .bool u] := hd 10 (dep_of kR)
     obtain ⟨u10, e230⟩ := d10
     refine os_know 230 (.tuple #[.int .i64 ((meet l tcn tyn).1 : Nat), .bool (meet l tcn tyn).2.1, .bool u10]) e230 nu ?_
     refine os_rv (r_ex (v := .bool _) rfl rfl) ⟨Same.refl _ _, ?_, frsh_no⟩
     exact rfl
    | 13, _, hoq =>
     obtain rfl := sI hoq
     have hs0 := hs
     clear hs
     have d10 : ∃ u : Bool, gg 230 = .tuple #[.int .i64 ((meet l tcn tyn).1 : Nat), .bool (meet l tcn tyn).2.1, .bool u] := hd 10 (dep_of kR)
     obtain ⟨u10, e230⟩ := d10
     refine os_know 230 (.tuple #[.int .i64 ((meet l tcn tyn).1 : Nat), .bool (meet l tcn tyn).2.1, .bool u10]) e230 nu ?_
     refine os_rv (r_ex (v := .bool _) rfl rfl) ⟨Same.refl _ _, ?_, frsh_no⟩
     exact ⟨_, rfl⟩
    | 14, _, hoq =>
     obtain rfl := sI hoq
     have hs0 := hs
     clear hs
     have d11 : gg 241 = .int .i64 ((meet l tcn tyn).1 : Nat) := hd 11 (dep_of kR)
     have e241 := d11
     refine os_know 241 (.int .i64 ((meet l tcn tyn).1 : Nat)) e241 nu ?_
     refine os_rv (r_as (v := .int _ _) rfl) ⟨Same.refl _ _, ?_, frsh_no⟩
     exact rfl
    | 15, _, hoq =>
     obtain rfl := sI hoq
     have hs0 := hs
     clear hs
     have d12 : gg 242 = .bool (meet l tcn tyn).2.1 := hd 12 (dep_of kR)
     have e242 := d12
     refine os_know 242 (.bool (meet l tcn tyn).2.1) e242 nu ?_
     refine os_rv (r_as (v := .bool _) rfl) ⟨Same.refl _ _, ?_, frsh_no⟩
     exact rfl
    | 16, _, hoq =>
     obtain rfl := sI hoq
     have hs0 := hs
     clear hs
     have d13 : ∃ u : Bool, gg 243 = .bool u := hd 13 (dep_of kR)
     obtain ⟨u13, e243⟩ := d13
     refine os_know 243 (.bool u13) e243 nu ?_
     refine os_rv (r_as (v := .bool _) rfl) ⟨Same.refl _ _, ?_, frsh_no⟩
     exact ⟨_, rfl⟩
    | _ + 17, hix, _ => exact absurd hix om
   intro gg w49 hs hR hdis
   have hs0 := hs
   replace hB := hB.tr0 hs
   replace hb3 := hb3.tr0 hs
   replace hb6 := hb6.tr0 hs
   replace hBA := hBA.tr0 hs
   replace hb93 := hb93.tr0 hs
   replace hb201 := hb201.tr0 hs
   replace hb204 := hb204.tr0 hs
   replace hrw := fun x hx => (hrw x hx).tr hs (by simp)
   replace hbz := lT hbz (Same.size hs)
   replace hb31 := hb31.tr0 hs
   clear hs
   have d14 : gg 33 = .int .i64 ((meet l tcn tyn).1 : Nat) := hR 14 dE
   have e33 := d14
   have d15 : gg 34 = .bool (meet l tcn tyn).2.1 := hR 15 dE
   have e34 := d15
   refine wl_know 33 (.int .i64 ((meet l tcn tyn).1 : Nat)) e33 nu (wl_know 34 (.bool (meet l tcn tyn).2.1) e34 nu (x_nil (e_S (c_seq (c_seq ?_)))))
   refine c_region (wmB rfl (wl (r_not rfl) (x_nil (e_S ?_))))
   refine c_if rfl (fun c245 => ?_) (fun c245 => ?_)
   ·
    have hmf : (meet l tcn tyn).2.1 = false := by simpa using c245
    refine c_seq (c_region (wl (r_bd (vs := #[]) (cs := #[.slice none 0 0]) (by simp) kR) ?_))
    refine wl_stW hb6 rfl rfl sz28_UAll rfl oneA (fun w50 hq hs => ?_)
    replace hB := hB.tr1 hs lo6
    replace hb3 := hb3.tr1 hs om
    replace hb93 := hb93.tr1 hs om
    replace hb201 := hb201.tr1 hs om
    replace hb204 := hb204.tr1 hs om
    replace hrw := fun x hx => (hrw x hx).tr hs (fun g hg => by rw [List.mem_singleton.1 hg]; first | exact .inr ⟨_, _, hb6, by decide⟩ | exact .inl om)
    replace hbz := lT hbz (Same.size hs)
    replace hb31 := hb31.tr1 hs om
    clear hs
    replace hb6 := hq
    refine waB rfl (x_nil (e_S (c_ret (e_Sr (e_RSr ?_)))))
    refine e_Sr (e_Br (e_Sr (e_LSr (e_Br (e_Sr ?_)))))
    refine fin2 (.inl rfl) rfl (rr_cell U28 rfl rfl hb6.range0 sz28_UAll) rfl ?_
    exact ⟨⟨none, [], 0, false, rfl, fun w2 _ => nodes_nil w2 none, .inr ⟨rfl, rfl, hMG.fail hS hJF.cs hil htyi hsn (by rw [htcn, htyn, Int.toNat_natCast, Int.toNat_natCast]; exact hmf)⟩⟩, hB⟩
   have hmt : (meet l tcn tyn).2.1 = true := by simpa using c245
   have hMGb := hMG.meet hS hJF.cs hil hsn (m := (meet l tcn tyn).1) (by rw [htcn, htyn, Int.toNat_natCast, Int.toNat_natCast]; exact hmt) (by rw [htcn, htyn, Int.toNat_natCast, Int.toNat_natCast])
   refine c_skip (e_S (c_region (wmS rfl (wmI rfl (wmI rfl ?_)))))
   refine wl (r_ia (i := (rep i)) U26 sz55_UAll rfl rfl hcl rfl) (wl (r_fa U55 sz3_UAll dE rfl rfl rfl) ?_)
   refine wl_st1 (v := .int _ _) hb201 rfl rfl sz3_UAll (by rw [row2_size]; show 0 + rep i * 2 + 0 < (VA gs gs.length).length * 2; omega) rfl row2_set0 (fun w51 hq hs => ?_)
   replace hB := hB.tr1 hs lo201
   replace hb3 := hb3.tr1 hs om
   replace hb6 := hb6.tr1 hs om
   replace hBA := hBA.tr1 hs lo_hBA_b201
   replace hb93 := hb93.tr1 hs om
   replace hb204 := hb204.tr1 hs om
   replace hrw := fun x hx => (hrw x hx).tr hs (fun g hg => by rw [List.mem_singleton.1 hg]; first | exact .inr ⟨_, _, hb201, by decide⟩ | exact .inl om)
   replace hbz := lT hbz (Same.size hs)
   replace hb31 := hb31.tr1 hs om
   clear hs
   replace hb201 := hq
   rw [row2_congr (f' := fun x => .int .i64 (if x = rep i then ((meet l tcn tyn).1 : Int) else T x)) (h' := V) (fun x _ => by by_cases e : x = rep i <;> simp [e]) (fun x _ => rfl)] at hb201
   refine x_nil ?_
   refine e_R ⟨agA, ?_⟩
   first
    | exact ⟨_, _, hB, hBA, hb3, ⟨_, hb6⟩, hb93, hb204, hb201, hrw, hbz, hb31, hMGa⟩
    | exact ⟨_, _, hB, hBA, hb3, ⟨_, hb6⟩, hb93, hb204, hb201, hrw, hbz, hb31, hMGb⟩
  obtain ⟨seen2, T2, hB, hBA, hb3, ⟨z6, hb6⟩, hb93, hb204, hb201, hrw, hbz, hb31, hMGs⟩ := hI
  refine e_S (c_seq (c_region (wl (r_fa U55 sz53 dE rfl rfl rfl) (wl (r_ld1 (v := .slice _ _ _) U53 rfl rfl (hb31.cell rfl)) (wl (r_len U53 rfl) ?_)))))
  refine wmI rfl (x_nil (e_S (c_block ?_)))
  refine c_loopS [37, 38, 255, 256, 257, 258, 259, 260, 261, 262, 263, 264, 265, 266, 267, 268, 269, 270, 271, 272, 273, 274, 275, 276, 277, 278, 279, 280, 281, 282, 283, 284, 285, 286, 287, 288, 289, 290, 291, 292, 293, 294, 295, 296, 297, 298, 299, 300, 301, 302, 303, 304, 305, 306, 307, 308, 309, 310, 311] (fun m g w' => ∃ (q : Nat) (L2 : Nat → List (Int × Int)) (V2 : Nat → Value), q ≤ (nd (VA gs gs.length) i).ln.length ∧ m = (nd (VA gs gs.length) i).ln.length - q ∧ g 255 = .int .i64 q ∧ Bel w w' ∧ Bel wA w' ∧ Blk w' b3 25 #[.slice A l.length c, .slice B fs.length d] ∧ (∃ z, Blk w' b6 28 #[z]) ∧ Blk w' b93 3 (RW (VA gs gs.length).length rep) ∧ Blk w' b204 4 (row (VA gs gs.length).length (fun x => .bool (seen2 x))) ∧ Blk w' b201 55 (row2 (VA gs gs.length).length (fun x => .int .i64 (T2 x)) V2) ∧ (∀ x, x < (VA gs gs.length).length → RowO w' w.heap.size w'.heap.size (V2 x) (rpL rep (L2 x))) ∧ MJ l (VA gs gs.length) (PA gs ats) rep seen2 T2 L2 (i + 1) i q) ((nd (VA gs gs.length) i).ln.length) ?_ (fun m g67 w52 hI => ?_)
  ·
   exact ⟨0, L, V, Nat.zero_le _, rfl, rfl, hB, hBA, hb3, ⟨_, hb6⟩, hb93, hb204, hb201, fun x hx => (hrw x hx).up hbz, hMGs⟩
  obtain ⟨q, L2, V2, hqq, hmq, h255, hB, hBA, hb3, ⟨z6, hb6⟩, hb93, hb204, hb201, hrw, hMG3⟩ := hI
  obtain ⟨bs, hbse⟩ : ∃ b, b = w52.heap.size := ⟨_, rfl⟩
  rw [← hbse] at hrw
  have hbz : bs ≤ w52.heap.size := Nat.le_of_eq hbse
  refine c_know 255 (.int .i64 q) h255 nu (c_seq (c_region (wl (r_lss rfl rfl) (x_nil (e_S ?_)))))
  refine c_seq ?_
  refine c_ifd rfl (fun c256 => ?_) (fun c256 => ?_)
  ·
   have hql : q < (nd (VA gs gs.length) i).ln.length := by omega
   obtain ⟨lb1, lof1, rfl, hlb1, hlr1⟩ := hlni.at_ hBA hql
   have hxr := hgyU.lr i hil _ (List.getElem_mem hql)
   obtain ⟨tx, htx⟩ := int_nat hxr.1
   have htx2 : (((nd (VA gs gs.length) i).ln[q]'hql)).2.toNat = tx := by omega
   have htxl : tx < (VA gs gs.length).length := by omega
   have hUf2 := VA_feat hUf gs.length (Nat.le_refl _)
   have hLl : (L2 (rep i)).length ≤ nf := by
     have h := srt_len (nf := nf) (lo := 0) (hMG3.srt (rep i)) (fun z hz => by
       obtain ⟨u, hu, _, hm⟩ := hMG3.val _ z hz
       exact hUf2 u hu z hm) (Int.le_refl _) om
     omega
   have hrl := rpL_len rep (L2 (rep i))
   refine c_skip (e_S (c_seq (c_block (c_seq (c_region ?_)))))
   refine wl (r_ia (i := q) U53 sz74_GSearch rfl rfl hql rfl) (wl (r_ldS U74 rfl rfl hlr1 sz74_GSearch) ?_)
   refine wl_al (cs := #[.int .i64 0, .int .i64 0]) ze74 rfl (fun b37 w53 hb37 hs hr => ?_)
   have or_b3_b37 : b3 < b37 := lL hb3.lt hr
   have or_b6_b37 : b6 < b37 := lL hb6.lt hr
   have or_b93_b37 : b93 < b37 := lL hb93.lt hr
   have or_b201_b37 : b201 < b37 := lL hb201.lt hr
   have or_b204_b37 : b204 < b37 := lL hb204.lt hr
   have or_hbz_b37 := (lT hbz hr)
   have lo37 := lT (Bel.size hB) hr
   have lo_hBA_b37 := lT (Bel.size hBA) hr
   replace hB := hB.tr0 hs
   replace hb3 := hb3.tr0 hs
   replace hb6 := hb6.tr0 hs
   replace hBA := hBA.tr0 hs
   replace hb93 := hb93.tr0 hs
   replace hb201 := hb201.tr0 hs
   replace hb204 := hb204.tr0 hs
   replace hrw := fun x hx => (hrw x hx).tr hs (by simp)
   replace hbz := lT hbz (Same.size hs)
   clear hs
   clear hr
   refine wl_stW hb37 rfl rfl sz74_GSearch rfl oneA (fun w54 hq hs => ?_)
   replace hB := hB.tr1 hs lo37
   replace hb3 := hb3.tr1 hs om
   replace hb6 := hb6.tr1 hs om
   replace hBA := hBA.tr1 hs lo_hBA_b37
   replace hb93 := hb93.tr1 hs om
   replace hb201 := hb201.tr1 hs om
   replace hb204 := hb204.tr1 hs om
   replace hrw := fun x hx => (hrw x hx).tr hs (fun g hg => by rw [List.mem_singleton.1 hg]; first | exact .inr ⟨_, _, hb37, by decide⟩ | exact .inl om)
   replace hbz := lT hbz (Same.size hs)
   clear hs
   replace hb37 := hq
   refine x_nil (e_S (c_seq ?_))
   rw [htx] at hb37
   refine c_region (wmS rfl (wl (r_bd1 (v0 := .slice _ _ _) (fun v0 => #[v0]) rfl kR) (wmI rfl (wl (r_fa U74 sz3_UAll dE rfl rfl rfl) (wl (r_ld1 (v := .int _ _) U3 rfl rfl (hb37.cell rfl)) ?_)))))
   refine wl_cl fn48 (rtn_any (mg_nodes hb201 hn6 hrw) hcl) rfl (fun e' w55 hr => ?_)
   obtain ⟨rfl, hs⟩ := hr
   replace hs := Same.of_bel hs
   replace hB := hB.tr0 hs
   replace hb3 := hb3.tr0 hs
   replace hb6 := hb6.tr0 hs
   replace hBA := hBA.tr0 hs
   replace hb93 := hb93.tr0 hs
   replace hb201 := hb201.tr0 hs
   replace hb204 := hb204.tr0 hs
   replace hrw := fun x hx => (hrw x hx).tr hs (by simp)
   replace hbz := lT hbz (Same.size hs)
   replace hb37 := hb37.tr0 hs
   clear hs
   refine ⟨_, rfl, ?_⟩
   refine wl (r_lss rfl rfl) (x_nil (e_S ?_))
   refine c_ifd rfl (fun c265 => ?_) (fun c265 => ?_)
   ·
    refine c_seq (c_region (waI rfl (x_nil (e_S (c_seq ?_)))))
    refine c_block ?_
    refine c_loopS [38, 266, 267, 268, 269, 270, 271, 272, 273, 274, 275, 276, 277, 278, 279, 280, 281, 282, 283, 284, 285, 286, 287, 288, 289] (fun m g w' => ∃ kk : Nat, kk ≤ (L2 (rep i)).length ∧ m = (L2 (rep i)).length - kk ∧ g 38 = .int .i64 kk ∧ Bel w w' ∧ Bel wA w' ∧ Blk w' b3 25 #[.slice A l.length c, .slice B fs.length d] ∧ (∃ z, Blk w' b6 28 #[z]) ∧ Blk w' b93 3 (RW (VA gs gs.length).length rep) ∧ Blk w' b204 4 (row (VA gs gs.length).length (fun x => .bool (seen2 x))) ∧ Blk w' b201 55 (row2 (VA gs gs.length).length (fun x => .int .i64 (T2 x)) V2) ∧ (∀ x, x < (VA gs gs.length).length → RowO w' w.heap.size bs (V2 x) (rpL rep (L2 x))) ∧ bs ≤ w'.heap.size ∧ Blk w' b37 74 #[.int .i64 (((nd (VA gs gs.length) i).ln[q]'hql)).1, .int .i64 ((tx : Nat) : Int)] ∧ (∀ u (hu : u < (L2 (rep i)).length), u < kk → ((L2 (rep i))[u]).1 < (((nd (VA gs gs.length) i).ln[q]'hql)).1)) ((L2 (rep i)).length) ?_ (fun m g71 w56 hI => ?_)
    ·
     exact ⟨0, Nat.zero_le _, rfl, rfl, hB, hBA, hb3, ⟨_, hb6⟩, hb93, hb204, hb201, hrw, hbz, hb37, fun u hu h => absurd h (Nat.not_lt_zero _)⟩
    obtain ⟨kk, hkk, hmk, h38, hB, hBA, hb3, ⟨z6, hb6⟩, hb93, hb204, hb201, hrw, hbz, hb37, hlow⟩ := hI
    obtain ⟨AV, cV, hVc, _, _⟩ := hrw (rep i) hcl
    refine c_know 38 (.int .i64 kk) h38 nu (c_seq (c_seq ?_))
    refine c_cutS [266, 267, 268, 269, 270, 271, 272, 273, 274, 275, 276, 277, 278, 279, 280, 281, 282, 283, 284, 285, 286, 287] (fun g w' => (g 287 = .bool (decide (kk < (L2 (rep i)).length ∧ ((L2 (rep i)).getD kk (0, 0)).1 < (((nd (VA gs gs.length) i).ln[q]'hql)).1))) ∧ Same [] w56 w') ?_ (fun g71 w57 hI => ?_)
    ·
     have hZ : SameQ [] w56 w56 := Same.refl _ _
     refine c_still kR kR (fun w58 hs => ?_)
     replace hB := hB.tr0 hs
     replace hb3 := hb3.tr0 hs
     replace hb6 := hb6.tr0 hs
     replace hBA := hBA.tr0 hs
     replace hb93 := hb93.tr0 hs
     replace hb201 := hb201.tr0 hs
     replace hb204 := hb204.tr0 hs
     replace hrw := fun x hx => (hrw x hx).tr hs (by simp)
     replace hbz := lT hbz (Same.size hs)
     replace hb37 := hb37.tr0 hs
     replace hZ := SameQ.trans hZ hs (by simp)
     clear hs
     refine ws (r_mv (v := .int _ _) rfl) (ws (r_mv (v := .slice _ _ _) rfl) (ws (r_mv (v := .int _ _) rfl) (ws (r_ia (i := (rep i)) U26 sz55_UAll rfl rfl hcl rfl) (ws (r_fa U55 sz53 dE rfl rfl rfl) (ws (r_ld1 (v := .slice AV (rpL rep (L2 (rep i))).length cV) U53 rfl rfl (by have h := hb201.cell (row2_get1 hcl); rw [hVc] at h; exact h)) ?_)))))
     refine ws (r_len U53 rfl) (ws (r_lss rfl rfl) (ws (r_mv (v := .bool _) rfl) ?_))
     refine ws_cases 274 rfl (fun g274 => ?_) (fun g274 => ?_)
     ·
      refine wsgy 274 rfl rfl (r_mv (v := .slice _ _ _) rfl) (wsgy 274 rfl rfl (r_mv (v := .int _ _) rfl) (wsgy 274 rfl rfl (r_ia (i := (rep i)) U26 sz55_UAll rfl rfl hcl rfl) (wsgy 274 rfl rfl (r_fa U55 sz53 dE rfl rfl rfl) (wsgy 274 rfl rfl (r_ld1 (v := .slice AV (rpL rep (L2 (rep i))).length cV) U53 rfl rfl (by have h := hb201.cell (row2_get1 hcl); rw [hVc] at h; exact h)) (wsgy 274 rfl rfl (r_mv (v := .int _ _) rfl) ?_)))))
      have hrk := hrw (rep i) hcl
      rw [hVc] at hrk
      obtain ⟨gV, hgV, hcV⟩ := rowo_at hrk (k := kk) om
      subst hgV
      refine wsgy 274 rfl rfl (r_ia (i := kk) U53 sz74_GSearch rfl rfl om rfl) (wsgy 274 rfl rfl (r_fa U74 sz3_UAll dE rfl rfl rfl) (wsgy 274 rfl rfl (r_ld1 (v := .int _ _) U3 rfl rfl hcV) (wsgy 274 rfl rfl (r_fa U74 sz3_UAll dE rfl rfl rfl) (wsgy 274 rfl rfl (r_ld1 (v := .int _ _) U3 rfl rfl (hb37.cell rfl)) (wsgy 274 rfl rfl (r_lss rfl rfl) ?_)))))
      refine ws (r_pt (v := .bool _) rfl rfl) (s_nil ?_)
      refine e_R ⟨agA, ?_⟩
      refine ⟨?_, hZ⟩
      exact clA
     refine wsgn 274 rfl rfl rfl (wsgn 274 rfl rfl rfl (wsgn 274 rfl rfl rfl (wsgn 274 rfl rfl rfl (wsgn 274 rfl rfl rfl (wsgn 274 rfl rfl rfl ?_)))))
     refine wsgn 274 rfl rfl rfl (wsgn 274 rfl rfl rfl (wsgn 274 rfl rfl rfl (wsgn 274 rfl rfl rfl (wsgn 274 rfl rfl rfl (wsgn 274 rfl rfl rfl ?_)))))
     refine ws (r_pf (v := .bool _) rfl rfl) (s_nil ?_)
     refine e_R ⟨agA, ?_⟩
     refine ⟨?_, hZ⟩
     exact clA
    obtain ⟨h287, hs⟩ := hI
    replace hB := hB.tr0 hs
    replace hb3 := hb3.tr0 hs
    replace hb6 := hb6.tr0 hs
    replace hBA := hBA.tr0 hs
    replace hb93 := hb93.tr0 hs
    replace hb201 := hb201.tr0 hs
    replace hb204 := hb204.tr0 hs
    replace hrw := fun x hx => (hrw x hx).tr hs (by simp)
    replace hbz := lT hbz (Same.size hs)
    replace hb37 := hb37.tr0 hs
    clear hs
    refine e_know 287 (.bool (decide (kk < (L2 (rep i)).length ∧ ((L2 (rep i)).getD kk (0, 0)).1 < (((nd (VA gs gs.length) i).ln[q]'hql)).1))) h287 nu (e_S ?_)
    refine c_ifd rfl (fun c287 => ?_) (fun c287 => ?_)
    ·
     refine c_skip (e_S (c_block (c_region (wmI rfl (wl (r_add (c := ((kk + 1 : Nat) : Int)) rfl rfl om om) ?_)))))
     refine waI rfl (x_nil (e_B (e_LS ((L2 (rep i)).length - (kk + 1)) om agA ?_)))
     exact ⟨kk + 1, by omega, rfl, rfl, hB, hBA, hb3, ⟨_, hb6⟩, hb93, hb204, hb201, hrw, hbz, hb37, low_get hlow c287⟩
    have hlend := low_end c287
    obtain ⟨zz, hzz⟩ : ∃ z, z = w57.heap.size := ⟨_, rfl⟩
    refine c_exit (e_Sx (e_LSx (e_Bx (e_S ?_))))
    have hszB := Bel.size hB
    refine c_monoZO 21 [290, 291, 292, 293, 294, 295, 296, 297, 298, 299, 300, 301, 302, 303, 304, 305, 306, 307, 308, 309, 310] 18 (fun bz ix v la ha wv => match ix with | 0 => v = .slice (some ⟨b201, 0, none⟩) (VA gs gs.length).length (VA gs gs.length).length | 1 => v = .int .i64 ((rep i : Nat) : Int) | 2 => v = .slice (some ⟨b201, 0, none⟩) (VA gs gs.length).length (VA gs gs.length).length | 3 => v = .int .i64 ((rep i : Nat) : Int) | 4 => v = .pointer (some ⟨b201, 0 + rep i * 2, none⟩) | 5 => v = .pointer (some ⟨b201, 0 + rep i * 2 + 1, none⟩) | 6 => v = .slice AV (rpL rep (L2 (rep i))).length cV | 7 => (bz = false → (∃ (AC : Option Addr) (cC : Nat), v = .slice AC (rpL rep (L2 (rep i))).length cC ∧ Own wv w.heap.size 74 2 AC (rpL rep (L2 (rep i))).length cC (lnV (rpL rep (L2 (rep i)))) ∧ (∀ g ∈ aL AC, w57.heap.size ≤ g) ∧ ∀ g ∈ aL AC, la ≤ g ∧ g < ha)) | 8 => v = .int .i64 ((kk : Nat) : Int) | 9 => v = .pointer (some ⟨b37, 0, none⟩) | 10 => v = .int .i64 (((nd (VA gs gs.length) i).ln[q]'hql)).1 | 11 => v = .slice (some ⟨b93, 0, none⟩) (VA gs gs.length).length (VA gs gs.length).length | 12 => v = .pointer (some ⟨b37, 1, none⟩) | 13 => v = .int .i64 ((tx : Nat) : Int) | 14 => v = .pointer (some ⟨b93, 0 + tx * 1, none⟩) | 15 => v = .int .i64 ((rep tx : Nat) : Int) | 16 => v = .agg #[.int .i64 (((nd (VA gs gs.length) i).ln[q]'hql)).1, .int .i64 ((rep tx : Nat) : Int)] | 17 => (bz = false → (∃ b : Nat, v = .slice (some ⟨b, 0, none⟩) 1 1 ∧ Blk wv b 74 #[.int .i64 (((nd (VA gs gs.length) i).ln[q]'hql)).1, .int .i64 ((rep tx : Nat) : Int)] ∧ la ≤ b ∧ b < ha)) | 18 => ∃ (A4 : Option Addr) (c4 : Nat), v = .slice A4 ((rpL rep (L2 (rep i))).length + 1) c4 ∧ Own wv w.heap.size 74 2 A4 ((rpL rep (L2 (rep i))).length + 1) c4 (lnV (insL (rpL rep (L2 (rep i))) kk ((((nd (VA gs gs.length) i).ln[q]'hql)).1, ((rep tx : Nat) : Int)))) | 19 => v = .pointer (some ⟨b201, 0 + rep i * 2, none⟩) | 20 => v = .pointer (some ⟨b201, 0 + rep i * 2 + 1, none⟩) | _ => True) kR kR ?_ ?_ ?_ dE ?_
    ·
     intro bz ix v la ha wv wv2 h hs
     match ix, h with
     | 0, h => exact h
     | 1, h => exact h
     | 2, h => exact h
     | 3, h => exact h
     | 4, h => exact h
     | 5, h => exact h
     | 6, h => exact h
     | 7, h =>
      intro hbz
      obtain ⟨AC, cC, e297, hoC, hzC, hiC⟩ := (show (bz = false → (∃ (AC : Option Addr) (cC : Nat), v = .slice AC (rpL rep (L2 (rep i))).length cC ∧ Own wv w.heap.size 74 2 AC (rpL rep (L2 (rep i))).length cC (lnV (rpL rep (L2 (rep i)))) ∧ (∀ g ∈ aL AC, w57.heap.size ≤ g) ∧ ∀ g ∈ aL AC, la ≤ g ∧ g < ha)) from h) hbz
      exact ⟨AC, cC, e297, hoC.tr0 hs, hzC, hiC⟩
     | 8, h => exact h
     | 9, h => exact h
     | 10, h => exact h
     | 11, h => exact h
     | 12, h => exact h
     | 13, h => exact h
     | 14, h => exact h
     | 15, h => exact h
     | 16, h => exact h
     | 17, h =>
      intro hbz
      obtain ⟨b307, e307, hb307, hi307⟩ := (show (bz = false → (∃ b : Nat, v = .slice (some ⟨b, 0, none⟩) 1 1 ∧ Blk wv b 74 #[.int .i64 (((nd (VA gs gs.length) i).ln[q]'hql)).1, .int .i64 ((rep tx : Nat) : Int)] ∧ la ≤ b ∧ b < ha)) from h) hbz
      exact ⟨b307, e307, hb307.tr0 hs, hi307⟩
     | 18, h =>
      obtain ⟨A4, c4, e308, ho4⟩ := (show ∃ (A4 : Option Addr) (c4 : Nat), v = .slice A4 ((rpL rep (L2 (rep i))).length + 1) c4 ∧ Own wv w.heap.size 74 2 A4 ((rpL rep (L2 (rep i))).length + 1) c4 (lnV (insL (rpL rep (L2 (rep i))) kk ((((nd (VA gs gs.length) i).ln[q]'hql)).1, ((rep tx : Nat) : Int)))) from h)
      exact ⟨A4, c4, e308, ho4.tr0 hs⟩
     | 19, h => exact h
     | 20, h => exact h
     | _ + 21, h => exact trivial
    ·
     intro bz ix o hix hne hoq gg wx la ha hs hd
     match ix, hix, hne, hoq with
     | 0, _, _, hoq =>
      obtain rfl := sI hoq
      have hs0 := hs
      replace hb201 := hb201.tr0 hs
      clear hs
      refine os_rv (r_mv (v := .slice _ _ _) rfl) ⟨Same.refl _ _, ?_⟩
      exact rfl
     | 1, _, _, hoq =>
      obtain rfl := sI hoq
      have hs0 := hs
      clear hs
      refine os_rv (r_mv (v := .int _ _) rfl) ⟨Same.refl _ _, ?_⟩
      exact rfl
     | 2, _, _, hoq =>
      obtain rfl := sI hoq
      have hs0 := hs
      replace hb201 := hb201.tr0 hs
      clear hs
      refine os_rv (r_mv (v := .slice _ _ _) rfl) ⟨Same.refl _ _, ?_⟩
      exact rfl
     | 3, _, _, hoq =>
      obtain rfl := sI hoq
      have hs0 := hs
      clear hs
      refine os_rv (r_mv (v := .int _ _) rfl) ⟨Same.refl _ _, ?_⟩
      exact rfl
     | 4, _, _, hoq =>
      obtain rfl := sI hoq
      have hs0 := hs
      clear hs
      have d2 : gg 292 = .slice (some ⟨b201, 0, none⟩) (VA gs gs.length).length (VA gs gs.length).length := hd 2 (dep_of kR)
      have e292 := d2
      have d3 : gg 293 = .int .i64 ((rep i : Nat) : Int) := hd 3 (dep_of kR)
      have e293 := d3
      refine os_know 292 (.slice (some ⟨b201, 0, none⟩) (VA gs gs.length).length (VA gs gs.length).length) e292 nu (os_know 293 (.int .i64 ((rep i : Nat) : Int)) e293 nu ?_)
      refine os_rv (r_ia (i := (rep i)) U26 sz55_UAll rfl rfl hcl rfl) ⟨Same.refl _ _, ?_⟩
      exact rfl
     | 5, _, _, hoq =>
      obtain rfl := sI hoq
      have hs0 := hs
      clear hs
      have d4 : gg 294 = .pointer (some ⟨b201, 0 + rep i * 2, none⟩) := hd 4 (dep_of kR)
      have e294 := d4
      refine os_know 294 (.pointer (some ⟨b201, 0 + rep i * 2, none⟩)) e294 nu ?_
      refine os_rv (r_fa U55 sz53 dE rfl rfl rfl) ⟨Same.refl _ _, ?_⟩
      exact rfl
     | 6, _, _, hoq =>
      obtain rfl := sI hoq
      have hs0 := hs
      replace hb201 := hb201.tr0 hs
      clear hs
      have d5 : gg 295 = .pointer (some ⟨b201, 0 + rep i * 2 + 1, none⟩) := hd 5 (dep_of kR)
      have e295 := d5
      refine os_know 295 (.pointer (some ⟨b201, 0 + rep i * 2 + 1, none⟩)) e295 nu ?_
      refine os_rv (r_ld1 (v := .slice AV (rpL rep (L2 (rep i))).length cV) U53 rfl rfl (by have h := hb201.cell (row2_get1 hcl); rw [hVc] at h; exact h)) ⟨Same.refl _ _, ?_⟩
      exact rfl
     | 7, _, _, hoq =>
      obtain rfl := sI hoq
      have hs0 := hs
      replace hrw := fun x hx => (hrw x hx).tr hs (by simp)
      clear hs
      have d6 : gg 296 = .slice AV (rpL rep (L2 (rep i))).length cV := hd 6 (dep_of kR)
      have e296 := d6
      have hszb := lT hszB hs0.size
      refine os_know 296 (.slice AV (rpL rep (L2 (rep i))).length cV) e296 nu ?_
      refine os_cl fn50 (clonel_any AV cV (rpL rep (L2 (rep i))) wx (by have h := hrw (rep i) hcl; rw [hVc] at h; exact h.links.2) om) rfl (fun e' w2 hr => ?_)
      obtain ⟨⟨AC, cC, rfl, hoC⟩, hs⟩ := hr
      exact ⟨_, rfl, Same.of_bel hs, (fun _ => ⟨_, _, rfl, hoC.low hszb, fun g hg => lT hs0.size (hoC.lt g hg).1, fun g hg => hoC.lt g hg⟩)⟩
     | 8, _, _, hoq =>
      obtain rfl := sI hoq
      have hs0 := hs
      clear hs
      refine os_rv (r_mv (v := .int _ _) rfl) ⟨Same.refl _ _, ?_⟩
      exact rfl
     | 9, _, _, hoq =>
      obtain rfl := sI hoq
      have hs0 := hs
      replace hb37 := hb37.tr0 hs
      clear hs
      refine os_rv (r_fa U74 sz3_UAll dE rfl rfl rfl) ⟨Same.refl _ _, ?_⟩
      exact rfl
     | 10, _, _, hoq =>
      obtain rfl := sI hoq
      have hs0 := hs
      replace hb37 := hb37.tr0 hs
      clear hs
      have d9 : gg 299 = .pointer (some ⟨b37, 0, none⟩) := hd 9 (dep_of kR)
      have e299 := d9
      refine os_know 299 (.pointer (some ⟨b37, 0, none⟩)) e299 nu ?_
      refine os_rv (r_ld1 (v := .int _ _) U3 rfl rfl (hb37.cell rfl)) ⟨Same.refl _ _, ?_⟩
      exact rfl
     | 11, _, _, hoq =>
      obtain rfl := sI hoq
      have hs0 := hs
      replace hb93 := hb93.tr0 hs
      clear hs
      refine os_rv (r_mv (v := .slice _ _ _) rfl) ⟨Same.refl _ _, ?_⟩
      exact rfl
     | 12, _, _, hoq =>
      obtain rfl := sI hoq
      have hs0 := hs
      replace hb37 := hb37.tr0 hs
      clear hs
      refine os_rv (r_fa U74 sz3_UAll dE rfl rfl rfl) ⟨Same.refl _ _, ?_⟩
      exact rfl
     | 13, _, _, hoq =>
      obtain rfl := sI hoq
      have hs0 := hs
      replace hb37 := hb37.tr0 hs
      clear hs
      have d12 : gg 302 = .pointer (some ⟨b37, 1, none⟩) := hd 12 (dep_of kR)
      have e302 := d12
      refine os_know 302 (.pointer (some ⟨b37, 1, none⟩)) e302 nu ?_
      refine os_rv (r_ld1 (v := .int _ _) U3 rfl rfl (hb37.cell rfl)) ⟨Same.refl _ _, ?_⟩
      exact rfl
     | 14, _, _, hoq =>
      obtain rfl := sI hoq
      have hs0 := hs
      clear hs
      have d11 : gg 301 = .slice (some ⟨b93, 0, none⟩) (VA gs gs.length).length (VA gs gs.length).length := hd 11 (dep_of kR)
      have e301 := d11
      have d13 : gg 303 = .int .i64 ((tx : Nat) : Int) := hd 13 (dep_of kR)
      have e303 := d13
      refine os_know 301 (.slice (some ⟨b93, 0, none⟩) (VA gs gs.length).length (VA gs gs.length).length) e301 nu (os_know 303 (.int .i64 ((tx : Nat) : Int)) e303 nu ?_)
      refine os_rv (r_ia (i := tx) U51 sz3_UAll rfl rfl htxl rfl) ⟨Same.refl _ _, ?_⟩
      exact rfl
     | 15, _, _, hoq =>
      obtain rfl := sI hoq
      have hs0 := hs
      replace hb93 := hb93.tr0 hs
      clear hs
      have d14 : gg 304 = .pointer (some ⟨b93, 0 + tx * 1, none⟩) := hd 14 (dep_of kR)
      have e304 := d14
      refine os_know 304 (.pointer (some ⟨b93, 0 + tx * 1, none⟩)) e304 nu ?_
      refine os_rv (r_ld1 (v := .int _ _) U3 rfl rfl (hb93.cell (RW_get htxl))) ⟨Same.refl _ _, ?_⟩
      exact rfl
     | 16, _, _, hoq =>
      obtain rfl := sI hoq
      have hs0 := hs
      clear hs
      have d10 : gg 300 = .int .i64 (((nd (VA gs gs.length) i).ln[q]'hql)).1 := hd 10 (dep_of kR)
      have e300 := d10
      have d15 : gg 305 = .int .i64 ((rep tx : Nat) : Int) := hd 15 (dep_of kR)
      have e305 := d15
      refine os_know 300 (.int .i64 (((nd (VA gs gs.length) i).ln[q]'hql)).1) e300 nu (os_know 305 (.int .i64 ((rep tx : Nat) : Int)) e305 nu ?_)
      refine os_rv (r_bd2 (v0 := .int _ _) (v1 := .int _ _) (fun v0 v1 => #[v0, v1]) rfl rfl kR) ⟨Same.refl _ _, ?_⟩
      exact rfl
     | 17, _, _, hoq =>
      obtain rfl := sI hoq
      have hs0 := hs
      clear hs
      have d16 : gg 306 = .agg #[.int .i64 (((nd (VA gs gs.length) i).ln[q]'hql)).1, .int .i64 ((rep tx : Nat) : Int)] := hd 16 (dep_of kR)
      have e306 := d16
      refine os_know 306 (.agg #[.int .i64 (((nd (VA gs gs.length) i).ln[q]'hql)).1, .int .i64 ((rep tx : Nat) : Int)]) e306 nu ?_
      refine os_wl (fun ops Q K => ?_)
      refine wl_bs (cs := #[_, _]) [(0, .agg _)] rfl U53 sz74_GSearch ze74 dE dE kR rfl (fun b307 w59 hb307 hs hr => ?_)
      exact K _ _ ⟨hs, (fun _ => ⟨_, rfl, hb307, hr, hb307.lt⟩)⟩
     | 18, _, hne, _ => exact absurd rfl hne
     | 19, _, _, hoq =>
      obtain rfl := sI hoq
      have hs0 := hs
      clear hs
      have d0 : gg 290 = .slice (some ⟨b201, 0, none⟩) (VA gs gs.length).length (VA gs gs.length).length := hd 0 (dep_of kR)
      have e290 := d0
      have d1 : gg 291 = .int .i64 ((rep i : Nat) : Int) := hd 1 (dep_of kR)
      have e291 := d1
      refine os_know 290 (.slice (some ⟨b201, 0, none⟩) (VA gs gs.length).length (VA gs gs.length).length) e290 nu (os_know 291 (.int .i64 ((rep i : Nat) : Int)) e291 nu ?_)
      refine os_rv (r_ia (i := (rep i)) U26 sz55_UAll rfl rfl hcl rfl) ⟨Same.refl _ _, ?_⟩
      exact rfl
     | 20, _, _, hoq =>
      obtain rfl := sI hoq
      have hs0 := hs
      clear hs
      have d19 : gg 309 = .pointer (some ⟨b201, 0 + rep i * 2, none⟩) := hd 19 (dep_of kR)
      have e309 := d19
      refine os_know 309 (.pointer (some ⟨b201, 0 + rep i * 2, none⟩)) e309 nu ?_
      refine os_rv (r_fa U55 sz53 dE rfl rfl rfl) ⟨Same.refl _ _, ?_⟩
      exact rfl
     | _ + 21, hix, _, _ => exact absurd hix om
    ·
     intro o hoq gg wx la ha hs hd hI
     obtain rfl := sI hoq
     have hs0 := hs
     replace hB := hB.tr0 hs
     replace hb3 := hb3.tr0 hs
     replace hb6 := hb6.tr0 hs
     replace hBA := hBA.tr0 hs
     replace hb93 := hb93.tr0 hs
     replace hb201 := hb201.tr0 hs
     replace hb204 := hb204.tr0 hs
     replace hrw := fun x hx => (hrw x hx).tr hs (by simp)
     replace hbz := lT hbz (Same.size hs)
     replace hb37 := hb37.tr0 hs
     clear hs
     have d7 : ∃ (AC : Option Addr) (cC : Nat), gg 297 = .slice AC (rpL rep (L2 (rep i))).length cC ∧ Own wx w.heap.size 74 2 AC (rpL rep (L2 (rep i))).length cC (lnV (rpL rep (L2 (rep i)))) ∧ (∀ g ∈ aL AC, w57.heap.size ≤ g) ∧ ∀ g ∈ aL AC, (la 7) ≤ g ∧ g < (ha 7) := (hd 7 (dep_of kR)) rfl
     obtain ⟨AC, cC, e297, hoC, hzC, hiC⟩ := d7
     have d8 : gg 298 = .int .i64 ((kk : Nat) : Int) := hd 8 (dep_of kR)
     have e298 := d8
     have d17 : ∃ b : Nat, gg 307 = .slice (some ⟨b, 0, none⟩) 1 1 ∧ Blk wx b 74 #[.int .i64 (((nd (VA gs gs.length) i).ln[q]'hql)).1, .int .i64 ((rep tx : Nat) : Int)] ∧ (la 17) ≤ b ∧ b < (ha 17) := (hd 17 (dep_of kR)) rfl
     obtain ⟨b307, e307, hb307, hi307⟩ := d17
     refine os_know 297 (.slice AC (rpL rep (L2 (rep i))).length cC) e297 nu (os_know 298 (.int .i64 ((kk : Nat) : Int)) e298 nu (os_know 307 (.slice (some ⟨b307, 0, none⟩) 1 1) e307 nu ?_))
     refine os_cl fn49 (insl_any (k := kk) (x := ((((nd (VA gs gs.length) i).ln[q]'hql)).1, ((rep tx : Nat) : Int))) wx hoC hb307 (fun g hg e => by have h1 := hiC g hg; have h2 := hI 7 17 (dep_of kR) (dep_of kR) dE; omega) om om (lT hszB hs0.size)) rfl (fun e' w2 hr => ?_)
     obtain ⟨A4, c4, rfl, ho4, hs2, _⟩ := hr
     refine ⟨_, rfl, hs0.freshL hs2 (fun g hg => .inr (hzC g hg)), hs2.size, ⟨_, _, rfl, ho4⟩, fun kx v la ha hne h => ?_⟩
     match kx, hne, h with
     | 0, _, h => exact h
     | 1, _, h => exact h
     | 2, _, h => exact h
     | 3, _, h => exact h
     | 4, _, h => exact h
     | 5, _, h => exact h
     | 6, _, h => exact h
     | 7, _, _ => exact fun h => nomatch h
     | 8, _, h => exact h
     | 9, _, h => exact h
     | 10, _, h => exact h
     | 11, _, h => exact h
     | 12, _, h => exact h
     | 13, _, h => exact h
     | 14, _, h => exact h
     | 15, _, h => exact h
     | 16, _, h => exact h
     | 17, _, _ => exact fun h => nomatch h
     | 18, hne, _ => exact absurd rfl hne
     | 19, _, h => exact h
     | 20, _, h => exact h
     | _ + 21, _, _ => exact trivial
    intro gg w60 la ha hs hR
    have hs0 := hs
    replace hB := hB.tr0 hs
    replace hb3 := hb3.tr0 hs
    replace hb6 := hb6.tr0 hs
    replace hBA := hBA.tr0 hs
    replace hb93 := hb93.tr0 hs
    replace hb201 := hb201.tr0 hs
    replace hb204 := hb204.tr0 hs
    replace hrw := fun x hx => (hrw x hx).tr hs (by simp)
    replace hbz := lT hbz (Same.size hs)
    replace hb37 := hb37.tr0 hs
    clear hs
    have d18 : ∃ (A4 : Option Addr) (c4 : Nat), gg 308 = .slice A4 ((rpL rep (L2 (rep i))).length + 1) c4 ∧ Own w60 w.heap.size 74 2 A4 ((rpL rep (L2 (rep i))).length + 1) c4 (lnV (insL (rpL rep (L2 (rep i))) kk ((((nd (VA gs gs.length) i).ln[q]'hql)).1, ((rep tx : Nat) : Int)))) := hR 18 dE
    obtain ⟨A4, c4, e308, ho4⟩ := d18
    have d20 : gg 310 = .pointer (some ⟨b201, 0 + rep i * 2 + 1, none⟩) := hR 20 dE
    have e310 := d20
    obtain ⟨s4, hs4⟩ : ∃ s, s = w60.heap.size := ⟨_, rfl⟩
    have hz4 : s4 ≤ w60.heap.size := Nat.le_of_eq hs4
    obtain ⟨V3, hV3⟩ : ∃ V3 : Nat → Value, V3 = fun x => if x = rep i then .slice A4 ((rpL rep (L2 (rep i))).length + 1) c4 else V2 x := ⟨_, rfl⟩
    have hMGn := hMG3.new hil hql c265 hkk hlow hlend
    have hro4 : RowO w60 w.heap.size s4 (.slice A4 ((rpL rep (L2 (rep i))).length + 1) c4) (rpL rep (insL (L2 (rep i)) kk (((nd (VA gs gs.length) i).ln[q]'hql)))) := by
      rw [rpL_ins, htx2]
      have h := RowO.of (lo := w.heap.size) (xs := insL (rpL rep (L2 (rep i))) kk ((((nd (VA gs gs.length) i).ln[q]'hql)).1, ((rep tx : Nat) : Int))) (Nat.le_refl _) (A := A4) (cap := c4) (w := w60) (by rw [insL_len]; exact ho4)
      rw [insL_len, ← hs4] at h
      exact h
    refine wl_know 308 (.slice A4 ((rpL rep (L2 (rep i))).length + 1) c4) e308 nu (wl_know 310 (.pointer (some ⟨b201, 0 + rep i * 2 + 1, none⟩)) e310 nu ?_)
    refine wl_st1 (v := .slice _ _ _) hb201 rfl rfl sz53 (by rw [row2_size]; show 0 + rep i * 2 + 1 < (VA gs gs.length).length * 2; omega) rfl row2_set1 (fun w61 hq hs => ?_)
    replace hB := hB.tr1 hs lo201
    replace hb3 := hb3.tr1 hs om
    replace hb6 := hb6.tr1 hs om
    replace hBA := hBA.tr1 hs lo_hBA_b201
    replace hb93 := hb93.tr1 hs om
    replace hb204 := hb204.tr1 hs om
    replace hrw := fun x hx => (hrw x hx).tr hs (fun g hg => by rw [List.mem_singleton.1 hg]; first | exact .inr ⟨_, _, hb201, by decide⟩ | exact .inl om)
    replace hbz := lT hbz (Same.size hs)
    replace hb37 := hb37.tr1 hs om
    replace hro4 := hro4.tr hs (fun g hg => by rw [List.mem_singleton.1 hg]; exact .inr ⟨_, _, hb201, by decide⟩)
    replace hz4 := lT hz4 (Same.size hs)
    clear hs
    replace hb201 := hq
    rw [← hV3] at hb201
    have hrw3 : (∀ x, x < (VA gs gs.length).length → RowO w61 w.heap.size w61.heap.size (V3 x) (rpL rep ((fun x => if x = rep i then insL (L2 (rep i)) kk (((nd (VA gs gs.length) i).ln[q]'hql)) else L2 x) x))) := fun x hx => by
      rw [hV3]
      by_cases e : x = rep i
      · subst e
        simp only [if_true]
        exact hro4.up hz4
      · simp only [if_neg e]
        exact (hrw x hx).up hbz
    refine x_nil (e_B (e_S (c_region (wl (r_add rfl rfl rfl om) (wmI rfl ?_)))))
    refine x_nil (e_LS ((nd (VA gs gs.length) i).ln.length - (q + 1)) om agA ?_)
    first
     | exact ⟨q + 1, _, V3, by omega, rfl, rfl, hB, hBA, hb3, ⟨_, hb6⟩, hb93, hb204, hb201, hrw3, hMGn⟩
     | exact ⟨q + 1, L2, V2, by omega, rfl, rfl, hB, hBA, hb3, ⟨_, hb6⟩, hb93, hb204, hb201, fun x hx => (hrw x hx).up hbz, hMGo⟩
   have hMGo := hMG3.old hql om
   refine c_skip (e_B (e_S (c_region (wl (r_add rfl rfl rfl om) (wmI rfl ?_)))))
   refine x_nil (e_LS ((nd (VA gs gs.length) i).ln.length - (q + 1)) om agA ?_)
   first
    | exact ⟨q + 1, _, V3, by omega, rfl, rfl, hB, hBA, hb3, ⟨_, hb6⟩, hb93, hb204, hb201, hrw3, hMGn⟩
    | exact ⟨q + 1, L2, V2, by omega, rfl, rfl, hB, hBA, hb3, ⟨_, hb6⟩, hb93, hb204, hb201, fun x hx => (hrw x hx).up hbz, hMGo⟩
  have hqe : q = (nd (VA gs gs.length) i).ln.length := by omega
  subst hqe
  refine c_exit (e_Sx (e_LSx (e_Bx (e_B (e_S ?_)))))
  refine c_region (wl (r_add rfl rfl rfl om) (wmI rfl (x_nil (e_LS ((VA gs gs.length).length - (i + 1)) om agA ?_))))
  exact ⟨i + 1, seen2, T2, L2, V2, by omega, rfl, rfl, hB, hBA, hb3, ⟨_, hb6⟩, hb93, hb204, hb201, fun x hx => (hrw x hx).up hbz, hMG3.next⟩
 have hie : i = (VA gs gs.length).length := by omega
 subst hie
 have hus := MJ.us hJF hMG hgyU.lr (fun p hpm => by
   obtain ⟨k, hk, rfl⟩ := List.mem_map.1 hpm
   have hk2 := List.mem_range.1 hk
   have h1 := hatr k hk2
   have h2 := VA_le (gs := gs) (gs.length - 1) (k := 1) om
   rw [show 1 + (gs.length - 1) = gs.length by omega, VA_succ hp, VA_zero, List.nil_append, List.length_map] at h2
   have h3 := VA_lt hgp (show k + 1 < gs.length by omega)
   have e1 : ats.getD k 0 = ats[k] := by simp [List.getD, hk2]
   simp only [e1]
   omega)
 have hNG : NodesIn w43 (some ⟨b201, 0, none⟩) (poolG (VA gs gs.length).length rep T L) := by
   rw [← mg_pool hJF.cs.id hMG]
   exact mg_nodes hb201 hn6 hrw
 have hrl := hJF.cs.lt 0 hn0
 have hUf2 := VA_feat hUf gs.length (Nat.le_refl _)
 have hGK := pool_gok2 (nf := nf) hus hn0 hn6 hUf2
 refine c_exit (e_Sx (e_LSx (e_Bx (e_S (c_seq ?_)))))
 refine c_region (wmS rfl (wl (r_bd1 (v0 := .slice _ _ _) (fun v0 => #[v0]) rfl kR) (wmS rfl (wl (r_ia (i := 0) U51 sz3_UAll rfl rfl hn0 rfl) (wl (r_ld1 (v := .int _ _) U3 rfl rfl (hb93.cell (RW_get hn0))) ?_)))))
 have z6 := hb6.lt
 have hszv := Bel.size hB
 refine wl_cl fn39 (rfromn_any (some ⟨b201, 0, none⟩) (VA gs gs.length).length nf (poolG (VA gs gs.length).length rep T L) (rep 0) (VA gs gs.length).length _ hNG (poolG_len _ _ _ _) hGK hnf (by rw [poolG_len]; exact hrl)) rfl (fun e' w62 hr => ?_)
 obtain ⟨⟨o, AN, cn, hD, hok, rfl, hN⟩, hs⟩ := hr
 replace hs := Same.of_bel hs
 replace hB := hB.tr0 hs
 replace hb3 := hb3.tr0 hs
 replace hb6 := hb6.tr0 hs
 replace hb93 := hb93.tr0 hs
 replace hb201 := hb201.tr0 hs
 replace hb204 := hb204.tr0 hs
 clear hs
 have hFr : FrSame (w43).heap.size w62 w62 := FrSame.refl _ _
 obtain ⟨Z0, hZ0⟩ : ∃ z, z = (w43).heap.size := ⟨_, rfl⟩
 rw [← hZ0] at hN hFr z6
 obtain ⟨wZ, hwZ⟩ : ∃ z, z = w62 := ⟨_, rfl⟩
 have hz0 : w.heap.size ≤ Z0 := by rw [hZ0]; exact hszv
 replace hFr : FrSame Z0 wZ w62 := by rw [hwZ]; exact FrSame.refl _ _
 rw [← hwZ] at hN
 refine ⟨_, rfl, ?_⟩
 refine wl_stW hb6 rfl rfl sz28_UAll rfl oneA (fun w63 hq hs => ?_)
 replace hB := hB.tr1 hs lo6
 replace hb3 := hb3.tr1 hs om
 replace hb93 := hb93.tr1 hs om
 replace hb201 := hb201.tr1 hs om
 replace hb204 := hb204.tr1 hs om
 replace hFr := hFr.of hs (fun g hg => by rw [List.mem_singleton.1 hg]; omega)
 clear hs
 replace hb6 := hq
 refine waB rfl (x_nil (e_S (c_ret (fin2 (.inl rfl) rfl (rr_cell U28 rfl rfl hb6.range0 sz28_UAll) rfl ?_))))
 have hcln : (canG (poolG (VA gs gs.length).length rep T L) o).length = o.length := canG_len _ _
 exact ⟨⟨AN, _, cn, true, ret_join hcln, fun w2 hf => hN w2 (hFr.then hf hz0), .inl ⟨rfl, rep, rep, _, T, L, o, hus, hD, rfl⟩⟩, hB⟩
end Go.Proofs.YteoncmfiiknfbaaDoor
