/- What these functions of the program compute, at every world: glosswright/welltyped.fault, glosswright/welltyped.Fill$1, slices.IndexFunc[[]glosswright/api.Link,glosswright/api.Link]. What these functions of the program compute, at every world: glosswright/welltyped.Total. What these functions of the program compute, at every world: glosswright/glosswrightref4.IsTotal. -/
import Derived.Test.YtegngekpmpdngaaDoorU
import Derived.Test.YtegngekpmpdngaaDoorFilW
import Derived.Test.YtegngekpmpdngaaDoorGVal
import Derived.Test.YtegngekpmpdngaaDoorEng2
import Derived.Test.YtegngekpmpdngaaDoorSBase
import Derived.Test.YtegngekpmpdngaaDoorComp
import Derived.Test.YtegngekpmpdngaaDoorPath
namespace Go.Proofs.YtegngekpmpdngaaDoor
open Go.RowKit
def IxS (xs : List (Int × Int)) (f r : Int) : Prop := (r = -1 ∧ ∀ j (hj : j < xs.length), (xs[j]).1 ≤ f) ∨ ∃ n : Nat, ∃ hn : n < xs.length, r = (n : Int) ∧ f < (xs[n]).1 ∧ ∀ j (hj : j < xs.length), j < n → (xs[j]).1 ≤ f
theorem ix_at {xs : List (Int × Int)} {f r : Int} (hs : Srt xs) (hn : ∀ z ∈ xs, ¬ z.1 = f) (h : IxS xs f r) : (r < 0 → (∀ j (hj : j < xs.length), j < xs.length → (xs[j]).1 < f) ∧ ∀ j (hj : j < xs.length), xs.length ≤ j → f < (xs[j]).1) ∧ (¬ r < 0 → ∃ n : Nat, r = (n : Int) ∧ n ≤ xs.length ∧ (∀ j (hj : j < xs.length), j < n → (xs[j]).1 < f) ∧ ∀ j (hj : j < xs.length), n ≤ j → f < (xs[j]).1) := by
  have lt : ∀ j (hj : j < xs.length), (xs[j]).1 ≤ f → (xs[j]).1 < f := fun j hj h1 => by
    have := hn _ (List.getElem_mem hj)
    omega
  rcases h with ⟨rfl, h⟩ | ⟨n, hnl, rfl, h1, h2⟩
  · exact ⟨fun _ => ⟨fun j hj _ => lt j hj (h j hj), fun j hj h3 => by omega⟩, fun h3 => absurd dE h3⟩
  · refine ⟨fun h3 => by omega, fun _ => ⟨n, rfl, by omega, fun j hj h3 => lt j hj (h2 j hj h3), fun j hj h3 => ?_⟩⟩
    by_cases e : n = j
    · subst e; exact h1
    · have := List.pairwise_iff_getElem.1 hs n j hnl hj om
      omega
theorem own_tyc {w : World} {base g n c x : Nat} {e : TypeId} {f V : Nat → Value} (h : Own w base e 2 (some ⟨g, 0, none⟩) n c (ndV f V n)) (hx : x < n) : w.cell? ⟨g, 0 + x * 2 + 0, none⟩ = some (f x) ∧ w.cell? ⟨g, 0 + x * 2 + 1, none⟩ = some (V x) := by
  have h1 := ndV_get f V hx
  obtain ⟨g2, e1, _, _, hc⟩ := h.cell (fun e => by rw [e] at h1; cases h1.1)
  cases e1
  rw [show 0 + x * 2 + 0 = x * 2 by omega, show 0 + x * 2 + 1 = x * 2 + 1 by omega]
  exact ⟨hc _ _ h1.1, hc _ _ h1.2⟩
theorem own_adr {w : World} {base n c x : Nat} {e : TypeId} {A : Option Addr} {f V : Nat → Value} (h : Own w base e 2 A n c (ndV f V n)) (hx : x < n) : ∃ g, A = some ⟨g, 0, none⟩ ∧ base ≤ g ∧ g < w.heap.size := by
  have h1 := ndV_get f V hx
  obtain ⟨g2, e1, h2, h3, _⟩ := h.cell (fun e => by rw [e] at h1; cases h1.1)
  exact ⟨g2, e1, h2, h3⟩
def tyA (A : List Nd) (x : Nat) : Value := .int .i64 (nd A x).ty
theorem ndV_set1 {f V : Nat → Value} {n k : Nat} {v : Value} : (ndV f V n).set (0 + k * 2 + 1) v = ndV f (fun x => if x = k then v else V x) n := by
  refine List.ext_getElem? (fun j => ?_)
  by_cases hj : j < n * 2
  · have h2 : j / 2 < n := by omega
    rcases Nat.mod_two_eq_zero_or_one j with e | e
    · have e2 : j = j / 2 * 2 := by omega
      rw [List.getElem?_set_ne om]
      have h3 := (ndV_get f (fun x => if x = k then v else V x) h2).1
      have h4 := (ndV_get f V h2).1
      rw [← e2] at h3 h4
      rw [h3, h4]
    · have e2 : j = j / 2 * 2 + 1 := by omega
      by_cases hjk : j / 2 = k
      · rw [show 0 + k * 2 + 1 = j by omega, List.getElem?_set_self (by rw [ndV_len]; exact hj)]
        have h3 := (ndV_get f (fun x => if x = k then v else V x) h2).2
        rw [← e2] at h3
        rw [h3, if_pos hjk]
      · rw [List.getElem?_set_ne om]
        have h3 := (ndV_get f (fun x => if x = k then v else V x) h2).2
        have h4 := (ndV_get f V h2).2
        rw [← e2] at h3 h4
        rw [h3, h4, if_neg hjk]
  · rw [List.getElem?_eq_none (by rw [List.length_set, ndV_len]; omega), List.getElem?_eq_none (by rw [ndV_len]; omega)]
theorem own_neA {w : World} {base b sz k c : Nat} {e t : TypeId} {A : Option Addr} {xs : List Value} {cs : Array Value} (h : Own w base e sz A k c xs) (hb : Blk w b t cs) (hne : e ≠ t) : ∀ g ∈ aL A, g ≠ b := fun g hg e1 => by
  obtain ⟨c2, h2⟩ := h.typ g hg
  subst e1
  exact hne (blk_type h2 hb)
theorem lt_next {m n k : Nat} (h : m = n - k) (hk : k < n) : n - (k + 1) < m := by omega
theorem fn54 : callable Tryd.prog 54 = true := by kernel_rfl
theorem wfault_any (a b : Int) (w : World) : Calls Tryd.prog 52 #[.int .i64 a, .int .i64 b] w fun e w' => e = .returned (flV (a, b)) ∧ Bel w w' := by
 refine enter Tryd.func52 Tryd.ntmps52 rfl (Nat.le_of_ble_eq_true rfl) ?_
 have hB : Bel w w := Below.refl _ _
 refine c_seq (c_region ?_)
 refine wl_al (cs := #[.int .i64 0, .int .i64 0]) ze35_GLoose rfl (fun b4 w1 hb4 hs hr => ?_)
 have lo4 := nLT (Bel.size hB) hr
 replace hB := hB.tr0 hs
 clear hs
 clear hr
 refine x_nil (e_S (c_seq (c_region (wmI rfl (wmI rfl ?_)))))
 refine wl (r_bd2 (v0 := .int _ _) (v1 := .int _ _) (fun v0 v1 => #[v0, v1]) rfl rfl kR) ?_
 refine wl_stW hb4 rfl rfl sz35_GLoose rfl oneA (fun w2 hq hs => ?_)
 replace hB := hB.tr1 hs lo4
 clear hs
 replace hb4 := hq
 refine x_nil (e_S (c_ret (fin1 (.inl rfl) rfl (rr_cell U35 rfl rfl hb4.range0 sz35_GLoose) ?_)))
 exact ⟨rfl, hB⟩
theorem fgt_any (b10 : Nat) (f t k : Int) (w : World) (hb : Blk w b10 3 #[.int .i64 k]) : Calls Tryd.prog 54 #[.agg #[.int .i64 f, .int .i64 t], .pointer (some ⟨b10, 0, none⟩)] w fun e w' => e = .returned (.bool (decide (k < f))) ∧ Bel w w' := by
 have hb10 := hb
 refine enter Tryd.func54 Tryd.ntmps54 rfl (Nat.le_of_ble_eq_true rfl) ?_
 have hB : Bel w w := Below.refl _ _
 refine c_seq (c_region ?_)
 refine wl_bx (v := .agg #[_, _]) (cs := #[_, _]) rfl rfl (fun b2 w1 hb2 hs hr => ?_)
 have or_b10_b2 : b10 < b2 := nLL hb10.lt hr
 have lo2 := nLT (Bel.size hB) hr
 replace hB := hB.tr0 hs
 replace hb10 := hb10.tr0 hs
 clear hs
 clear hr
 refine waB rfl (x_nil (e_S (c_seq (c_region (wl (r_fa U30 sz3_GLoose dE rfl rfl rfl) ?_)))))
 refine wl (r_ld1 (v := .int _ _) U3 rfl rfl (hb2.cell rfl)) (wl (r_ld1 (v := .int _ _) U3 rfl rfl (hb10.cell rfl)) (wl (r_gtr rfl rfl) (waB rfl (x_nil (e_S ?_)))))
 refine c_ret (fin1 (.inl rfl) rfl rfl ?_)
 exact ⟨rfl, hB⟩
set_option maxHeartbeats 1000000 in
theorem ixf_any (A : Option Addr) (c b10 : Nat) (xs : List (Int × Int)) (k : Int) (w : World) (hL : LinksIn w A xs) (hb : Blk w b10 3 #[.int .i64 k]) : Calls Tryd.prog 53 #[.slice A xs.length c, .func (.func 54) #[] #[.pointer (some ⟨b10, 0, none⟩)]] w fun e w' => (∃ r : Int, e = .returned (.int .i64 r) ∧ IxS xs k r) ∧ Bel w w' := by
 have hmx := hL.1
 unfold maxI at hmx
 refine enter Tryd.func53 Tryd.ntmps53 rfl (Nat.le_of_ble_eq_true rfl) ?_
 have hB : Bel w w := Below.refl _ _
 refine c_seq (c_region (waI rfl (x_nil (e_S (c_seq ?_)))))
 refine c_seq (c_region (wmS rfl (wl (r_len U31 rfl) (wmI rfl (x_nil ?_)))))
 refine e_S (c_block ?_)
 refine c_loopS [4, 5, 8, 9, 10, 11, 12, 13, 14, 15, 16, 17, 18] (fun m g w' => ∃ j : Nat, j ≤ xs.length ∧ m = xs.length - j ∧ g 8 = .int .i64 j ∧ Bel w w' ∧ (∀ j' (hj : j' < xs.length), j' < j → (xs[j']).1 ≤ k)) (xs.length) ?_ (fun m g2 w1 hI => ?_)
 ·
  exact ⟨0, Nat.zero_le _, rfl, rfl, hB, fun j _ h => by omega⟩
 obtain ⟨j, hj, hm, h8, hB, hall⟩ := hI
 refine c_know 8 (.int .i64 j) h8 nu (c_seq (c_region (wl (r_lss rfl rfl) (x_nil (e_S ?_)))))
 refine c_seq ?_
 refine c_ifd rfl (fun c9 => ?_) (fun c9 => ?_)
 ·
  have hjl : j < xs.length := by omega
  obtain ⟨lb, lof, rfl, hlb, hlr⟩ := hL.at_ hB hjl
  refine c_skip (e_S (c_seq (c_block (c_seq (c_region ?_)))))
  refine wmI rfl (waI rfl (x_nil (e_S (c_seq (c_region ?_)))))
  refine wl (r_mv (v := .func _ _ _) rfl) (wmS rfl (wmI rfl (wl (r_ia (i := j) U31 sz30 rfl rfl om rfl) (wl (r_ldS U30 rfl rfl hlr sz30) ?_))))
  refine wl_clv rfl fn54 (fgt_any b10 _ _ k _ (hb.bel hB)) rfl rfl (fun e' w2 hr => ?_)
  obtain ⟨rfl, hs⟩ := hr
  replace hs := Same.of_bel hs
  replace hB := hB.tr0 hs
  clear hs
  refine ⟨_, rfl, ?_⟩
  refine x_nil (e_S ?_)
  refine c_ifd rfl (fun c16 => ?_) (fun c16 => ?_)
  ·
   refine c_seq (c_region (wmI rfl (waI rfl (x_nil (e_S ?_)))))
   refine c_ret (e_Br (e_Sr (e_LSr (e_Br (e_Sr ?_)))))
   refine fin1 (.inl rfl) rfl rfl ?_
   exact ⟨⟨_, rfl, .inr ⟨j, hjl, rfl, c16, hall⟩⟩, hB⟩
  refine c_skip (e_B (e_S (c_region (wl (r_add rfl rfl rfl om) (wmI rfl ?_)))))
  refine x_nil (e_LS (xs.length - (j + 1)) om agA ?_)
  exact ⟨j + 1, by omega, rfl, rfl, hB, fun j' hj' h => by
    by_cases e : j' = j
    · subst e; omega
    · exact hall j' hj' om⟩
 have hje : j = xs.length := by omega
 subst hje
 refine c_exit (e_Sx (e_LSx (e_Bx (e_S (c_seq ?_)))))
 refine c_region (waI rfl (x_nil (e_S (c_ret (fin1 (.inl rfl) rfl rfl ?_)))))
 exact ⟨⟨_, rfl, .inl ⟨rfl, fun j hj => hall j hj hj⟩⟩, hB⟩
end Go.Proofs.YtegngekpmpdngaaDoor
namespace Go.Proofs.YtegngekpmpdngaaDoor
open Go.RowKit
noncomputable def totB (l : List Ty) (fs : List Ft) (g : List Nd) : Bool := @decide (Tot l fs g) (Classical.propDecidable _)
theorem totB_yes {l : List Ty} {fs : List Ft} {g : List Nd} (h : Tot l fs g) : totB l fs g = true := @decide_eq_true _ (Classical.propDecidable _) h
theorem totB_no {l : List Ty} {fs : List Ft} {g : List Nd} (h : ¬ Tot l fs g) : totB l fs g = false := @decide_eq_false _ (Classical.propDecidable _) h
theorem totB_iff {l : List Ty} {fs : List Ft} {g : List Nd} : totB l fs g = true ↔ Tot l fs g := ⟨fun h => @of_decide_eq_true _ (Classical.propDecidable _) h, totB_yes⟩
noncomputable def totG (l : List Ty) (fs : List Ft) (g : List Nd) : Bool := if (graphF l fs g).1 = 0 then totB l fs g else false
theorem totG_no {l : List Ty} {fs : List Ft} {g : List Nd} (h : ¬ (graphF l fs g).1 = 0) : totG l fs g = false := by unfold totG; rw [if_neg h]
theorem totG_yes {l : List Ty} {fs : List Ft} {g : List Nd} (h : (graphF l fs g).1 = 0) : totG l fs g = totB l fs g := by unfold totG; rw [if_pos h]
theorem ret_tot {l : List Ty} {fs : List Ft} {g : List Nd} {b : Bool} {x y : Int} (h : totG l fs g = b) (hF : graphF l fs g = (x, y)) : Ending.returned (.tuple #[.bool b, .agg #[.int .i64 x, .int .i64 y]]) = .returned (.tuple #[.bool (totG l fs g), .agg #[.int .i64 (graphF l fs g).1, .int .i64 (graphF l fs g).2]]) := by rw [h, hF]
theorem gf_zzT {l : List Ty} {fs : List Ft} {g : List Nd} (h : (graphF l fs g).1 = 0) : graphF l fs g = (0, 0) := by
  have hv := gv_of h
  rw [gf_in hv.h, wi_zero hv.lo hv.t hv.u]
theorem fn35_WTot : callable Tryd.prog 35 = true := by kernel_rfl
set_option maxHeartbeats 2000000 in
theorem total_any (A B G : Option Addr) (c d cg : Nat) (l : List Ty) (fs : List Ft) (gr : List Nd) (w : World) (hTab : TabIn w) (hT : TypesIn w A l) (hF : FeatsIn w B fs) (hG : NodesIn w G gr) : Calls Tryd.prog 21 #[.agg #[.slice A l.length c, .slice B fs.length d], .agg #[.slice G gr.length cg]] w fun e w' => e = .returned (.tuple #[.bool (totG l fs gr), .agg #[.int .i64 (graphF l fs gr).1, .int .i64 (graphF l fs gr).2]]) ∧ Bel w w' := by
 refine enter Tryd.func21 Tryd.ntmps21 rfl (Nat.le_of_ble_eq_true rfl) ?_
 have hB : Bel w w := Below.refl _ _
 refine c_seq (c_region ?_)
 refine wl_bx (v := .agg #[_, _]) (cs := #[_, _]) rfl rfl (fun b2 w1 hb2 hs hr => ?_)
 have lo2 := nLT (Bel.size hB) hr
 replace hB := hB.tr0 hs
 clear hs
 clear hr
 refine wl_bx (v := .agg #[_]) (cs := #[_]) rfl rfl (fun b3 w2 hb3 hs hr => ?_)
 have or_b2_b3 : b2 < b3 := nLL hb2.lt hr
 have lo3 := nLT (Bel.size hB) hr
 replace hB := hB.tr0 hs
 replace hb2 := hb2.tr0 hs
 clear hs
 clear hr
 refine waB rfl ?_
 refine wl_al (cs := #[.int .i64 0, .int .i64 0]) ze35_SFind rfl (fun b5 w3 hb5 hs hr => ?_)
 have or_b2_b5 : b2 < b5 := nLL hb2.lt hr
 have or_b3_b5 : b3 < b5 := nLL hb3.lt hr
 have lo5 := nLT (Bel.size hB) hr
 replace hB := hB.tr0 hs
 replace hb2 := hb2.tr0 hs
 replace hb3 := hb3.tr0 hs
 clear hs
 clear hr
 refine x_nil (e_S (c_seq (c_seq (c_region (wl (r_ldS U25 rfl rfl hb2.range0 sz25_SFind) ?_)))))
 refine wl (r_ldS U28 rfl rfl hb3.range0 sz28_GTgt) ?_
 refine wl_cl fn35_WTot (gval_any A B G c d cg l fs gr _ (hTab.mono hB) (hT.mono hB) (hF.mono hB) (hG.mono hB)) rfl (fun e' w4 hr => ?_)
 obtain ⟨rfl, hs⟩ := hr
 replace hs := Same.of_bel hs
 replace hB := hB.tr0 hs
 replace hb2 := hb2.tr0 hs
 replace hb3 := hb3.tr0 hs
 replace hb5 := hb5.tr0 hs
 clear hs
 refine ⟨_, rfl, ?_⟩
 refine wl_al (cs := #[.int .i64 0, .int .i64 0]) ze35_SFind rfl (fun b6 w5 hb6 hs hr => ?_)
 have or_b2_b6 : b2 < b6 := nLL hb2.lt hr
 have or_b3_b6 : b3 < b6 := nLL hb3.lt hr
 have or_b5_b6 : b5 < b6 := nLL hb5.lt hr
 have lo6 := nLT (Bel.size hB) hr
 replace hB := hB.tr0 hs
 replace hb2 := hb2.tr0 hs
 replace hb3 := hb3.tr0 hs
 replace hb5 := hb5.tr0 hs
 clear hs
 clear hr
 refine wl_stW hb6 rfl rfl sz35_SFind rfl oneA (fun w6 hq hs => ?_)
 replace hB := hB.tr1 hs lo6
 replace hb2 := hb2.tr1 hs om
 replace hb3 := hb3.tr1 hs om
 replace hb5 := hb5.tr1 hs om
 clear hs
 replace hb6 := hq
 refine x_nil (e_S (c_seq (c_region (wl (r_fa U35 sz3_GSearch dE rfl rfl rfl) (wl (r_ld1 (v := .int _ _) U3 rfl rfl (hb6.cell rfl)) ?_)))))
 refine wl (r_neq rfl rfl) (x_nil (e_S ?_))
 refine c_ifd rfl (fun c17 => ?_) (fun c17 => ?_)
 ·
  refine c_seq ?_
  refine c_all #[false, false, false] kR (by rfl) (fun w7 hs => ?_)
  replace hB := hB.tr0 hs
  replace hb2 := hb2.tr0 hs
  replace hb3 := hb3.tr0 hs
  replace hb5 := hb5.tr0 hs
  replace hb6 := hb6.tr0 hs
  clear hs
  refine a_step [0, 1] kR rfl ⟨fun o hoq => ?_, fun o hoq => ?_, trivial⟩
  ·
   obtain rfl := sI hoq
   refine wl (r_ldS U35 rfl rfl hb6.range0 sz35_SFind) (x_nil (e_A (listed' := #[true, false, false]) (by rfl) ?_))
   refine a_step [1] kR rfl ⟨fun o hoq => ?_, trivial⟩
   obtain rfl := sI hoq
   refine waB rfl (x_nil (e_A (listed' := #[true, true, false]) (by rfl) ?_))
   refine a_step [2] kR rfl ⟨fun o hoq => ?_, trivial⟩
   obtain rfl := sI hoq
   refine wl_stW hb5 rfl rfl sz35_SFind rfl oneA (fun w8 hq hs => ?_)
   replace hB := hB.tr1 hs lo5
   replace hb2 := hb2.tr1 hs om
   replace hb3 := hb3.tr1 hs om
   replace hb6 := hb6.tr1 hs om
   clear hs
   replace hb5 := hq
   refine x_nil (e_A (listed' := #[true, true, true]) (by rfl) (a_end kR (e_S (c_ret (e_Sr ?_)))))
   refine fin2 (.inl rfl) rfl rfl (rr_cell U35 rfl rfl hb5.range0 sz35_SFind) ?_
   exact ⟨ret_tot (totG_no c17) rfl, hB⟩
  obtain rfl := sI hoq
  refine waB rfl (x_nil (e_A (listed' := #[false, true, false]) (by rfl) ?_))
  refine a_step [0] kR rfl ⟨fun o hoq => ?_, trivial⟩
  obtain rfl := sI hoq
  refine wl (r_ldS U35 rfl rfl hb6.range0 sz35_SFind) (x_nil (e_A (listed' := #[true, true, false]) (by rfl) ?_))
  refine a_step [2] kR rfl ⟨fun o hoq => ?_, trivial⟩
  obtain rfl := sI hoq
  refine wl_stW hb5 rfl rfl sz35_SFind rfl oneA (fun w9 hq hs => ?_)
  replace hB := hB.tr1 hs lo5
  replace hb2 := hb2.tr1 hs om
  replace hb3 := hb3.tr1 hs om
  replace hb6 := hb6.tr1 hs om
  clear hs
  replace hb5 := hq
  refine x_nil (e_A (listed' := #[true, true, true]) (by rfl) (a_end kR (e_S (c_ret (e_Sr ?_)))))
  refine fin2 (.inl rfl) rfl rfl (rr_cell U35 rfl rfl hb5.range0 sz35_SFind) ?_
  exact ⟨ret_tot (totG_no c17) rfl, hB⟩
 have h0 := Decidable.not_not.1 c17
 have hva := gv_of h0
 have hf40 := hva.few
 have h60 := hva.gok.le
 refine c_skip (e_S (c_seq (c_region (wl (r_fa U25 sz22_SFind dE rfl rfl rfl) (wl (r_ld1 (v := .slice _ _ _) U22 rfl rfl (hb2.cell rfl)) ?_)))))
 refine wl_cl fn48_SFind (tables2_any A c l _ (hT.mono hB) hva.s.vt hva.s.le) rfl (fun e' w10 hr => ?_)
 obtain ⟨⟨bu, bd, rfl, hTI⟩, hs⟩ := hr
 replace hs := Same.of_bel hs
 replace hB := hB.tr0 hs
 replace hb2 := hb2.tr0 hs
 replace hb3 := hb3.tr0 hs
 replace hb5 := hb5.tr0 hs
 replace hb6 := hb6.tr0 hs
 clear hs
 obtain ⟨wT, hwT⟩ : ∃ x, x = w10 := ⟨_, rfl⟩
 have hBT : Bel wT w10 := by rw [hwT]; exact Below.refl _ _
 have hBwT := Bel.size hB
 rw [← hwT] at hTI hBwT
 refine ⟨_, rfl, ?_⟩
 refine wl_al (cs := #[.slice none 0 0, .slice none 0 0]) ze92_SFind rfl (fun b7 w11 hb7 hs hr => ?_)
 have or_b2_b7 : b2 < b7 := nLL hb2.lt hr
 have or_b3_b7 : b3 < b7 := nLL hb3.lt hr
 have or_b5_b7 : b5 < b7 := nLL hb5.lt hr
 have or_b6_b7 : b6 < b7 := nLL hb6.lt hr
 have lo7 := nLT (Bel.size hB) hr
 have lo_hBT_b7 := nLT (Bel.size hBT) hr
 replace hB := hB.tr0 hs
 replace hb2 := hb2.tr0 hs
 replace hb3 := hb3.tr0 hs
 replace hb5 := hb5.tr0 hs
 replace hb6 := hb6.tr0 hs
 replace hBT := hBT.tr0 hs
 clear hs
 clear hr
 refine wl_stW hb7 rfl rfl sz92_SFind rfl oneA (fun w12 hq hs => ?_)
 replace hB := hB.tr1 hs lo7
 replace hb2 := hb2.tr1 hs om
 replace hb3 := hb3.tr1 hs om
 replace hb5 := hb5.tr1 hs om
 replace hb6 := hb6.tr1 hs om
 replace hBT := hBT.tr1 hs lo_hBT_b7
 clear hs
 replace hb7 := hq
 refine x_nil (e_S (c_seq (c_seq (c_region (wl (r_fa U28 sz26_GTgt dE rfl rfl rfl) ?_)))))
 refine wl (r_ld1 (v := .slice _ _ _) U26 rfl rfl (hb3.cell rfl)) (wl (r_len U26 rfl) (wmI rfl (x_nil (e_S (c_block ?_)))))
 refine c_loopS [4, 8, 9, 10, 11, 25, 26, 27, 28, 29, 30, 31, 32, 33, 34, 35, 36, 37, 38, 39, 40, 41, 42, 43, 44, 45, 46, 47, 48, 49, 50, 51, 52, 53] (fun m g w' => ∃ i : Nat, i ≤ gr.length ∧ m = gr.length - i ∧ g 25 = .int .i64 i ∧ DoneP l fs gr i 0 ∧ Bel w w' ∧ Bel wT w' ∧ Blk w' b2 25 #[.slice A l.length c, .slice B fs.length d] ∧ Blk w' b3 28 #[.slice G gr.length cg] ∧ Blk w' b5 35 #[.int .i64 0, .int .i64 0] ∧ Blk w' b7 92 #[.slice (some ⟨bu, 0, none⟩) l.length l.length, .slice (some ⟨bd, 0, none⟩) l.length l.length]) (gr.length) ?_ (fun m g6 w13 hI => ?_)
 ·
  exact ⟨0, Nat.zero_le _, rfl, rfl, DoneP.start, hB, hBT, hb2, hb3, hb5, hb7⟩
 obtain ⟨i, hi, hm, hgi, hdn, hB, hBT, hb2, hb3, hb5, hb7⟩ := hI
 refine c_know 25 (.int .i64 i) hgi nu (c_seq (c_region (wl (r_lss rfl rfl) (x_nil (e_S ?_)))))
 refine c_seq ?_
 refine c_ifd rfl (fun c26 => ?_) (fun c26 => ?_)
 ·
  have hil : i < gr.length := by omega
  obtain ⟨nb, no, LA, lc, rfl, hnb, hnr, _⟩ := hG.at_ (Below.refl _ _ : Bel w w) hil
  obtain ⟨tn, htn, htnl⟩ : ∃ t : Nat, (gr[i]'hil).ty = (t : Int) ∧ t < l.length := by
    have h := hva.gok.ty i hil
    exact ⟨(gr[i]'hil).ty.toNat, by omega, by omega⟩
  have htnd : (nd gr i).ty.toNat = tn := by rw [nd_eq hil, htn]; rfl
  refine c_skip (e_S (c_seq (c_block (c_seq (c_region ?_)))))
  refine wmI rfl (wl (r_ia (i := i) U26 sz33_GTgt rfl rfl hil rfl) (wl (r_ldS U33 rfl rfl (hB.range hnb hnr) sz33_GTgt) ?_))
  refine wl_al (cs := #[.int .i64 0, .slice none 0 0]) ze33_GTgt rfl (fun b9 w14 hb9 hs hr => ?_)
  have or_b2_b9 : b2 < b9 := nLL hb2.lt hr
  have or_b3_b9 : b3 < b9 := nLL hb3.lt hr
  have or_b5_b9 : b5 < b9 := nLL hb5.lt hr
  have or_b7_b9 : b7 < b9 := nLL hb7.lt hr
  have lo9 := nLT (Bel.size hB) hr
  have lo_hBT_b9 := nLT (Bel.size hBT) hr
  replace hB := hB.tr0 hs
  replace hb2 := hb2.tr0 hs
  replace hb3 := hb3.tr0 hs
  replace hb5 := hb5.tr0 hs
  replace hBT := hBT.tr0 hs
  replace hb7 := hb7.tr0 hs
  clear hs
  clear hr
  refine waI rfl ?_
  refine wl_stW hb9 rfl rfl sz33_GTgt rfl oneA (fun w15 hq hs => ?_)
  replace hB := hB.tr1 hs lo9
  replace hb2 := hb2.tr1 hs om
  replace hb3 := hb3.tr1 hs om
  replace hb5 := hb5.tr1 hs om
  replace hBT := hBT.tr1 hs lo_hBT_b9
  replace hb7 := hb7.tr1 hs om
  clear hs
  replace hb9 := hq
  refine x_nil (e_S (c_seq ?_))
  rw [htn] at hb9
  refine c_region (wl (r_fa U25 sz23_GLoose dE rfl rfl rfl) (wl (r_ld1 (v := .slice _ _ _) U23 rfl rfl (hb2.cell rfl)) (wl (r_len U23 rfl) (wmI rfl (x_nil ?_)))))
  refine e_S (c_block ?_)
  refine c_loopS [4, 10, 11, 33, 34, 35, 36, 37, 38, 39, 40, 41, 42, 43, 44, 45, 46, 47, 48, 49, 50, 51, 52] (fun m g w' => ∃ k : Nat, k ≤ fs.length ∧ m = fs.length - k ∧ g 33 = .int .i64 k ∧ DoneP l fs gr i k ∧ Bel w w' ∧ Bel wT w' ∧ Blk w' b2 25 #[.slice A l.length c, .slice B fs.length d] ∧ Blk w' b3 28 #[.slice (some ⟨nb, no, none⟩) gr.length cg] ∧ Blk w' b5 35 #[.int .i64 0, .int .i64 0] ∧ Blk w' b7 92 #[.slice (some ⟨bu, 0, none⟩) l.length l.length, .slice (some ⟨bd, 0, none⟩) l.length l.length] ∧ Blk w' b9 33 #[.int .i64 ((tn : Nat) : Int), .slice LA (gr[i]'hil).ln.length lc]) (fs.length) ?_ (fun m g9 w16 hI => ?_)
  ·
   exact ⟨0, Nat.zero_le _, rfl, rfl, hdn, hB, hBT, hb2, hb3, hb5, hb7, hb9⟩
  obtain ⟨k, hk, hmk, hgk, hdn, hB, hBT, hb2, hb3, hb5, hb7, hb9⟩ := hI
  refine c_know 33 (.int .i64 k) hgk nu (c_seq (c_region (wl (r_lss rfl rfl) (x_nil (e_S ?_)))))
  refine c_seq ?_
  refine c_ifd rfl (fun c34 => ?_) (fun c34 => ?_)
  ·
   have hkl : k < fs.length := by omega
   obtain ⟨fb, fo, rfl, hfb, hfr2⟩ := hF.at_ (Below.refl _ _ : Bel w w) hkl
   have hff := hva.f.at_ k hkl
   obtain ⟨on, hon, honl⟩ : ∃ t : Nat, (fs[k]'hkl).of = (t : Int) ∧ t < l.length := ⟨(fs[k]'hkl).of.toNat, by omega, by omega⟩
   obtain ⟨vn, hvn, hvnl⟩ : ∃ t : Nat, (fs[k]'hkl).val = (t : Int) ∧ t < l.length := ⟨(fs[k]'hkl).val.toNat, by omega, by omega⟩
   have hfa : ftAt fs ((k : Nat) : Int) = fs[k] := by simp [ftAt, List.getD, hkl]
   have hof : (ftAt fs ((k : Nat) : Int)).of.toNat = on := by rw [hfa, hon]; rfl
   have hvl : (ftAt fs ((k : Nat) : Int)).val = (vn : Int) := by rw [hfa, hvn]
   refine c_skip (e_S (c_seq (c_block (c_seq (c_region ?_)))))
   refine wmI rfl (wl (r_ia (i := k) U23 sz63_GVal rfl rfl om rfl) (wl (r_ldS U63 rfl rfl (hB.range hfb hfr2) sz63_GVal) ?_))
   refine wl_al (cs := #[.string ⟨#[]⟩, .int .i64 0, .int .i64 0]) ze63_GVal rfl (fun b11 w17 hb11 hs hr => ?_)
   have or_b2_b11 : b2 < b11 := nLL hb2.lt hr
   have or_b3_b11 : b3 < b11 := nLL hb3.lt hr
   have or_b5_b11 : b5 < b11 := nLL hb5.lt hr
   have or_b7_b11 : b7 < b11 := nLL hb7.lt hr
   have or_b9_b11 : b9 < b11 := nLL hb9.lt hr
   have lo11 := nLT (Bel.size hB) hr
   have lo_hBT_b11 := nLT (Bel.size hBT) hr
   replace hB := hB.tr0 hs
   replace hb2 := hb2.tr0 hs
   replace hb3 := hb3.tr0 hs
   replace hb5 := hb5.tr0 hs
   replace hBT := hBT.tr0 hs
   replace hb7 := hb7.tr0 hs
   replace hb9 := hb9.tr0 hs
   clear hs
   clear hr
   refine waI rfl ?_
   refine wl_stW hb11 rfl rfl sz63_GVal rfl oneA (fun w18 hq hs => ?_)
   replace hB := hB.tr1 hs lo11
   replace hb2 := hb2.tr1 hs om
   replace hb3 := hb3.tr1 hs om
   replace hb5 := hb5.tr1 hs om
   replace hBT := hBT.tr1 hs lo_hBT_b11
   replace hb7 := hb7.tr1 hs om
   replace hb9 := hb9.tr1 hs om
   clear hs
   replace hb11 := hq
   refine x_nil (e_S (c_seq ?_))
   rw [hon, hvn] at hb11
   refine c_cutS [38, 39, 40, 41, 42, 43, 44, 45, 46, 47, 48, 49, 50] (fun g w' => (g 50 = .bool (decide (sub l tn on = true ∧ tgt (gr[i]'hil).ln ((k : Nat) : Int) < 0))) ∧ Same [] w18 w') ?_ (fun g11 w19 hI => ?_)
   ·
    have hZ : SameQ [] w18 w18 := Same.refl _ _
    refine c_region (wl (r_ldS U92 rfl rfl hb7.range0 sz92_SFind) (wl (r_fa U33 sz3_GSearch dE rfl rfl rfl) (wl (r_ld1 (v := .int _ _) U3 rfl rfl (hb9.cell rfl)) (wl (r_fa U63 sz3_GSearch dE rfl rfl rfl) (wl (r_ld1 (v := .int _ _) U3 rfl rfl (hb11.cell rfl)) ?_)))))
    refine wl_cl fn50_SFind (tsub_any l bu bd tn on _ (hTI.mono hBT) hva.s.le htnl honl) rfl (fun e' w20 hr => ?_)
    obtain ⟨rfl, hs⟩ := hr
    replace hs := Same.of_bel hs
    replace hB := hB.tr0 hs
    replace hb2 := hb2.tr0 hs
    replace hb3 := hb3.tr0 hs
    replace hb5 := hb5.tr0 hs
    replace hBT := hBT.tr0 hs
    replace hb7 := hb7.tr0 hs
    replace hb9 := hb9.tr0 hs
    replace hb11 := hb11.tr0 hs
    replace hZ := SameQ.trans hZ hs (by simp)
    clear hs
    refine ⟨_, rfl, ?_⟩
    refine wmB rfl ?_
    refine wl_cases 44 rfl (fun g44 => ?_) (fun g44 => ?_)
    ·
     refine wl_gd 44 rfl rfl (wl (r_ldS U28 rfl rfl hb3.range0 sz28_GTgt) (wl_gd 44 rfl rfl (wmI rfl (wl_gd 44 rfl rfl (wmI rfl ?_)))))
     refine wl_gd 44 rfl rfl ?_
     refine wl_cl fn51 (target_any _ cg fs.length gr i ((k : Nat) : Int) _ (hG.mono hB) hil (loose_ln hva.lo i hil) (by have := hva.gok.few i hil; have := hva.few; omega)) rfl (fun e' w21 hr => ?_)
     obtain ⟨rfl, hs⟩ := hr
     replace hs := Same.of_bel hs
     replace hB := hB.tr0 hs
     replace hb2 := hb2.tr0 hs
     replace hb3 := hb3.tr0 hs
     replace hb5 := hb5.tr0 hs
     replace hBT := hBT.tr0 hs
     replace hb7 := hb7.tr0 hs
     replace hb9 := hb9.tr0 hs
     replace hb11 := hb11.tr0 hs
     replace hZ := SameQ.trans hZ hs (by simp)
     clear hs
     refine ⟨_, rfl, ?_⟩
     refine wl_gd 44 rfl rfl (wl (r_lss rfl rfl) (wl (r_pt (v := .bool _) rfl rfl) (x_nil ?_)))
     refine e_R ⟨agA, ?_⟩
     refine ⟨?_, hZ⟩
     refine congrArg Value.bool ?_
     first
       | exact decide_eq_decide.2 ⟨fun h => ⟨g44, h⟩, fun h => h.2⟩
       | exact (decide_eq_false (fun h => by rw [g44] at h; cases h.1)).symm
    refine wlgn 44 rfl rfl rfl (wlgn 44 rfl rfl rfl (wlgn 44 rfl rfl rfl (wlgn 44 rfl rfl rfl (wlgn 44 rfl rfl rfl (wl (r_pf (v := .bool _) rfl rfl) ?_)))))
    refine x_nil ?_
    refine e_R ⟨agA, ?_⟩
    refine ⟨?_, hZ⟩
    refine congrArg Value.bool ?_
    first
      | exact decide_eq_decide.2 ⟨fun h => ⟨g44, h⟩, fun h => h.2⟩
      | exact (decide_eq_false (fun h => by rw [g44] at h; cases h.1)).symm
   obtain ⟨hgp, hs⟩ := hI
   replace hB := hB.tr0 hs
   replace hb2 := hb2.tr0 hs
   replace hb3 := hb3.tr0 hs
   replace hb5 := hb5.tr0 hs
   replace hBT := hBT.tr0 hs
   replace hb7 := hb7.tr0 hs
   replace hb9 := hb9.tr0 hs
   replace hb11 := hb11.tr0 hs
   clear hs
   refine e_know 50 (.bool (decide (sub l tn on = true ∧ tgt (gr[i]'hil).ln ((k : Nat) : Int) < 0))) hgp nu (e_S ?_)
   refine c_ifd rfl (fun c50 => ?_) (fun c50 => ?_)
   ·
    have hnot : ¬ Tot l fs gr := fun h => by
      have h1 := h i hil k hkl (by rw [htnd, hof]; exact c50.1)
      rw [nd_eq hil] at h1
      have := c50.2
      omega
    refine c_seq (c_region (wl (r_bd (vs := #[]) (cs := #[.int .i64 0, .int .i64 0]) (by simp) kR) (waB rfl ?_)))
    refine wl_stW hb5 rfl rfl sz35_SFind rfl oneA (fun w22 hq hs => ?_)
    replace hB := hB.tr1 hs lo5
    replace hb2 := hb2.tr1 hs om
    replace hb3 := hb3.tr1 hs om
    replace hb7 := hb7.tr1 hs om
    replace hb9 := hb9.tr1 hs om
    replace hb11 := hb11.tr1 hs om
    clear hs
    replace hb5 := hq
    refine x_nil (e_S (c_ret (e_Br (e_Sr (e_LSr ?_)))))
    refine e_Br (e_Br (e_Sr (e_LSr (e_Br (e_Sr ?_)))))
    refine fin2 (.inl rfl) rfl rfl (rr_cell U35 rfl rfl hb5.range0 sz35_SFind) ?_
    exact ⟨ret_tot (by rw [totG_yes h0, totB_no hnot]) (gf_zzT h0), hB⟩
   have hcm : CompN l fs gr i k := fun hs => by
     rw [htnd, hof] at hs
     rw [nd_eq hil]
     exact Int.not_lt.1 (fun h => c50 ⟨hs, h⟩)
   refine c_skip (e_B (e_S (c_region (wl (r_add rfl rfl rfl om) (wmI rfl ?_)))))
   refine x_nil (e_LS (fs.length - (k + 1)) om agA ?_)
   exact ⟨k + 1, by omega, rfl, rfl, hdn.skip hcm, hB, hBT, hb2, hb3, hb5, hb7, hb9⟩
  have hke : k = fs.length := by omega
  subst hke
  have hdn2 := hdn.row
  refine c_exit (e_Sx (e_LSx (e_Bx (e_B (e_S ?_)))))
  refine c_region (wl (r_add rfl rfl rfl om) (wmI rfl (x_nil (e_LS (gr.length - (i + 1)) om agA ?_))))
  exact ⟨i + 1, by omega, rfl, rfl, hdn2, hB, hBT, hb2, hb3, hb5, hb7⟩
 have hie : i = gr.length := by omega
 subst hie
 have htt := hdn.tot
 refine c_exit (e_Sx (e_LSx (e_Bx (e_S (c_seq ?_)))))
 refine c_region (wl (r_bd (vs := #[]) (cs := #[.int .i64 0, .int .i64 0]) (by simp) kR) (waB rfl ?_))
 refine wl_stW hb5 rfl rfl sz35_SFind rfl oneA (fun w23 hq hs => ?_)
 replace hB := hB.tr1 hs lo5
 replace hb2 := hb2.tr1 hs om
 replace hb3 := hb3.tr1 hs om
 replace hb7 := hb7.tr1 hs om
 clear hs
 replace hb5 := hq
 refine x_nil (e_S (c_ret (fin2 (.inl rfl) rfl rfl (rr_cell U35 rfl rfl hb5.range0 sz35_SFind) ?_)))
 exact ⟨ret_tot (by rw [totG_yes h0, totB_yes htt]) (gf_zzT h0), hB⟩
end Go.Proofs.YtegngekpmpdngaaDoor
namespace Go.Proofs.YtegngekpmpdngaaDoor
open Go.RowKit
theorem srt_few : ∀ {xs : List (Int × Int)} {lo hi : Int}, Srt xs → (∀ z ∈ xs, lo ≤ z.1 ∧ z.1 < hi) → lo ≤ hi → (xs.length : Int) ≤ hi - lo
  | [], lo, hi, _, _, h => by simp only [List.length_nil]; omega
  | x :: xs, lo, hi, hs, hb, _ => by
    obtain ⟨h1, h2⟩ := List.pairwise_cons.1 hs
    have hx := hb x (List.mem_cons_self ..)
    have := srt_few (lo := x.1 + 1) (hi := hi) h2 (fun z hz => ⟨by have := h1 z hz; omega, (hb z (List.mem_cons_of_mem _ hz)).2⟩) om
    rw [List.length_cons]; omega
theorem rowB_few {D : List Nd} {i k nf : Nat} (hs : Srt (nd D i).ln) (hf : ∀ z ∈ (nd D i).ln, 0 ≤ z.1 ∧ z.1 < nf) : (rowB D i k i).length ≤ nf := by
  have h1 := srt_few hs hf om
  have h2 : (rowB D i k i).length ≤ (nd D i).ln.length := by
    unfold rowB
    rw [if_neg om, if_pos rfl]
    exact List.length_filter_le _ _
  omega
theorem rowB_zero {A : List Nd} (hf : ∀ z ∈ (nd A 0).ln, 0 ≤ z.1) (x : Nat) : rowB A 0 0 x = [] := by
  unfold rowB
  rw [if_neg om]
  split
  · rw [List.filter_eq_nil_iff]
    intro z hz h
    have := hf z hz
    simp only [decide_eq_true_eq] at h
    omega
  · rfl
theorem Rnd.rows_next {l : List Ty} {fs : List Ft} {C A D : List Nd} {na nm : List Nm} (hC : GV l fs C) {i : Nat} (h : Rnd l fs C A D na nm i fs.length) (hi : i < A.length) {x : Nat} (hx : x < D.length) : rowB D i fs.length x = rowB D (i + 1) 0 x := by
  have hd := h.ge
  rcases rowB_next (D := D) (fs := fs) (i := i) (fun z hz => (h.fd.feats hC i om z hz).2) x with e | ⟨_, z, hz, h0⟩
  · exact e.symm
  · have := (h.fd.feats hC x hx z hz).1
    omega
theorem Rnd.rows_end {l : List Ty} {fs : List Ft} {C A D : List Nd} {na nm : List Nm} (hC : GV l fs C) (h : Rnd l fs C A D na nm A.length 0) {x : Nat} (hx : x < D.length) : rowB D A.length 0 x = (nd D x).ln := by
  have hnil : ∀ x, ¬ x < A.length → nd A x = ⟨0, []⟩ := fun x hx => by simp [nd, List.getD, List.getElem?_eq_none (Nat.le_of_not_lt hx)]
  unfold rowB
  by_cases e : x < A.length
  · rw [if_pos e]
  · rw [if_neg e]
    have hn : (nd D x).ln = [] := by
      by_cases e2 : x = A.length
      · subst e2
        refine List.eq_nil_iff_forall_not_mem.2 (fun z hz => ?_)
        have h1 := (h.rest z.1 z.2 (h.fd.feats hC _ hx z hz).1).1 hz
        rw [hnil _ om] at h1
        cases h1
      · rw [h.same x om, hnil x e]
    by_cases e2 : x = A.length
    · subst e2; rw [if_pos rfl, hn]; rfl
    · rw [if_neg e2, hn]
theorem fn57 : callable Tryd.prog 57 = true := by kernel_rfl
set_option maxHeartbeats 2000000 in
theorem itot_any (A B G : Option Addr) (c d cg : Nat) (l : List Ty) (fs : List Ft) (gr : List Nd) (w : World) (hT : TypesIn w A l) (hF : FeatsIn w B fs) (hG : NodesIn w G gr) (hva : GV l fs gr) : Calls Tryd.prog 23 #[.agg #[.slice A l.length c, .slice B fs.length d], .agg #[.slice G gr.length cg]] w fun e w' => e = .returned (.bool (totB l fs gr)) ∧ Bel w w' := by
 have hf40 := hva.few
 have h60 := hva.gok.le
 refine enter Tryd.func23 Tryd.ntmps23 rfl (Nat.le_of_ble_eq_true rfl) ?_
 have hB : Bel w w := Below.refl _ _
 refine c_seq (c_region ?_)
 refine wl_bx (v := .agg #[_, _]) (cs := #[_, _]) rfl rfl (fun b2 w1 hb2 hs hr => ?_)
 have lo2 := nLT (Bel.size hB) hr
 replace hB := hB.tr0 hs
 clear hs
 clear hr
 refine wl_bx (v := .agg #[_]) (cs := #[_]) rfl rfl (fun b3 w2 hb3 hs hr => ?_)
 have or_b2_b3 : b2 < b3 := nLL hb2.lt hr
 have lo3 := nLT (Bel.size hB) hr
 replace hB := hB.tr0 hs
 replace hb2 := hb2.tr0 hs
 clear hs
 clear hr
 refine waB rfl (x_nil (e_S (c_seq (c_seq (c_region ?_)))))
 refine wl (r_fa U28 sz26_GTgt dE rfl rfl rfl) (wl (r_ld1 (v := .slice _ _ _) U26 rfl rfl (hb3.cell rfl)) (wl (r_len U26 rfl) (wmI rfl (x_nil (e_S ?_)))))
 refine c_block ?_
 refine c_loopS [4, 5, 6, 7, 8, 12, 13, 14, 15, 16, 17, 18, 19, 20, 21, 22, 23, 24, 25, 26, 27, 28, 29, 30, 31, 32, 33, 34, 35, 36, 37, 38, 39, 40] (fun m g w' => ∃ i : Nat, i ≤ gr.length ∧ m = gr.length - i ∧ g 12 = .int .i64 i ∧ DoneP l fs gr i 0 ∧ Bel w w' ∧ Blk w' b2 25 #[.slice A l.length c, .slice B fs.length d] ∧ Blk w' b3 28 #[.slice G gr.length cg]) (gr.length) ?_ (fun m g2 w3 hI => ?_)
 ·
  exact ⟨0, Nat.zero_le _, rfl, rfl, DoneP.start, hB, hb2, hb3⟩
 obtain ⟨i, hi, hm, hgi, hdn, hB, hb2, hb3⟩ := hI
 refine c_know 12 (.int .i64 i) hgi nu (c_seq (c_region (wl (r_lss rfl rfl) (x_nil (e_S ?_)))))
 refine c_seq ?_
 refine c_ifd rfl (fun c13 => ?_) (fun c13 => ?_)
 ·
  have hil : i < gr.length := by omega
  obtain ⟨nb, no, LA, lc, rfl, hnb, hnr, _⟩ := hG.at_ (Below.refl _ _ : Bel w w) hil
  obtain ⟨tn, htn, htnl⟩ : ∃ t : Nat, (gr[i]'hil).ty = (t : Int) ∧ t < l.length := by
    have h := hva.gok.ty i hil
    exact ⟨(gr[i]'hil).ty.toNat, by omega, by omega⟩
  have htnd : (nd gr i).ty.toNat = tn := by rw [nd_eq hil, htn]; rfl
  refine c_skip (e_S (c_seq (c_block (c_seq (c_region ?_)))))
  refine wmI rfl (wl (r_ia (i := i) U26 sz33_GTgt rfl rfl hil rfl) (wl (r_ldS U33 rfl rfl (hB.range hnb hnr) sz33_GTgt) ?_))
  refine wl_al (cs := #[.int .i64 0, .slice none 0 0]) ze33_GTgt rfl (fun b6 w4 hb6 hs hr => ?_)
  have or_b2_b6 : b2 < b6 := nLL hb2.lt hr
  have or_b3_b6 : b3 < b6 := nLL hb3.lt hr
  have lo6 := nLT (Bel.size hB) hr
  replace hB := hB.tr0 hs
  replace hb2 := hb2.tr0 hs
  replace hb3 := hb3.tr0 hs
  clear hs
  clear hr
  refine waI rfl ?_
  refine wl_stW hb6 rfl rfl sz33_GTgt rfl oneA (fun w5 hq hs => ?_)
  replace hB := hB.tr1 hs lo6
  replace hb2 := hb2.tr1 hs om
  replace hb3 := hb3.tr1 hs om
  clear hs
  replace hb6 := hq
  refine x_nil (e_S (c_seq ?_))
  rw [htn] at hb6
  refine c_region (wl (r_fa U25 sz23_GLoose dE rfl rfl rfl) (wl (r_ld1 (v := .slice _ _ _) U23 rfl rfl (hb2.cell rfl)) (wl (r_len U23 rfl) (wmI rfl (x_nil ?_)))))
  refine e_S (c_block ?_)
  refine c_loopS [4, 7, 8, 20, 21, 22, 23, 24, 25, 26, 27, 28, 29, 30, 31, 32, 33, 34, 35, 36, 37, 38, 39] (fun m g w' => ∃ k : Nat, k ≤ fs.length ∧ m = fs.length - k ∧ g 20 = .int .i64 k ∧ DoneP l fs gr i k ∧ Bel w w' ∧ Blk w' b2 25 #[.slice A l.length c, .slice B fs.length d] ∧ Blk w' b3 28 #[.slice (some ⟨nb, no, none⟩) gr.length cg] ∧ Blk w' b6 33 #[.int .i64 ((tn : Nat) : Int), .slice LA (gr[i]'hil).ln.length lc]) (fs.length) ?_ (fun m g5 w6 hI => ?_)
  ·
   exact ⟨0, Nat.zero_le _, rfl, rfl, hdn, hB, hb2, hb3, hb6⟩
  obtain ⟨k, hk, hmk, hgk, hdn, hB, hb2, hb3, hb6⟩ := hI
  refine c_know 20 (.int .i64 k) hgk nu (c_seq (c_region (wl (r_lss rfl rfl) (x_nil (e_S ?_)))))
  refine c_seq ?_
  refine c_ifd rfl (fun c21 => ?_) (fun c21 => ?_)
  ·
   have hkl : k < fs.length := by omega
   obtain ⟨fb, fo, rfl, hfb, hfr2⟩ := hF.at_ (Below.refl _ _ : Bel w w) hkl
   have hff := hva.f.at_ k hkl
   obtain ⟨on, hon, honl⟩ : ∃ t : Nat, (fs[k]'hkl).of = (t : Int) ∧ t < l.length := ⟨(fs[k]'hkl).of.toNat, by omega, by omega⟩
   obtain ⟨vn, hvn, hvnl⟩ : ∃ t : Nat, (fs[k]'hkl).val = (t : Int) ∧ t < l.length := ⟨(fs[k]'hkl).val.toNat, by omega, by omega⟩
   have hfa : ftAt fs ((k : Nat) : Int) = fs[k] := by simp [ftAt, List.getD, hkl]
   have hof : (ftAt fs ((k : Nat) : Int)).of.toNat = on := by rw [hfa, hon]; rfl
   have hvl : (ftAt fs ((k : Nat) : Int)).val = (vn : Int) := by rw [hfa, hvn]
   refine c_skip (e_S (c_seq (c_block (c_seq (c_region ?_)))))
   refine wmI rfl (wl (r_ia (i := k) U23 sz63_GVal rfl rfl om rfl) (wl (r_ldS U63 rfl rfl (hB.range hfb hfr2) sz63_GVal) ?_))
   refine wl_al (cs := #[.string ⟨#[]⟩, .int .i64 0, .int .i64 0]) ze63_GVal rfl (fun b8 w7 hb8 hs hr => ?_)
   have or_b2_b8 : b2 < b8 := nLL hb2.lt hr
   have or_b3_b8 : b3 < b8 := nLL hb3.lt hr
   have or_b6_b8 : b6 < b8 := nLL hb6.lt hr
   have lo8 := nLT (Bel.size hB) hr
   replace hB := hB.tr0 hs
   replace hb2 := hb2.tr0 hs
   replace hb3 := hb3.tr0 hs
   replace hb6 := hb6.tr0 hs
   clear hs
   clear hr
   refine waI rfl ?_
   refine wl_stW hb8 rfl rfl sz63_GVal rfl oneA (fun w8 hq hs => ?_)
   replace hB := hB.tr1 hs lo8
   replace hb2 := hb2.tr1 hs om
   replace hb3 := hb3.tr1 hs om
   replace hb6 := hb6.tr1 hs om
   clear hs
   replace hb8 := hq
   refine x_nil (e_S (c_seq ?_))
   rw [hon, hvn] at hb8
   refine c_cutS [25, 26, 27, 28, 29, 30, 31, 32, 33, 34, 35, 36, 37, 38] (fun g w' => (g 38 = .bool (decide (sub l tn on = true ∧ tgt (gr[i]'hil).ln ((k : Nat) : Int) < 0))) ∧ Same [] w8 w') ?_ (fun g7 w9 hI => ?_)
   ·
    have hZ : SameQ [] w8 w8 := Same.refl _ _
    refine c_region (wl (r_fa U25 sz22_SFind dE rfl rfl rfl) (wl (r_ld1 (v := .slice _ _ _) U22 rfl rfl (hb2.cell rfl)) (wl (r_fa U33 sz3_GSearch dE rfl rfl rfl) (wl (r_ld1 (v := .int _ _) U3 rfl rfl (hb6.cell rfl)) (wl (r_fa U63 sz3_GSearch dE rfl rfl rfl) ?_)))))
    refine wl (r_ld1 (v := .int _ _) U3 rfl rfl (hb8.cell rfl)) ?_
    refine wl_cl fn58_GVal (sub_any A c l tn on _ (hT.mono hB) hva.s.vt hva.s.le htnl honl) rfl (fun e' w10 hr => ?_)
    obtain ⟨rfl, hs⟩ := hr
    replace hs := Same.of_bel hs
    replace hB := hB.tr0 hs
    replace hb2 := hb2.tr0 hs
    replace hb3 := hb3.tr0 hs
    replace hb6 := hb6.tr0 hs
    replace hb8 := hb8.tr0 hs
    replace hZ := SameQ.trans hZ hs (by simp)
    clear hs
    refine ⟨_, rfl, ?_⟩
    refine wmB rfl ?_
    refine wl_cases 32 rfl (fun g32 => ?_) (fun g32 => ?_)
    ·
     refine wl_gd 32 rfl rfl (wl (r_ldS U28 rfl rfl hb3.range0 sz28_GTgt) (wl_gd 32 rfl rfl (wmI rfl (wl_gd 32 rfl rfl (wmI rfl ?_)))))
     refine wl_gd 32 rfl rfl ?_
     refine wl_cl fn57 (rtarget_any _ cg gr i ((k : Nat) : Int) _ (hG.mono hB) hil) rfl (fun e' w11 hr => ?_)
     obtain ⟨rfl, hs⟩ := hr
     replace hs := Same.of_bel hs
     replace hB := hB.tr0 hs
     replace hb2 := hb2.tr0 hs
     replace hb3 := hb3.tr0 hs
     replace hb6 := hb6.tr0 hs
     replace hb8 := hb8.tr0 hs
     replace hZ := SameQ.trans hZ hs (by simp)
     clear hs
     refine ⟨_, rfl, ?_⟩
     refine wl_gd 32 rfl rfl (wl (r_lss rfl rfl) (wl (r_pt (v := .bool _) rfl rfl) (x_nil ?_)))
     refine e_R ⟨agA, ?_⟩
     refine ⟨?_, hZ⟩
     refine congrArg Value.bool ?_
     first
       | exact decide_eq_decide.2 ⟨fun h => ⟨g32, h⟩, fun h => h.2⟩
       | exact (decide_eq_false (fun h => by rw [g32] at h; cases h.1)).symm
    refine wlgn 32 rfl rfl rfl (wlgn 32 rfl rfl rfl (wlgn 32 rfl rfl rfl (wlgn 32 rfl rfl rfl (wlgn 32 rfl rfl rfl (wl (r_pf (v := .bool _) rfl rfl) ?_)))))
    refine x_nil ?_
    refine e_R ⟨agA, ?_⟩
    refine ⟨?_, hZ⟩
    refine congrArg Value.bool ?_
    first
      | exact decide_eq_decide.2 ⟨fun h => ⟨g32, h⟩, fun h => h.2⟩
      | exact (decide_eq_false (fun h => by rw [g32] at h; cases h.1)).symm
   obtain ⟨hgp, hs⟩ := hI
   replace hB := hB.tr0 hs
   replace hb2 := hb2.tr0 hs
   replace hb3 := hb3.tr0 hs
   replace hb6 := hb6.tr0 hs
   replace hb8 := hb8.tr0 hs
   clear hs
   refine e_know 38 (.bool (decide (sub l tn on = true ∧ tgt (gr[i]'hil).ln ((k : Nat) : Int) < 0))) hgp nu (e_S ?_)
   refine c_ifd rfl (fun c38 => ?_) (fun c38 => ?_)
   ·
    have hnot : ¬ Tot l fs gr := fun h => by
      have h1 := h i hil k hkl (by rw [htnd, hof]; exact c38.1)
      rw [nd_eq hil] at h1
      have := c38.2
      omega
    refine c_seq (c_region (waB rfl (x_nil (e_S (c_ret ?_)))))
    refine e_Br (e_Sr (e_LSr (e_Br (e_Br (e_Sr ?_)))))
    refine e_LSr (e_Br (e_Sr (fin1 (.inl rfl) rfl rfl ?_)))
    exact ⟨ret_bool (totB_no hnot), hB⟩
   have hcm : CompN l fs gr i k := fun hs => by
     rw [htnd, hof] at hs
     rw [nd_eq hil]
     exact Int.not_lt.1 (fun h => c38 ⟨hs, h⟩)
   refine c_skip (e_B (e_S (c_region (wl (r_add rfl rfl rfl om) (wmI rfl ?_)))))
   refine x_nil (e_LS (fs.length - (k + 1)) om agA ?_)
   exact ⟨k + 1, by omega, rfl, rfl, hdn.skip hcm, hB, hb2, hb3, hb6⟩
  have hke : k = fs.length := by omega
  subst hke
  have hdn2 := hdn.row
  refine c_exit (e_Sx (e_LSx (e_Bx (e_B (e_S ?_)))))
  refine c_region (wl (r_add rfl rfl rfl om) (wmI rfl (x_nil (e_LS (gr.length - (i + 1)) om agA ?_))))
  exact ⟨i + 1, by omega, rfl, rfl, hdn2, hB, hb2, hb3⟩
 have hie : i = gr.length := by omega
 subst hie
 have htt := hdn.tot
 refine c_exit (e_Sx (e_LSx (e_Bx (e_S (c_seq ?_)))))
 refine c_region (waB rfl (x_nil (e_S (c_ret (fin1 (.inl rfl) rfl rfl ?_)))))
 exact ⟨ret_bool (totB_yes htt), hB⟩
end Go.Proofs.YtegngekpmpdngaaDoor
