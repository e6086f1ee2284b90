/- What these functions of the program compute, at every world: glosswright/unify.Into, glosswright/unify.sized, glosswright/unify.Unify. Two graphs are unified: the result is the least graph to which both map. No program in sight. -/
import Derived.Test.YtegngekpmpdngaaDoorU
import Derived.Test.YtegngekpmpdngaaDoorPGraph
namespace Go.Proofs.YtegngekpmpdngaaDoor
open Go.RowKit
def UniR (l : List Ty) (U : List Nd) (J : List (Nat × Nat)) (X : List Nd) : Prop := ∃ P rep ρ T L o, US l U J P rep ρ T L [] ∧ DL (poolG U.length rep T L) [rep 0] [] o ∧ X = canG (poolG U.length rep T L) o
theorem shN_zero (g : List Nd) : g.map (shN 0) = g := by
  have h : ∀ x : Nd, shN 0 x = x := fun x => by
    refine nd_ext rfl ?_
    simp [shN]
  rw [List.map_congr_left (g := id) (fun x _ => h x), List.map_id]
theorem two_feat {nf : Nat} {U g : List Nd} (hU : ∀ i, i < U.length → ∀ z ∈ (nd U i).ln, 0 ≤ z.1 ∧ z.1 < nf) (hg : ∀ i, i < g.length → ∀ z ∈ (nd g i).ln, 0 ≤ z.1 ∧ z.1 < nf) : ∀ i, i < (U ++ g.map (shN U.length)).length → ∀ z ∈ (nd (U ++ g.map (shN U.length)) i).ln, 0 ≤ z.1 ∧ z.1 < nf := fun i hi z hz => by
  by_cases e : i < U.length
  · rw [nd_left e] at hz; exact hU i e z hz
  · have hl : i - U.length < g.length := by simp at hi; omega
    have h := nd_right (U := U) hl
    rw [show U.length + (i - U.length) = i by omega] at h
    rw [h] at hz
    obtain ⟨y, hy, rfl⟩ := List.mem_map.1 hz
    exact hg _ hl y hy
theorem gok_feat {nt nf : Nat} {g : List Nd} (h : GOk nt nf g) : ∀ i, i < g.length → ∀ z ∈ (nd g i).ln, 0 ≤ z.1 ∧ z.1 < nf := fun i hi z hz => by
  rw [nd_eq hi] at hz
  have := h.ln i hi z hz
  omega
theorem pool_nil {w : World} {ob bp cp ct cl : Nat} {c0 c1 : Value} (h : Blk w bp 143 #[c0, c1, .slice none 0 cp, .slice none 0 ct, .slice none 0 cl]) (hp : cp = 0) (ht : ct = 0) (hl : cl = 0) : PoolAt w ob bp c0 c1 0 none none none cp ct cl (fun x => x) (fun _ => 0) (fun _ => .slice none 0 0) (fun _ => []) := by
  subst hp ht hl
  exact ⟨h, Own.nil _ _ _ _, Own.nil _ _ _ _, Own.nil _ _ _ _, fun x hx => absurd hx (Nat.not_lt_zero _), fun g hg => by cases hg⟩
theorem US.first {l : List Ty} {g : List Nd} (hg : GY l g) : US l g [] (addP 0 (fun x => x)) (fun x => if x < 0 then x else x) (fun _ => 0) (addT 0 (fun _ => 0) g) (addL 0 (fun _ => []) g) [] := by
  have h := (US.nil (l := l) (P := fun x => x) (rep := fun x => x) (ρ := fun _ => 0) (T := fun _ => 0) (L := fun _ => [])).add hg (fun p hp => by cases hp)
  rw [List.nil_append, show ([] : List Nd).length = 0 from rfl, shN_zero] at h
  exact h
theorem NodesIn.chgB {w0 w w2 : World} {ob b : Nat} {G : Option Addr} {g : List Nd} (h : NodesIn w0 G g) (hB : Bel w0 w) (hc : Chg ob [b] w w2) (h1 : w0.heap.size ≤ ob) (h2 : w0.heap.size ≤ b) : NodesIn w2 G g := h.mono (hB.chg hc h1 (fun g hg => by rw [List.mem_singleton.1 hg]; exact h2))
theorem ret_into {A : Option Addr} {n : Nat} {X : List Nd} (h : X.length = n) : Ending.returned (.tuple #[.agg #[.slice A n n], .bool true]) = .returned (.tuple #[.agg #[.slice A X.length X.length], .bool true]) := by rw [h]
def SizedS (A : Option Addr) (n c : Nat) (b : Bool) (A' : Option Addr) (n' c' : Nat) (ok : Bool) (x y : Int) : Prop := (b = false ∧ A' = none ∧ n' = 0 ∧ c' = 0 ∧ ok = false ∧ x = 0 ∧ y = 0) ∨ (b = true ∧ 60 < n ∧ A' = none ∧ n' = 0 ∧ c' = 0 ∧ ok = false ∧ x = 17 ∧ y = -1) ∨ (b = true ∧ n ≤ 60 ∧ A' = A ∧ n' = n ∧ c' = c ∧ ok = true ∧ x = 0 ∧ y = 0)
def UnifyS (l : List Ty) (fs : List Ft) (ga gb : List Nd) (ok : Bool) (f : Fl) (X : List Nd) : Prop :=
  (¬ (twoG l fs ga gb).1 = 0 ∧ ok = false ∧ f = twoG l fs ga gb ∧ X = []) ∨ ((twoG l fs ga gb).1 = 0 ∧ ok = false ∧ f = (0, 0) ∧ X = [] ∧ ¬ Bound l (ga ++ gb.map (shN ga.length)) [(0, ga.length)]) ∨ ((twoG l fs ga gb).1 = 0 ∧ ok = false ∧ f = (17, -1) ∧ X = [] ∧ ∃ Y, UniR l (ga ++ gb.map (shN ga.length)) [(0, ga.length)] Y ∧ 60 < Y.length) ∨ ((twoG l fs ga gb).1 = 0 ∧ ok = true ∧ f = (0, 0) ∧ UniR l (ga ++ gb.map (shN ga.length)) [(0, ga.length)] X ∧ X.length ≤ 60)
theorem ret_un {A : Option Addr} {n c : Nat} {ok : Bool} {f : Fl} {x y : Int} {X : List Nd} (hn : X.length = n) (hc : X.length = c) (hx : f = (x, y)) : Ending.returned (.tuple #[.agg #[.slice A n c], .bool ok, .agg #[.int .i64 x, .int .i64 y]]) = .returned (.tuple #[.agg #[.slice A X.length X.length], .bool ok, .agg #[.int .i64 f.1, .int .i64 f.2]]) := by
  subst hn hx
  rw [← hc]
theorem un_fin {l : List Ty} {fs : List Ft} {ga gb X : List Nd} {A A2 : Option Addr} {ok ok2 : Bool} {n2 c2 lo : Nat} {x y : Int} {w : World} (h0 : (twoG l fs ga gb).1 = 0) (hc : (ok = true ∧ UniR l (ga ++ gb.map (shN ga.length)) [(0, ga.length)] X) ∨ (ok = false ∧ X = [] ∧ ¬ Bound l (ga ++ gb.map (shN ga.length)) [(0, ga.length)])) (hs : SizedS A X.length X.length ok A2 n2 c2 ok2 x y) (hN : ∀ w2, FrSame lo w w2 → NodesIn w2 A X) : ∃ X2 : List Nd, X2.length = n2 ∧ c2 = n2 ∧ (∀ w2, FrSame lo w w2 → NodesIn w2 A2 X2) ∧ UnifyS l fs ga gb ok2 (x, y) X2 := by
  rcases hs with ⟨a1, rfl, rfl, rfl, rfl, rfl, rfl⟩ | ⟨a1, a2, rfl, rfl, rfl, rfl, rfl, rfl⟩ | ⟨a1, a2, rfl, rfl, rfl, rfl, rfl, rfl⟩
  · rcases hc with ⟨b1, _⟩ | ⟨_, _, b3⟩
    · rw [a1] at b1; cases b1
    · exact ⟨[], rfl, rfl, fun w2 _ => nodes_nil w2 none, .inr (.inl ⟨h0, rfl, rfl, rfl, b3⟩)⟩
  · rcases hc with ⟨_, b2⟩ | ⟨b1, _⟩
    · exact ⟨[], rfl, rfl, fun w2 _ => nodes_nil w2 none, .inr (.inr (.inl ⟨h0, rfl, rfl, rfl, X, b2, a2⟩))⟩
    · rw [a1] at b1; cases b1
  · rcases hc with ⟨_, b2⟩ | ⟨b1, _⟩
    · exact ⟨X, rfl, rfl, hN, .inr (.inr (.inr ⟨h0, rfl, rfl, b2, a2⟩))⟩
    · rw [a1] at b1; cases b1
theorem fn69 : callable Tryd.prog 69 = true := by kernel_rfl
theorem fn70 : callable Tryd.prog 70 = true := by kernel_rfl
theorem fn94 : callable Tryd.prog 94 = true := by kernel_rfl
theorem fn95 : callable Tryd.prog 95 = true := by kernel_rfl
theorem fn96 : callable Tryd.prog 96 = true := by kernel_rfl
set_option maxRecDepth 100000 in
set_option maxHeartbeats 2000000 in
theorem into_any {nt nf bu bd j c1 c2 : Nat} {G1 G2 : Option Addr} {l : List Ty} {ga gb : List Nd} (w : World) (hTab : TabIn w) (hTI : TableIn w l bu bd) (hSd : Sound l) (hG1 : NodesIn w G1 ga) (hG2 : NodesIn w G2 gb) (hka : GOk nt nf ga) (hkb : GOk nt nf gb) (hya : GY l ga) (hyb : GY l gb) (hnf : nf ≤ 1000) (hj : j < ga.length) : Calls Tryd.prog 70 #[.agg #[.slice (some ⟨bu, 0, none⟩) l.length l.length, .slice (some ⟨bd, 0, none⟩) l.length l.length], .agg #[.slice G1 ga.length c1], .int .i64 (j : Nat), .agg #[.slice G2 gb.length c2]] w fun e w' => (∃ A X ok, e = .returned (.tuple #[.agg #[.slice A (List.length X) X.length], .bool ok]) ∧ (∀ w2, FrSame w.heap.size w' w2 → NodesIn w2 A X) ∧ ((ok = true ∧ UniR l (ga ++ gb.map (shN ga.length)) [(j, ga.length)] X) ∨ (ok = false ∧ X = [] ∧ ¬ Bound l (ga ++ gb.map (shN ga.length)) [(j, ga.length)]))) ∧ Bel w w' := by
 have hna := hka.le
 have hnb := hkb.le
 have hpb := hkb.pos
 refine enter Tryd.func70 Tryd.ntmps70 rfl (Nat.le_of_ble_eq_true rfl) ?_
 have hB : Bel w w := Below.refl _ _
 refine c_seq (c_region ?_)
 refine wl_bx (v := .agg #[_, _]) (cs := #[_, _]) rfl rfl (fun b4 w1 hb4 hs hr => ?_)
 have lo4 := nLT (Bel.size hB) hr
 replace hB := hB.tr0 hs
 clear hs
 clear hr
 refine wl_bx (v := .agg #[_]) (cs := #[_]) rfl rfl (fun b5 w2 hb5 hs hr => ?_)
 have or_b4_b5 : b4 < b5 := nLL hb4.lt hr
 have lo5 := nLT (Bel.size hB) hr
 replace hB := hB.tr0 hs
 replace hb4 := hb4.tr0 hs
 clear hs
 clear hr
 refine wl_bx (v := .agg #[_]) (cs := #[_]) rfl rfl (fun b7 w3 hb7 hs hr => ?_)
 have or_b4_b7 : b4 < b7 := nLL hb4.lt hr
 have or_b5_b7 : b5 < b7 := nLL hb5.lt hr
 have lo7 := nLT (Bel.size hB) hr
 replace hB := hB.tr0 hs
 replace hb4 := hb4.tr0 hs
 replace hb5 := hb5.tr0 hs
 clear hs
 clear hr
 refine wl_al (cs := #[.slice none 0 0]) ze28_GTgt rfl (fun b8 w4 hb8 hs hr => ?_)
 have or_b4_b8 : b4 < b8 := nLL hb4.lt hr
 have or_b5_b8 : b5 < b8 := nLL hb5.lt hr
 have or_b7_b8 : b7 < b8 := nLL hb7.lt hr
 have lo8 := nLT (Bel.size hB) hr
 replace hB := hB.tr0 hs
 replace hb4 := hb4.tr0 hs
 replace hb5 := hb5.tr0 hs
 replace hb7 := hb7.tr0 hs
 clear hs
 clear hr
 refine waB rfl (x_nil (e_S (c_seq (c_region (wl (r_ldS U92 rfl rfl hb4.range0 sz92_SFind) ?_)))))
 refine wl (r_bd1 (v0 := .agg _) (fun v0 => #[(cellOf v0 0), (cellOf v0 1), .slice none 0 0, .slice none 0 0, .slice none 0 0]) rfl kR) ?_
 refine wl_bx (v := .agg #[_, _, _, _, _]) (cs := #[_, _, _, _, _]) rfl rfl (fun b13 w5 hb13 hs hr => ?_)
 have or_b4_b13 : b4 < b13 := nLL hb4.lt hr
 have or_b5_b13 : b5 < b13 := nLL hb5.lt hr
 have or_b7_b13 : b7 < b13 := nLL hb7.lt hr
 have or_b8_b13 : b8 < b13 := nLL hb8.lt hr
 have lo13 := nLT (Bel.size hB) hr
 replace hB := hB.tr0 hs
 replace hb4 := hb4.tr0 hs
 replace hb5 := hb5.tr0 hs
 replace hb7 := hb7.tr0 hs
 replace hb8 := hb8.tr0 hs
 clear hs
 clear hr
 refine wl (r_as (v := .pointer (some _)) rfl) (x_nil (e_S (c_seq ?_)))
 replace hb13 : Blk w5 b13 143 #[.slice (some ⟨bu, 0, none⟩) l.length l.length, .slice (some ⟨bd, 0, none⟩) l.length l.length, .slice none 0 0, .slice none 0 0, .slice none 0 0] := hb13
 have hz13 := hb13.lt
 refine c_region (wl (r_mv (v := .pointer (some _)) rfl) (wl (r_ldS U28 rfl rfl hb5.range0 sz28_GTgt) ?_))
 refine wl_cl fn94 (padd_any (n := 0) nt _ (pool_nil hb13 rfl rfl rfl) (Nat.lt_succ_self _) hz13 om (fun w2 hc => hG1.chgB hB hc om lo13) hka hnf) rfl (fun e' w6 hr => ?_)
 obtain ⟨⟨PA1, TA1, LA1, cp1, ct1, cl1, V1, rfl, hp1⟩, hC, hs1⟩ := hr
 replace hB := hB.chg hC om (by simp; omega)
 replace hb4 := hb4.chg hC om (by simp; omega)
 replace hb5 := hb5.chg hC om (by simp; omega)
 replace hb7 := hb7.chg hC om (by simp; omega)
 replace hb8 := hb8.chg hC om (by simp; omega)
 rw [Nat.zero_add] at hp1
 have hus1 := US.first hya
 refine ⟨_, rfl, ?_⟩
 refine x_nil (e_S (c_seq (c_seq (c_region (wl (r_mv (v := .pointer (some _)) rfl) ?_)))))
 refine wmI rfl (wl (r_mv (v := .pointer (some _)) rfl) (wl (r_ldS U28 rfl rfl hb7.range0 sz28_GTgt) ?_))
 have hl13 : w.heap.size ≤ b13 := lo13
 refine wl_cl fn94 (padd_any (n := ga.length) nt _ hp1 (Nat.lt_succ_self _) hs1 om (fun w2 hc => hG2.chgB hB hc om lo13) hkb hnf) rfl (fun e' w7 hr => ?_)
 obtain ⟨⟨PA2, TA2, LA2, cp2, ct2, cl2, V2, rfl, hp2⟩, hC, hs2⟩ := hr
 replace hB := hB.chg hC om (by simp; omega)
 replace hb4 := hb4.chg hC om (by simp; omega)
 replace hb5 := hb5.chg hC om (by simp; omega)
 replace hb7 := hb7.chg hC om (by simp; omega)
 replace hb8 := hb8.chg hC om (by simp; omega)
 have hUl : (ga ++ gb.map (shN ga.length)).length = ga.length + gb.length := by simp
 have hus2 := (hus1.add hyb (fun p hp => by cases hp)).push (a := j) (b := ga.length) om om
 rw [← hUl] at hp2
 have hUf := two_feat (gok_feat hka) (gok_feat hkb)
 refine ⟨_, rfl, ?_⟩
 refine wl_cl fn95 (pjoin_any (U := (ga ++ gb.map (shN ga.length))) (J := [(j, ga.length)]) (nf := nf) w _ hTab hTI hSd hB om hp2 (Nat.lt_succ_self _) hs2 om hnf hUf om hus2) rfl (fun e' w8 hr => ?_)
 obtain ⟨⟨b, rfl, hyes, hno⟩, hC, hs3⟩ := hr
 replace hB := hB.chg hC om (by simp; omega)
 replace hb4 := hb4.chg hC om (by simp; omega)
 replace hb5 := hb5.chg hC om (by simp; omega)
 replace hb7 := hb7.chg hC om (by simp; omega)
 replace hb8 := hb8.chg hC om (by simp; omega)
 refine ⟨_, rfl, ?_⟩
 refine wl (r_not rfl) (x_nil (e_S ?_))
 refine c_if rfl (fun c23 => ?_) (fun c23 => ?_)
 ·
  have hbf : b = false := by simpa using c23
  have hnb2 := hno hbf
  refine c_seq (c_region (wl (r_bd (vs := #[]) (cs := #[.slice none 0 0]) (by simp) kR) ?_))
  refine wl_stW hb8 rfl rfl sz28_GTgt rfl oneA (fun w9 hq hs => ?_)
  replace hB := hB.tr1 hs lo8
  replace hb4 := hb4.tr1 hs om
  replace hb5 := hb5.tr1 hs om
  replace hb7 := hb7.tr1 hs om
  clear hs
  replace hb8 := hq
  refine waB rfl (x_nil (e_S (c_ret (e_Sr (fin2 (.inl rfl) rfl (rr_cell U28 rfl rfl hb8.range0 sz28_GTgt) rfl ?_)))))
  exact ⟨⟨none, [], false, rfl, fun w2 _ => nodes_nil w2 none, .inr ⟨rfl, rfl, hnb2⟩⟩, hB⟩
 have hbt : b = true := by simpa using c23
 obtain ⟨P3, rep3, ρ3, T3, V3, L3, hp3, hus3⟩ := hyes hbt
 have hz8 := hb8.lt
 have hszv := Bel.size hB
 refine c_skip (e_S (c_seq (c_region (wl (r_mv (v := .pointer (some _)) rfl) ?_))))
 refine wl_cl fn96 (pgraph_any (r := 0) (nf := nf) _ hp3 hus3.uf (Nat.lt_succ_self _) hs3 om hnf (pool_gok2 hus3 om om hUf) om (fun i hi hr z hz => by
    obtain ⟨u, hu, _, hm⟩ := hus3.val i hi hr z hz
    exact hus3.ur u hu z hm) (fun i hi hr => by
    have := srt_len (nf := nf) (lo := 0) (hus3.srt i hi) (fun z hz => by
      obtain ⟨u, hu, _, hm⟩ := hus3.val i hi hr z hz
      exact hUf u hu z hm) (Int.le_refl _) om
    omega)) rfl (fun e' w10 hr => ?_)
 obtain ⟨⟨o, AF, hD, rfl, hN⟩, hC, hs4⟩ := hr
 replace hB := hB.chg hC om (by simp; omega)
 replace hb4 := hb4.chg hC om (by simp; omega)
 replace hb5 := hb5.chg hC om (by simp; omega)
 replace hb7 := hb7.chg hC om (by simp; omega)
 replace hb8 := hb8.chg hC om (by simp; omega)
 have hFr : FrSame (w8).heap.size w10 w10 := FrSame.refl _ _
 obtain ⟨Z0, hZ0⟩ : ∃ z, z = (w8).heap.size := ⟨_, rfl⟩
 rw [← hZ0] at hN hFr hz8 hszv
 obtain ⟨wZ, hwZ⟩ : ∃ z, z = w10 := ⟨_, rfl⟩
 replace hFr : FrSame Z0 wZ w10 := by rw [hwZ]; exact FrSame.refl _ _
 rw [← hwZ] at hN
 refine ⟨_, rfl, ?_⟩
 refine wl_stW hb8 rfl rfl sz28_GTgt rfl oneA (fun w11 hq hs => ?_)
 replace hB := hB.tr1 hs lo8
 replace hb4 := hb4.tr1 hs om
 replace hb5 := hb5.tr1 hs om
 replace hb7 := hb7.tr1 hs om
 replace hFr := hFr.of hs (fun g hg => by rw [List.mem_singleton.1 hg]; omega)
 clear hs
 replace hb8 := hq
 refine waB rfl (x_nil (e_S (c_ret (fin2 (.inl rfl) rfl (rr_cell U28 rfl rfl hb8.range0 sz28_GTgt) rfl ?_))))
 have hcl : (canG (poolG (ga ++ gb.map (shN ga.length)).length rep3 T3 L3) o).length = o.length := canG_len _ _
 exact ⟨⟨AF, _, true, ret_into hcl, fun w2 hf => hN w2 (hFr.then hf hszv), .inl ⟨rfl, P3, rep3, ρ3, T3, L3, o, hus3, hD, rfl⟩⟩, hB⟩
theorem sized_any (A : Option Addr) (n c : Nat) (b : Bool) (w : World) : Calls Tryd.prog 69 #[.agg #[.slice A n c], .bool b] w fun e w' => (∃ A' n' c' ok x y, e = .returned (.tuple #[.agg #[.slice A' n' c'], .bool ok, .agg #[.int .i64 x, .int .i64 y]]) ∧ SizedS A n c b A' n' c' ok x y) ∧ Bel w w' := by
 refine enter Tryd.func69 Tryd.ntmps69 rfl (Nat.le_of_ble_eq_true rfl) ?_
 have hB : Bel w w := Below.refl _ _
 refine c_seq (c_region ?_)
 refine wl_bx (v := .agg #[_]) (cs := #[_]) rfl rfl (fun b2 w1 hb2 hs hr => ?_)
 have lo2 := nLT (Bel.size hB) hr
 replace hB := hB.tr0 hs
 clear hs
 clear hr
 refine wl_al (cs := #[.slice none 0 0]) ze28_GTgt rfl (fun b4 w2 hb4 hs hr => ?_)
 have or_b2_b4 : b2 < b4 := nLL hb2.lt hr
 have lo4 := nLT (Bel.size hB) hr
 replace hB := hB.tr0 hs
 replace hb2 := hb2.tr0 hs
 clear hs
 clear hr
 refine waB rfl ?_
 refine wl_al (cs := #[.int .i64 0, .int .i64 0]) ze35_SFind rfl (fun b6 w3 hb6 hs hr => ?_)
 have or_b2_b6 : b2 < b6 := nLL hb2.lt hr
 have or_b4_b6 : b4 < b6 := nLL hb4.lt hr
 have lo6 := nLT (Bel.size hB) hr
 replace hB := hB.tr0 hs
 replace hb2 := hb2.tr0 hs
 replace hb4 := hb4.tr0 hs
 clear hs
 clear hr
 refine x_nil (e_S (c_seq (c_seq (c_region (wmB rfl ?_)))))
 refine wl (r_not rfl) (x_nil (e_S ?_))
 refine c_if rfl (fun c8 => ?_) (fun c8 => ?_)
 ·
  have hbf : b = false := by simpa using c8
  refine c_seq (c_region (wl (r_bd (vs := #[]) (cs := #[.slice none 0 0]) (by simp) kR) (wl (r_bd (vs := #[]) (cs := #[.int .i64 0, .int .i64 0]) (by simp) kR) ?_)))
  refine wl_stW hb4 rfl rfl sz28_GTgt rfl oneA (fun w4 hq hs => ?_)
  replace hB := hB.tr1 hs lo4
  replace hb2 := hb2.tr1 hs om
  replace hb6 := hb6.tr1 hs om
  clear hs
  replace hb4 := hq
  refine waB rfl ?_
  refine wl_stW hb6 rfl rfl sz35_SFind rfl oneA (fun w5 hq hs => ?_)
  replace hB := hB.tr1 hs lo6
  replace hb2 := hb2.tr1 hs om
  replace hb4 := hb4.tr1 hs om
  clear hs
  replace hb6 := hq
  refine x_nil (e_S (c_ret (e_Sr (fin3 (.inl rfl) rfl (rr_cell U28 rfl rfl hb4.range0 sz28_GTgt) rfl (rr_cell U35 rfl rfl hb6.range0 sz35_SFind) ?_))))
  exact ⟨⟨_, _, _, _, _, _, rfl, .inl ⟨hbf, rfl, rfl, rfl, rfl, rfl, rfl⟩⟩, hB⟩
 have hbt : b = true := by simpa using c8
 refine c_skip (e_S (c_seq (c_seq (c_region (wl (r_fa U28 sz26_GTgt dE rfl rfl rfl) ?_)))))
 refine wl (r_ld1 (v := .slice _ _ _) U26 rfl rfl (hb2.cell rfl)) (wl (r_len U26 rfl) (wl (r_gtr rfl rfl) (x_nil (e_S ?_))))
 refine c_ifd rfl (fun c14 => ?_) (fun c14 => ?_)
 ·
  have h60 : 60 < n := by omega
  refine c_seq (c_region (wl (r_bd (vs := #[]) (cs := #[.slice none 0 0]) (by simp) kR) (wl (r_bd2 (v0 := .int _ _) (v1 := .int _ _) (fun v0 v1 => #[v0, v1]) rfl rfl kR) ?_)))
  refine wl_stW hb4 rfl rfl sz28_GTgt rfl oneA (fun w6 hq hs => ?_)
  replace hB := hB.tr1 hs lo4
  replace hb2 := hb2.tr1 hs om
  replace hb6 := hb6.tr1 hs om
  clear hs
  replace hb4 := hq
  refine waB rfl ?_
  refine wl_stW hb6 rfl rfl sz35_SFind rfl oneA (fun w7 hq hs => ?_)
  replace hB := hB.tr1 hs lo6
  replace hb2 := hb2.tr1 hs om
  replace hb4 := hb4.tr1 hs om
  clear hs
  replace hb6 := hq
  refine x_nil (e_S (c_ret (e_Sr (fin3 (.inl rfl) rfl (rr_cell U28 rfl rfl hb4.range0 sz28_GTgt) rfl (rr_cell U35 rfl rfl hb6.range0 sz35_SFind) ?_))))
  exact ⟨⟨_, _, _, _, _, _, rfl, .inr (.inl ⟨hbt, h60, rfl, rfl, rfl, rfl, rfl, rfl⟩)⟩, hB⟩
 have h60 : n ≤ 60 := by omega
 refine c_skip (e_S (c_seq (c_region (wl (r_ldS U28 rfl rfl hb2.range0 sz28_GTgt) (wl (r_bd (vs := #[]) (cs := #[.int .i64 0, .int .i64 0]) (by simp) kR) ?_)))))
 refine wl_stW hb4 rfl rfl sz28_GTgt rfl oneA (fun w8 hq hs => ?_)
 replace hB := hB.tr1 hs lo4
 replace hb2 := hb2.tr1 hs om
 replace hb6 := hb6.tr1 hs om
 clear hs
 replace hb4 := hq
 refine waB rfl ?_
 refine wl_stW hb6 rfl rfl sz35_SFind rfl oneA (fun w9 hq hs => ?_)
 replace hB := hB.tr1 hs lo6
 replace hb2 := hb2.tr1 hs om
 replace hb4 := hb4.tr1 hs om
 clear hs
 replace hb6 := hq
 refine x_nil (e_S (c_ret (fin3 (.inl rfl) rfl (rr_cell U28 rfl rfl hb4.range0 sz28_GTgt) rfl (rr_cell U35 rfl rfl hb6.range0 sz35_SFind) ?_)))
 exact ⟨⟨_, _, _, _, _, _, rfl, .inr (.inr ⟨hbt, h60, rfl, rfl, rfl, rfl, rfl, rfl⟩)⟩, hB⟩
set_option maxHeartbeats 2000000 in
theorem unify_any (A B G1 G2 : Option Addr) (c d c1 c2 : Nat) (l : List Ty) (fs : List Ft) (ga gb : List Nd) (w : World) (hTab : TabIn w) (hT : TypesIn w A l) (hF : FeatsIn w B fs) (hG1 : NodesIn w G1 ga) (hG2 : NodesIn w G2 gb) : Calls Tryd.prog 34 #[.agg #[.slice A l.length c, .slice B fs.length d], .agg #[.slice G1 ga.length c1], .agg #[.slice G2 gb.length c2]] w fun e w' => (∃ A X ok f, e = .returned (.tuple #[.agg #[.slice A (List.length X) X.length], .bool ok, .agg #[.int .i64 (Prod.fst f), .int .i64 f.2]]) ∧ (∀ w2, FrSame w.heap.size w' w2 → NodesIn w2 A X) ∧ UnifyS l fs ga gb ok f X) ∧ Bel w w' := by
 refine enter Tryd.func34 Tryd.ntmps34 rfl (Nat.le_of_ble_eq_true rfl) ?_
 have hB : Bel w w := Below.refl _ _
 refine c_seq (c_region ?_)
 refine wl_bx (v := .agg #[_, _]) (cs := #[_, _]) rfl rfl (fun b3 w1 hb3 hs hr => ?_)
 have lo3 := nLT (Bel.size hB) hr
 replace hB := hB.tr0 hs
 clear hs
 clear hr
 refine wl_bx (v := .agg #[_]) (cs := #[_]) rfl rfl (fun b4 w2 hb4 hs hr => ?_)
 have or_b3_b4 : b3 < b4 := nLL hb3.lt hr
 have lo4 := nLT (Bel.size hB) hr
 replace hB := hB.tr0 hs
 replace hb3 := hb3.tr0 hs
 clear hs
 clear hr
 refine wl_bx (v := .agg #[_]) (cs := #[_]) rfl rfl (fun b5 w3 hb5 hs hr => ?_)
 have or_b3_b5 : b3 < b5 := nLL hb3.lt hr
 have or_b4_b5 : b4 < b5 := nLL hb4.lt hr
 have lo5 := nLT (Bel.size hB) hr
 replace hB := hB.tr0 hs
 replace hb3 := hb3.tr0 hs
 replace hb4 := hb4.tr0 hs
 clear hs
 clear hr
 refine wl_al (cs := #[.slice none 0 0]) ze28_GTgt rfl (fun b6 w4 hb6 hs hr => ?_)
 have or_b3_b6 : b3 < b6 := nLL hb3.lt hr
 have or_b4_b6 : b4 < b6 := nLL hb4.lt hr
 have or_b5_b6 : b5 < b6 := nLL hb5.lt hr
 have lo6 := nLT (Bel.size hB) hr
 replace hB := hB.tr0 hs
 replace hb3 := hb3.tr0 hs
 replace hb4 := hb4.tr0 hs
 replace hb5 := hb5.tr0 hs
 clear hs
 clear hr
 refine waB rfl ?_
 refine wl_al (cs := #[.int .i64 0, .int .i64 0]) ze35_SFind rfl (fun b8 w5 hb8 hs hr => ?_)
 have or_b3_b8 : b3 < b8 := nLL hb3.lt hr
 have or_b4_b8 : b4 < b8 := nLL hb4.lt hr
 have or_b5_b8 : b5 < b8 := nLL hb5.lt hr
 have or_b6_b8 : b6 < b8 := nLL hb6.lt hr
 have lo8 := nLT (Bel.size hB) hr
 replace hB := hB.tr0 hs
 replace hb3 := hb3.tr0 hs
 replace hb4 := hb4.tr0 hs
 replace hb5 := hb5.tr0 hs
 replace hb6 := hb6.tr0 hs
 clear hs
 clear hr
 refine x_nil (e_S (c_seq (c_region (wl (r_ldS U25 rfl rfl hb3.range0 sz25_SFind) (wl (r_ldS U28 rfl rfl hb4.range0 sz28_GTgt) ?_)))))
 refine wl (r_ldS U28 rfl rfl hb5.range0 sz28_GTgt) ?_
 refine wl_cl fn67 (both_any A B G1 G2 c d c1 c2 l fs ga gb _ (hTab.mono hB) (hT.mono hB) (hF.mono hB) (hG1.mono hB) (hG2.mono hB)) rfl (fun e' w6 hr => ?_)
 obtain ⟨⟨U, D, n1, k1, n2, k2, rfl, hTB⟩, hs⟩ := hr
 replace hs := Same.of_bel hs
 replace hB := hB.tr0 hs
 replace hb3 := hb3.tr0 hs
 replace hb4 := hb4.tr0 hs
 replace hb5 := hb5.tr0 hs
 replace hb6 := hb6.tr0 hs
 replace hb8 := hb8.tr0 hs
 clear hs
 have hB9 : Bel w6 w6 := Below.refl _ _
 refine ⟨_, rfl, ?_⟩
 refine wmT rfl (wl (r_ex (v := _) rfl rfl) (wl (r_ex (v := _) rfl rfl) ?_))
 refine wl_al (cs := #[.slice none 0 0, .slice none 0 0]) ze92_SFind rfl (fun b9 w7 hb9 hs hr => ?_)
 have or_b3_b9 : b3 < b9 := nLL hb3.lt hr
 have or_b4_b9 : b4 < b9 := nLL hb4.lt hr
 have or_b5_b9 : b5 < b9 := nLL hb5.lt hr
 have or_b6_b9 : b6 < b9 := nLL hb6.lt hr
 have or_b8_b9 : b8 < b9 := nLL hb8.lt hr
 have lo9 := nLT (Bel.size hB) hr
 have lo_hB9_b9 := nLT (Bel.size hB9) hr
 replace hB := hB.tr0 hs
 replace hb3 := hb3.tr0 hs
 replace hb4 := hb4.tr0 hs
 replace hb5 := hb5.tr0 hs
 replace hb6 := hb6.tr0 hs
 replace hb8 := hb8.tr0 hs
 replace hB9 := hB9.tr0 hs
 clear hs
 clear hr
 refine wl_al (cs := #[.int .i64 0, .int .i64 0]) ze35_SFind rfl (fun b10 w8 hb10 hs hr => ?_)
 have or_b3_b10 : b3 < b10 := nLL hb3.lt hr
 have or_b4_b10 : b4 < b10 := nLL hb4.lt hr
 have or_b5_b10 : b5 < b10 := nLL hb5.lt hr
 have or_b6_b10 : b6 < b10 := nLL hb6.lt hr
 have or_b8_b10 : b8 < b10 := nLL hb8.lt hr
 have or_b9_b10 : b9 < b10 := nLL hb9.lt hr
 have lo10 := nLT (Bel.size hB) hr
 have lo_hB9_b10 := nLT (Bel.size hB9) hr
 replace hB := hB.tr0 hs
 replace hb3 := hb3.tr0 hs
 replace hb4 := hb4.tr0 hs
 replace hb5 := hb5.tr0 hs
 replace hb6 := hb6.tr0 hs
 replace hb8 := hb8.tr0 hs
 replace hB9 := hB9.tr0 hs
 replace hb9 := hb9.tr0 hs
 clear hs
 clear hr
 refine wl_stW hb9 rfl rfl sz92_SFind rfl oneA (fun w9 hq hs => ?_)
 replace hB := hB.tr1 hs lo9
 replace hb3 := hb3.tr1 hs om
 replace hb4 := hb4.tr1 hs om
 replace hb5 := hb5.tr1 hs om
 replace hb6 := hb6.tr1 hs om
 replace hb8 := hb8.tr1 hs om
 replace hB9 := hB9.tr1 hs lo_hB9_b9
 replace hb10 := hb10.tr1 hs om
 clear hs
 replace hb9 := hq
 refine wl_stW hb10 rfl rfl sz35_SFind rfl oneA (fun w10 hq hs => ?_)
 replace hB := hB.tr1 hs lo10
 replace hb3 := hb3.tr1 hs om
 replace hb4 := hb4.tr1 hs om
 replace hb5 := hb5.tr1 hs om
 replace hb6 := hb6.tr1 hs om
 replace hb8 := hb8.tr1 hs om
 replace hB9 := hB9.tr1 hs lo_hB9_b10
 replace hb9 := hb9.tr1 hs om
 clear hs
 replace hb10 := hq
 refine x_nil (e_S (c_seq (c_seq (c_region (wl (r_fa U35 sz3_GSearch dE rfl rfl rfl) ?_)))))
 refine wl (r_ld1 (v := .int _ _) U3 rfl rfl (hb10.cell rfl)) (wl (r_neq rfl rfl) (x_nil (e_S ?_)))
 refine c_ifd rfl (fun c20 => ?_) (fun c20 => ?_)
 ·
  refine c_seq ?_
  refine c_all #[false, false, false, false, false] kR (by rfl) (fun w11 hs => ?_)
  replace hB := hB.tr0 hs
  replace hb3 := hb3.tr0 hs
  replace hb4 := hb4.tr0 hs
  replace hb5 := hb5.tr0 hs
  replace hb6 := hb6.tr0 hs
  replace hb8 := hb8.tr0 hs
  replace hb9 := hb9.tr0 hs
  replace hb10 := hb10.tr0 hs
  clear hs
  refine a_step [0, 1] kR rfl ⟨fun o hoq => ?_, fun o hoq => ?_, trivial⟩
  ·
   obtain rfl := sI hoq
   refine wl (r_bd (vs := #[]) (cs := #[.slice none 0 0]) (by simp) kR) (x_nil (e_A (listed' := #[true, false, false, false, false]) (by rfl) ?_))
   refine a_step [1, 2] kR rfl ⟨fun o hoq => ?_, fun o hoq => ?_, trivial⟩
   ·
    obtain rfl := sI hoq
    refine wl (r_ldS U35 rfl rfl hb10.range0 sz35_SFind) (x_nil (e_A (listed' := #[true, true, false, false, false]) (by rfl) ?_))
    refine a_step [2] kR rfl ⟨fun o hoq => ?_, trivial⟩
    obtain rfl := sI hoq
    refine wl_stW hb6 rfl rfl sz28_GTgt rfl oneA (fun w12 hq hs => ?_)
    replace hB := hB.tr1 hs lo6
    replace hb3 := hb3.tr1 hs om
    replace hb4 := hb4.tr1 hs om
    replace hb5 := hb5.tr1 hs om
    replace hb8 := hb8.tr1 hs om
    replace hb9 := hb9.tr1 hs om
    replace hb10 := hb10.tr1 hs om
    clear hs
    replace hb6 := hq
    refine x_nil (e_A (listed' := #[true, true, true, false, false]) (by rfl) ?_)
    refine a_step [3] kR rfl ⟨fun o hoq => ?_, trivial⟩
    obtain rfl := sI hoq
    refine waB rfl (x_nil (e_A (listed' := #[true, true, true, true, false]) (by rfl) ?_))
    refine a_step [4] kR rfl ⟨fun o hoq => ?_, trivial⟩
    obtain rfl := sI hoq
    refine wl_stW hb8 rfl rfl sz35_SFind rfl oneA (fun w13 hq hs => ?_)
    replace hB := hB.tr1 hs lo8
    replace hb3 := hb3.tr1 hs om
    replace hb4 := hb4.tr1 hs om
    replace hb5 := hb5.tr1 hs om
    replace hb6 := hb6.tr1 hs om
    replace hb9 := hb9.tr1 hs om
    replace hb10 := hb10.tr1 hs om
    clear hs
    replace hb8 := hq
    refine x_nil (e_A (listed' := #[true, true, true, true, true]) (by rfl) (a_end kR (e_S (c_ret (e_Sr ?_)))))
    refine fin3 (.inl rfl) rfl (rr_cell U28 rfl rfl hb6.range0 sz28_GTgt) rfl (rr_cell U35 rfl rfl hb8.range0 sz35_SFind) ?_
    exact ⟨⟨none, [], false, twoG l fs ga gb, rfl, fun w2 _ => nodes_nil w2 none, .inl ⟨c20, rfl, rfl, rfl⟩⟩, hB⟩
   obtain rfl := sI hoq
   refine wl_stW hb6 rfl rfl sz28_GTgt rfl oneA (fun w14 hq hs => ?_)
   replace hB := hB.tr1 hs lo6
   replace hb3 := hb3.tr1 hs om
   replace hb4 := hb4.tr1 hs om
   replace hb5 := hb5.tr1 hs om
   replace hb8 := hb8.tr1 hs om
   replace hb9 := hb9.tr1 hs om
   replace hb10 := hb10.tr1 hs om
   clear hs
   replace hb6 := hq
   refine x_nil (e_A (listed' := #[true, false, true, false, false]) (by rfl) ?_)
   refine a_step [1, 3] kR rfl ⟨fun o hoq => ?_, fun o hoq => ?_, trivial⟩
   ·
    obtain rfl := sI hoq
    refine wl (r_ldS U35 rfl rfl hb10.range0 sz35_SFind) (x_nil (e_A (listed' := #[true, true, true, false, false]) (by rfl) ?_))
    refine a_step [3] kR rfl ⟨fun o hoq => ?_, trivial⟩
    obtain rfl := sI hoq
    refine waB rfl (x_nil (e_A (listed' := #[true, true, true, true, false]) (by rfl) ?_))
    refine a_step [4] kR rfl ⟨fun o hoq => ?_, trivial⟩
    obtain rfl := sI hoq
    refine wl_stW hb8 rfl rfl sz35_SFind rfl oneA (fun w15 hq hs => ?_)
    replace hB := hB.tr1 hs lo8
    replace hb3 := hb3.tr1 hs om
    replace hb4 := hb4.tr1 hs om
    replace hb5 := hb5.tr1 hs om
    replace hb6 := hb6.tr1 hs om
    replace hb9 := hb9.tr1 hs om
    replace hb10 := hb10.tr1 hs om
    clear hs
    replace hb8 := hq
    refine x_nil (e_A (listed' := #[true, true, true, true, true]) (by rfl) (a_end kR (e_S (c_ret (e_Sr ?_)))))
    refine fin3 (.inl rfl) rfl (rr_cell U28 rfl rfl hb6.range0 sz28_GTgt) rfl (rr_cell U35 rfl rfl hb8.range0 sz35_SFind) ?_
    exact ⟨⟨none, [], false, twoG l fs ga gb, rfl, fun w2 _ => nodes_nil w2 none, .inl ⟨c20, rfl, rfl, rfl⟩⟩, hB⟩
   obtain rfl := sI hoq
   refine waB rfl (x_nil (e_A (listed' := #[true, false, true, true, false]) (by rfl) ?_))
   refine a_step [1] kR rfl ⟨fun o hoq => ?_, trivial⟩
   obtain rfl := sI hoq
   refine wl (r_ldS U35 rfl rfl hb10.range0 sz35_SFind) (x_nil (e_A (listed' := #[true, true, true, true, false]) (by rfl) ?_))
   refine a_step [4] kR rfl ⟨fun o hoq => ?_, trivial⟩
   obtain rfl := sI hoq
   refine wl_stW hb8 rfl rfl sz35_SFind rfl oneA (fun w16 hq hs => ?_)
   replace hB := hB.tr1 hs lo8
   replace hb3 := hb3.tr1 hs om
   replace hb4 := hb4.tr1 hs om
   replace hb5 := hb5.tr1 hs om
   replace hb6 := hb6.tr1 hs om
   replace hb9 := hb9.tr1 hs om
   replace hb10 := hb10.tr1 hs om
   clear hs
   replace hb8 := hq
   refine x_nil (e_A (listed' := #[true, true, true, true, true]) (by rfl) (a_end kR (e_S (c_ret (e_Sr ?_)))))
   refine fin3 (.inl rfl) rfl (rr_cell U28 rfl rfl hb6.range0 sz28_GTgt) rfl (rr_cell U35 rfl rfl hb8.range0 sz35_SFind) ?_
   exact ⟨⟨none, [], false, twoG l fs ga gb, rfl, fun w2 _ => nodes_nil w2 none, .inl ⟨c20, rfl, rfl, rfl⟩⟩, hB⟩
  obtain rfl := sI hoq
  refine wl (r_ldS U35 rfl rfl hb10.range0 sz35_SFind) (x_nil (e_A (listed' := #[false, true, false, false, false]) (by rfl) ?_))
  refine a_step [0] kR rfl ⟨fun o hoq => ?_, trivial⟩
  obtain rfl := sI hoq
  refine wl (r_bd (vs := #[]) (cs := #[.slice none 0 0]) (by simp) kR) (x_nil (e_A (listed' := #[true, true, false, false, false]) (by rfl) ?_))
  refine a_step [2] kR rfl ⟨fun o hoq => ?_, trivial⟩
  obtain rfl := sI hoq
  refine wl_stW hb6 rfl rfl sz28_GTgt rfl oneA (fun w17 hq hs => ?_)
  replace hB := hB.tr1 hs lo6
  replace hb3 := hb3.tr1 hs om
  replace hb4 := hb4.tr1 hs om
  replace hb5 := hb5.tr1 hs om
  replace hb8 := hb8.tr1 hs om
  replace hb9 := hb9.tr1 hs om
  replace hb10 := hb10.tr1 hs om
  clear hs
  replace hb6 := hq
  refine x_nil (e_A (listed' := #[true, true, true, false, false]) (by rfl) ?_)
  refine a_step [3] kR rfl ⟨fun o hoq => ?_, trivial⟩
  obtain rfl := sI hoq
  refine waB rfl (x_nil (e_A (listed' := #[true, true, true, true, false]) (by rfl) ?_))
  refine a_step [4] kR rfl ⟨fun o hoq => ?_, trivial⟩
  obtain rfl := sI hoq
  refine wl_stW hb8 rfl rfl sz35_SFind rfl oneA (fun w18 hq hs => ?_)
  replace hB := hB.tr1 hs lo8
  replace hb3 := hb3.tr1 hs om
  replace hb4 := hb4.tr1 hs om
  replace hb5 := hb5.tr1 hs om
  replace hb6 := hb6.tr1 hs om
  replace hb9 := hb9.tr1 hs om
  replace hb10 := hb10.tr1 hs om
  clear hs
  replace hb8 := hq
  refine x_nil (e_A (listed' := #[true, true, true, true, true]) (by rfl) (a_end kR (e_S (c_ret (e_Sr ?_)))))
  refine fin3 (.inl rfl) rfl (rr_cell U28 rfl rfl hb6.range0 sz28_GTgt) rfl (rr_cell U35 rfl rfl hb8.range0 sz35_SFind) ?_
  exact ⟨⟨none, [], false, twoG l fs ga gb, rfl, fun w2 _ => nodes_nil w2 none, .inl ⟨c20, rfl, rfl, rfl⟩⟩, hB⟩
 have h0 := Decidable.not_not.1 c20
 obtain ⟨⟨hva, hvb⟩, _⟩ := two_gv h0
 have hzz := two_zz h0
 obtain ⟨bu, bd, ⟨rfl, rfl, rfl, rfl, rfl, rfl⟩, hTI⟩ := hTB h0
 refine c_skip (e_S (c_seq (c_region (wl (r_ldS U92 rfl rfl hb9.range0 sz92_SFind) (wl (r_ldS U28 rfl rfl hb4.range0 sz28_GTgt) ?_)))))
 refine wl (r_ldS U28 rfl rfl hb5.range0 sz28_GTgt) ?_
 have z6 := hb6.lt
 have z8 := hb8.lt
 have hszv := Bel.size hB
 refine wl_cl fn70 (into_any (nt := l.length) (nf := fs.length) (j := 0) (l := l) _ (hTab.mono hB) (hTI.mono hB9) hva.s (hG1.mono hB) (hG2.mono hB) hva.gok hvb.gok hva.gx.toGY hvb.gx.toGY (by have := hva.few; omega) hva.gok.pos) rfl (fun e' w19 hr => ?_)
 obtain ⟨⟨AX, X, ok, rfl, hNX, hcase⟩, hs⟩ := hr
 replace hs := Same.of_bel hs
 replace hB := hB.tr0 hs
 replace hb3 := hb3.tr0 hs
 replace hb4 := hb4.tr0 hs
 replace hb5 := hb5.tr0 hs
 replace hb6 := hb6.tr0 hs
 replace hb8 := hb8.tr0 hs
 replace hB9 := hB9.tr0 hs
 replace hb9 := hb9.tr0 hs
 replace hb10 := hb10.tr0 hs
 clear hs
 have hFr : FrSame (w10).heap.size w19 w19 := FrSame.refl _ _
 obtain ⟨Z0, hZ0⟩ : ∃ z, z = (w10).heap.size := ⟨_, rfl⟩
 rw [← hZ0] at hNX hFr z6 z8 hszv
 obtain ⟨wZ, hwZ⟩ : ∃ z, z = w19 := ⟨_, rfl⟩
 replace hFr : FrSame Z0 wZ w19 := by rw [hwZ]; exact FrSame.refl _ _
 rw [← hwZ] at hNX
 refine ⟨_, rfl, ?_⟩
 refine wl (r_ex (v := _) rfl rfl) (wl (r_ex (v := _) rfl rfl) ?_)
 refine wl_cl fn69 (sized_any _ _ _ _ _) rfl (fun e' w20 hr => ?_)
 obtain ⟨⟨A2, n2, c2_, ok2, x2, y2, rfl, hsz⟩, hs⟩ := hr
 replace hs := Same.of_bel hs
 replace hB := hB.tr0 hs
 replace hb3 := hb3.tr0 hs
 replace hb4 := hb4.tr0 hs
 replace hb5 := hb5.tr0 hs
 replace hb6 := hb6.tr0 hs
 replace hb8 := hb8.tr0 hs
 replace hb9 := hb9.tr0 hs
 replace hb10 := hb10.tr0 hs
 replace hFr := hFr.of hs (by simp)
 clear hs
 refine ⟨_, rfl, ?_⟩
 refine wl (r_ex (v := _) rfl rfl) (wl (r_ex (v := _) rfl rfl) (wl (r_ex (v := _) rfl rfl) ?_))
 refine wl_stW hb6 rfl rfl sz28_GTgt rfl oneA (fun w21 hq hs => ?_)
 replace hB := hB.tr1 hs lo6
 replace hb3 := hb3.tr1 hs om
 replace hb4 := hb4.tr1 hs om
 replace hb5 := hb5.tr1 hs om
 replace hb8 := hb8.tr1 hs om
 replace hb9 := hb9.tr1 hs om
 replace hb10 := hb10.tr1 hs om
 replace hFr := hFr.of hs (fun g hg => by rw [List.mem_singleton.1 hg]; omega)
 clear hs
 replace hb6 := hq
 refine waB rfl ?_
 refine wl_stW hb8 rfl rfl sz35_SFind rfl oneA (fun w22 hq hs => ?_)
 replace hB := hB.tr1 hs lo8
 replace hb3 := hb3.tr1 hs om
 replace hb4 := hb4.tr1 hs om
 replace hb5 := hb5.tr1 hs om
 replace hb6 := hb6.tr1 hs om
 replace hb9 := hb9.tr1 hs om
 replace hb10 := hb10.tr1 hs om
 replace hFr := hFr.of hs (fun g hg => by rw [List.mem_singleton.1 hg]; omega)
 clear hs
 replace hb8 := hq
 refine x_nil (e_S (c_ret (fin3 (.inl rfl) rfl (rr_cell U28 rfl rfl hb6.range0 sz28_GTgt) rfl (rr_cell U35 rfl rfl hb8.range0 sz35_SFind) ?_)))
 obtain ⟨X2, hn2, hc2, hN2, hU2⟩ := un_fin h0 hcase hsz (fun w2 hf => hNX w2 (hFr.then hf hszv))
 exact ⟨⟨A2, X2, ok2, (x2, y2), ret_un hn2 (hn2.trans (hc2.symm)) rfl, hN2, hU2⟩, hB⟩
end Go.Proofs.YtegngekpmpdngaaDoor
namespace Go.Proofs.YtegngekpmpdngaaDoor
open Go.RowKit
section lub
variable {l : List Ty} {fs : List Ft} {ga gb : List Nd}
theorem pair_adm {c : List Nd} {φ ψ : Nat → Nat} (hφ : Hom l ga c φ) (hψ : Hom l gb c ψ) (hya : GY l ga) (hyb : GY l gb) : Adm l (ga ++ gb.map (shN ga.length)) c (fun i => if i < ga.length then φ i else ψ (i - ga.length)) := by
  have hlen : (ga ++ gb.map (shN ga.length)).length = ga.length + gb.length := by simp
  have hnd : ∀ i, i < ga.length + gb.length → ¬ i < ga.length → nd (ga ++ gb.map (shN ga.length)) i = shN ga.length (nd gb (i - ga.length)) ∧ i - ga.length < gb.length := fun i hi hn => by
    have hl : i - ga.length < gb.length := by omega
    have h := nd_right (U := ga) hl
    rw [show ga.length + (i - ga.length) = i by omega] at h
    exact ⟨h, hl⟩
  refine ⟨fun i hi => ?_, fun i hi => ?_, fun i hi x hx => ?_⟩ <;> rw [hlen] at hi <;> by_cases e : i < ga.length
  · simp only [if_pos e]; exact hφ.lt i e
  · simp only [if_neg e]; exact hψ.lt _ (hnd i hi e).2
  · simp only [if_pos e]; rw [nd_left e]; exact hφ.ty i e
  · simp only [if_neg e]; rw [(hnd i hi e).1]; exact hψ.ty _ (hnd i hi e).2
  · simp only [if_pos e]
    rw [nd_left e] at hx
    have h1 := hya.lr i e x hx
    rw [if_pos h1.2]; exact hφ.ln i e x hx
  · simp only [if_neg e]
    rw [(hnd i hi e).1] at hx
    obtain ⟨y, hy, rfl⟩ := List.mem_map.1 hx
    have h1 := hyb.lr _ (hnd i hi e).2 y hy
    have e1 : (y.2 + (ga.length : Int)).toNat = y.2.toNat + ga.length := by omega
    simp only [e1]
    rw [if_neg om, show y.2.toNat + ga.length - ga.length = y.2.toNat by omega]
    exact hψ.ln _ (hnd i hi e).2 y hy
structure Lub (l : List Ty) (ga gb X : List Nd) : Prop where
  gx : GX l X
  left : Maps l ga X
  right : Maps l gb X
  least : ∀ c, GY l c → Maps l ga c → Maps l gb c → Maps l X c
  can : ∃ o, DL X [0] [] o ∧ canG X o = X
theorem uni_lub {X : List Nd} (hga : GX l ga) (hgb : GX l gb) (h : UniR l (ga ++ gb.map (shN ga.length)) [(0, ga.length)] X) : Lub l ga gb X := by
  obtain ⟨P, rep, ρ, T, L, o, hus, hd, rfl⟩ := h
  have hlen : (ga ++ gb.map (shN ga.length)).length = ga.length + gb.length := by simp
  have hp := hga.pos
  have hpb := hgb.pos
  have h0 : 0 < (ga ++ gb.map (shN ga.length)).length := by omega
  have hgy := hus.gy hga.vt h0
  have hr := hus.uf.rl 0 h0
  have hrr := hus.uf.two h0
  have t := hgy.trr (r := rep 0) (by rw [poolG_len]; exact hr) hd
  have hj : rep 0 = rep ga.length := hus.jcov (0, ga.length) (by simp) rep ⟨fun i hi => (hus.uf.two hi).symm, fun w hw => by cases hw⟩
  have z0 : ∀ x : Nd, shN 0 x = x := fun x => nd_ext rfl (by simp [shN])
  refine ⟨t.gx hgy, ?_, ?_, fun c hc ha hb => ?_, ⟨_, ?_, t.can2 t.has t.dl⟩⟩
  · obtain ⟨φ, h1, h2, h3, h4, h5⟩ := hus.into hga.vt hr hrr t (g := ga) (s := 0) hga (fun i hi => by
      rw [Nat.zero_add, z0]
      exact ⟨by omega, nd_left hi⟩) t.has
    exact ⟨φ, by rw [h1]; exact t.zero, h3, h4, h5⟩
  · obtain ⟨φ, h1, h2, h3, h4, h5⟩ := hus.into hga.vt hr hrr t (g := gb) (s := ga.length) hgb (fun i hi => ⟨by omega, nd_right hi⟩) (by rw [← hj]; exact t.has)
    exact ⟨φ, by rw [h1, ← hj]; exact t.zero, h3, h4, h5⟩
  · obtain ⟨φ, hφ⟩ := ha
    obtain ⟨ψ, hψ⟩ := hb
    have hA := pair_adm hφ hψ hga.toGY hgb.toGY
    have hJ : ∀ p ∈ [((0 : Nat), ga.length)], (fun i => if i < ga.length then φ i else ψ (i - ga.length)) p.1 = (fun i => if i < ga.length then φ i else ψ (i - ga.length)) p.2 := fun p hpm => by
      rw [List.mem_singleton.1 hpm]
      simp [hp, hφ.zero, hψ.zero]
    have hres := (hus.only c _ hc.tr hA hJ).1.1 0 h0
    refine hus.least hr hrr t hc.tr hA hJ ?_
    exact hres.symm.trans (by simp [hp, hφ.zero])
  · have := t.dl2 t.has t.dl
    rw [t.zero] at this
    exact this
theorem uni_valid {X : List Nd} (ha : GV l fs ga) (hb : GV l fs gb) (h : UniR l (ga ++ gb.map (shN ga.length)) [(0, ga.length)] X) (h60 : X.length ≤ 60) : graphF l fs X = (0, 0) := by
  have hl := uni_lub ha.gx hb.gx h
  obtain ⟨P, rep, ρ, T, L, o, hus, hd, rfl⟩ := h
  have hlen : (ga ++ gb.map (shN ga.length)).length = ga.length + gb.length := by simp
  have h0 : 0 < (ga ++ gb.map (shN ga.length)).length := by have := ha.gok.pos; omega
  have hgy := hus.gy ha.s.vt h0
  have hr := hus.uf.rl 0 h0
  have t := hgy.trr (r := rep 0) (by rw [poolG_len]; exact hr) hd
  have hfit := hus.fit (fs := fs) ha.s.vt hr (hus.uf.two h0) t (fun i hi x hx => by
    rw [hlen] at hi
    by_cases e : i < ga.length
    · rw [nd_left e] at hx ⊢
      have h1 := ha.lt e hx
      have h2 := (ha.gx.lr i e x hx).2
      rw [nd_left h2]
      exact ⟨⟨h1.1, h1.2.1⟩, h1.2.2⟩
    · have hl2 : i - ga.length < gb.length := by omega
      have h3 := nd_right (U := ga) hl2
      rw [show ga.length + (i - ga.length) = i by omega] at h3
      rw [h3] at hx ⊢
      obtain ⟨y, hy, rfl⟩ := List.mem_map.1 hx
      have h1 := hb.lt hl2 hy
      have h2 := (hb.gx.lr _ hl2 y hy).2
      have h4 := (hb.gx.lr _ hl2 y hy).1
      have e1 : (y.2 + (ga.length : Int)).toNat = ga.length + y.2.toNat := by omega
      simp only [e1]
      rw [nd_right h2]
      exact ⟨⟨h1.1, h1.2.1⟩, h1.2.2⟩)
  exact gf_mk ha.h hl.gx h60 hfit.1 hfit.2
theorem Lub.uniq {X Y : List Nd} (h : Lub l ga gb X) (k : Lub l ga gb Y) : X = Y := by
  obtain ⟨o, ho, e⟩ := h.can
  obtain ⟨p, hp, e2⟩ := k.can
  have := can_eq h.gx k.gx (h.least Y k.gx.toGY k.left k.right) (k.least X h.gx.toGY h.left h.right) ho hp
  rw [e, e2] at this
  exact this.symm
theorem Lub.above {X : List Nd} (h : Lub l ga gb X) (hgb : GX l gb) (hm : Maps l ga gb) {o : List Nat} (ho : DL gb [0] [] o) : X = canG gb o := by
  obtain ⟨p, hp, e2⟩ := h.can
  have := can_eq hgb h.gx h.right (h.least gb hgb.toGY hm ⟨_, Hom.refl hgb⟩) ho hp
  rw [e2] at this
  exact this
end lub
end Go.Proofs.YtegngekpmpdngaaDoor
