/- What the closure of Generalize keeps: the order of the pairs, their rows of links, the fault. No program in sight but rows in memory. What these functions of the program compute, at every world: (glosswright/hierarchy.Table).Least. The engine: a region that draws its order, in which some operations store into blocks of a list X; every operation leaves what the others have told. -/
import Derived.Test.YteenmolhopbpeaaDoorGSearch
import Derived.Test.YteenmolhopbpeaaDoorEng8
import Derived.Test.YteenmolhopbpeaaDoorU
import Derived.Test.YteenmolhopbpeaaDoorGraph
import Derived.Test.YteenmolhopbpeaaDoorMask
import Derived.Test.YteenmolhopbpeaaDoorEng2
namespace Go.Proofs.YteenmolhopbpeaaDoor
open Go.RowKit
def fL (G : List Nd) (o : List Nat) (x : Nat) : List (Int × Int) := (nd G (o.getD x 0)).ln.map (canL o)
theorem numO_app {o s : List Nat} {x : Nat} (h : x ∈ o) : numO (o ++ s) x = numO o x := by simp [numO, h, List.idxOf_append]
theorem numO_at {o s : List Nat} {x : Nat} (h : ¬ x ∈ o) : numO ((o ++ [x]) ++ s) x = (o.length : Nat) := by simp [numO, h, List.idxOf_append]
theorem canL_app {o s : List Nat} {y : Int × Int} (h : y.2.toNat ∈ o) : canL (o ++ s) y = canL o y := by unfold canL; rw [numO_app h]
theorem map_canL_app {o s : List Nat} {ys : List (Int × Int)} (h : ∀ y ∈ ys, y.2.toNat ∈ o) : ys.map (canL (o ++ s)) = ys.map (canL o) := List.map_congr_left (fun y hy => canL_app (h y hy))
section visits
variable {G : List Nd} {ok : Nat → Bool} {o s2 s3 : List Nat} {z y : Nat} {xs ys : List Nat} {F : Fl}
theorem vis_ex (hr : ∀ i, i < G.length → ∀ t ∈ succN G i, t < G.length) (hok : OOk G.length o) (is : List Nat) (hi : ∀ i ∈ is, i < G.length) : ∃ s, DL G is o (o ++ s) := by
  obtain ⟨o', h⟩ := dl_ex hr _ is o (Nat.le_refl _) hi
  obtain ⟨_, s, rfl⟩ := h.ok hr hi hok
  exact ⟨s, h⟩
theorem vis_new (hr : ∀ i, i < G.length → ∀ t ∈ succN G i, t < G.length) (hok : OOk G.length o) (hz : z < G.length) (hn : ¬ z ∈ o) : ∃ s, DL G [z] o (o ++ z :: s) := by
  obtain ⟨s, h⟩ := vis_ex hr (hok.snoc hz hn) (succN G z) (hr z hz)
  refine ⟨s, ?_⟩
  rw [show o ++ z :: s = (o ++ [z]) ++ s by simp]
  exact .new hn h .nil
theorem vis_lim (hr : ∀ i, i < G.length → ∀ t ∈ succN G i, t < G.length) (hok : OOk G.length o) (hz : z < G.length) (hn : ¬ z ∈ o) (h6 : o.length = 60) : ∃ s, DL G [z] o (o ++ s) ∧ genS ok o.length s = (17, -1) := by
  obtain ⟨s, h⟩ := vis_new hr hok hz hn
  exact ⟨_, h, by rw [genS_cons, if_pos h6]⟩
theorem vis_conf (hr : ∀ i, i < G.length → ∀ t ∈ succN G i, t < G.length) (hok : OOk G.length o) (hz : z < G.length) (hn : ¬ z ∈ o) (h6 : ¬ o.length = 60) (hc : ok z = false) : ∃ s, DL G [z] o (o ++ s) ∧ genS ok o.length s = (16, (o.length : Int)) := by
  obtain ⟨s, h⟩ := vis_new hr hok hz hn
  exact ⟨_, h, by rw [genS_cons, if_neg h6, hc]; rfl⟩
theorem vis_done (hn : ¬ z ∈ o) (h6 : ¬ o.length = 60) (hc : ok z = true) (h : DL G (succN G z) (o ++ [z]) (o ++ [z] ++ s2)) (hs : genS ok (o.length + 1) s2 = (0, 0)) : DL G [z] o (o ++ z :: s2) ∧ genS ok o.length (z :: s2) = (0, 0) :=
  ⟨by rw [show o ++ z :: s2 = (o ++ [z]) ++ s2 by simp]; exact .new hn h .nil, by rw [genS_cons, if_neg h6, if_pos hc, hs]⟩
theorem vis_sub (hr : ∀ i, i < G.length → ∀ t ∈ succN G i, t < G.length) (hok : OOk G.length o) (hz : z < G.length) (hn : ¬ z ∈ o) (h6 : ¬ o.length = 60) (hc : ok z = true) (he : succN G z = xs ++ y :: ys)
    (h : DL G xs (o ++ [z]) (o ++ [z] ++ s2)) (hs : genS ok (o.length + 1) s2 = (0, 0)) (h3 : DL G [y] (o ++ [z] ++ s2) (o ++ [z] ++ s2 ++ s3)) (hF : genS ok (o ++ [z] ++ s2).length s3 = F) (h0 : ¬ F.1 = 0) :
    ∃ s, DL G [z] o (o ++ s) ∧ genS ok o.length s = F := by
  have hrg := hr z hz
  rw [he] at hrg
  have hok1 := hok.snoc hz hn
  have hok2 := (h.ok hr (fun i hi => hrg i (List.mem_append_left _ hi)) hok1).1
  have hok3 := (h3.ok hr (fun i hi => by rw [List.mem_singleton.1 hi]; exact hrg y (by simp)) hok2).1
  obtain ⟨s4, h4⟩ := vis_ex hr hok3 ys (fun i hi => hrg i (by simp [hi]))
  have hD : DL G (succN G z) (o ++ [z]) (o ++ [z] ++ s2 ++ s3 ++ s4) := by
    rw [he]
    exact h.append (show DL G ([y] ++ ys) _ _ from h3.append h4)
  refine ⟨z :: (s2 ++ (s3 ++ s4)), by rw [show o ++ z :: (s2 ++ (s3 ++ s4)) = o ++ [z] ++ s2 ++ s3 ++ s4 by simp]; exact .new hn hD .nil, ?_⟩
  rw [genS_cons, if_neg h6, if_pos hc, genS_app, hs, if_pos rfl, genS_app]
  have e : (o ++ [z] ++ s2).length = o.length + 1 + s2.length := by simp; omega
  rw [← e, hF, if_neg h0]
theorem vis_two (h : DL G xs (o ++ [z]) (o ++ [z] ++ s2)) (hs : genS ok (o.length + 1) s2 = (0, 0)) (h3 : DL G [y] (o ++ [z] ++ s2) (o ++ [z] ++ s2 ++ s3)) (hF : genS ok (o ++ [z] ++ s2).length s3 = (0, 0)) :
    DL G (xs ++ [y]) (o ++ [z]) (o ++ [z] ++ (s2 ++ s3)) ∧ genS ok (o.length + 1) (s2 ++ s3) = (0, 0) := by
  refine ⟨by rw [← List.append_assoc]; exact h.append h3, ?_⟩
  rw [genS_app, hs, if_pos rfl]
  have e : (o ++ [z] ++ s2).length = o.length + 1 + s2.length := by simp; omega
  rw [← e, hF]
theorem vis_len (h6 : o.length ≤ 60) (hs : (genS ok o.length s2).1 = 0) : genS ok o.length s2 = (0, 0) ∧ (o ++ s2).length ≤ 60 := by
  obtain ⟨h1, h2, _⟩ := genS_ok h6 hs
  exact ⟨h1, by rw [List.length_append]; exact h2⟩
end visits
def LOk (G : List Nd) (L L' : Nat → List (Int × Int)) (lo hi : Nat) (o : List Nat) : Prop := (∀ x, x < lo → L' x = L x) ∧ (∀ x, hi ≤ x → x < o.length → L' x = fL G o x)
theorem LOk.refl (G : List Nd) (L : Nat → List (Int × Int)) (o : List Nat) : LOk G L L o.length o.length o := ⟨fun _ _ => rfl, fun x h1 h2 => by omega⟩
theorem getD_app {o s : List Nat} {x : Nat} (h : x < o.length) : (o ++ s).getD x 0 = o.getD x 0 := by simp [List.getD, List.getElem?_append_left h]
theorem LOk.sub {G : List Nd} {L L' L2 : Nat → List (Int × Int)} {o a s : List Nat} {xs : List Nat} {z : Nat} (h : LOk G L L' o.length (o.length + 1) a) (hD : DL G xs (o ++ [z]) a) (hnd : (o ++ [z]).Nodup) (hp : ∃ q, a = o ++ [z] ++ q) (h2 : LOk G L' L2 a.length a.length (a ++ s)) : LOk G L L2 o.length (o.length + 1) (a ++ s) ∧ L2 o.length = L' o.length := by
  obtain ⟨q, hq⟩ := hp
  have hal : o.length + 1 ≤ a.length := by rw [hq]; simp
  refine ⟨⟨fun x hx => by rw [h2.1 x om, h.1 x hx], fun x hx hxl => ?_⟩, h2.1 _ om⟩
  by_cases hxa : x < a.length
  · rw [h2.1 x hxa, h.2 x hx hxa]
    unfold fL
    rw [getD_app hxa]
    refine (map_canL_app (fun y hy => ?_)).symm
    have hm : a.getD x 0 ∈ a := by simp [List.getD, hxa]
    refine hD.clo _ hm (fun hb => ?_) _ (by simp only [succN, List.mem_map]; exact ⟨y, hy, rfl⟩)
    have hnda := hD.nodup hnd
    rw [hq] at hnda hm hxa
    have e : a.getD x 0 = q.getD (x - (o.length + 1)) 0 := by
      rw [hq]; simp only [List.getD]
      rw [List.getElem?_append_right (by simp; omega)]; simp
    have hqm : a.getD x 0 ∈ q := by
      rw [e]
      have : x - (o.length + 1) < q.length := by simp at hxa; omega
      simp [List.getD, this]
    exact (List.nodup_append.1 hnda).2.2 _ hb _ hqm rfl
  · exact h2.2 x om hxl
theorem LOk.put {G : List Nd} {L L' : Nat → List (Int × Int)} {a : List Nat} {n : Nat} (h : LOk G L L' n (n + 1) a) (r : List (Int × Int)) : LOk G L (fun x => if x = n then r else L' x) n (n + 1) a :=
  ⟨fun x hx => (if_neg om).trans (h.1 x hx), fun x h1 h2 => (if_neg om).trans (h.2 x h1 h2)⟩
theorem LOk.start {G : List Nd} {L : Nat → List (Int × Int)} {o : List Nat} {z : Nat} : LOk G L (fun x => if x = o.length then [] else L x) o.length (o.length + 1) (o ++ [z]) :=
  ⟨fun x hx => if_neg om, fun x h1 h2 => by simp at h2; omega⟩
theorem LOk.fin {G : List Nd} {L L' : Nat → List (Int × Int)} {o a : List Nat} {z : Nat} (h : LOk G L L' o.length (o.length + 1) a) (hp : ∃ q, a = o ++ [z] ++ q) (hr : L' o.length = (nd G z).ln.map (canL a)) : LOk G L L' o.length o.length a :=
  ⟨h.1, fun x h1 h2 => by
    by_cases e : x = o.length
    · obtain ⟨q, hq⟩ := hp
      rw [e, hr]; unfold fL
      rw [show a.getD o.length 0 = z by rw [hq]; simp [List.getD]]
    · exact h.2 x om h2⟩
def pLq (a b : List Nd) (i j q : Nat) : List (Int × Int) := ((nd a i).ln.take q).filterMap (fun x => if tgt (nd b j).ln x.1 < 0 then none else some (x.1, ((x.2.toNat * b.length + (tgt (nd b j).ln x.1).toNat : Nat) : Int)))
theorem pLq_all {a b : List Nd} {i j q : Nat} (h : (nd a i).ln.length ≤ q) : pLq a b i j q = pLn a b i j := by unfold pLq pLn; rw [List.take_of_length_le h]
theorem pLq_no {a b : List Nd} {i j q : Nat} (h : q < (nd a i).ln.length) (ht : tgt (nd b j).ln ((nd a i).ln[q]).1 < 0) : pLq a b i j (q + 1) = pLq a b i j q := by
  unfold pLq
  rw [List.take_succ_eq_append_getElem h, List.filterMap_append]
  simp [ht]
theorem pLq_yes {a b : List Nd} {i j q u t : Nat} (h : q < (nd a i).ln.length) (hu : ((nd a i).ln[q]).2 = (u : Int)) (ht : tgt (nd b j).ln ((nd a i).ln[q]).1 = (t : Int)) : pLq a b i j (q + 1) = pLq a b i j q ++ [(((nd a i).ln[q]).1, ((u * b.length + t : Nat) : Int))] := by
  unfold pLq
  rw [List.take_succ_eq_append_getElem h, List.filterMap_append]
  simp [hu, ht]
theorem pLq_len (a b : List Nd) (i j q : Nat) : (pLq a b i j q).length ≤ q := nLT (List.length_filterMap_le _ _) (by rw [List.length_take]; omega)
theorem pLq_no2 {a b : List Nd} {i j q : Nat} {x y : Nd} (hx : nd a i = x) (hy : nd b j = y) (h : q < x.ln.length) (ht : tgt y.ln (x.ln[q]).1 < 0) : pLq a b i j (q + 1) = pLq a b i j q := by subst hx; subst hy; exact pLq_no h ht
theorem pLq_yes2 {a b : List Nd} {i j q u t : Nat} {x y : Nd} (hx : nd a i = x) (hy : nd b j = y) (h : q < x.ln.length) (hu : (x.ln[q]).2 = (u : Int)) (ht : tgt y.ln (x.ln[q]).1 = (t : Int)) : pLq a b i j (q + 1) = pLq a b i j q ++ [((x.ln[q]).1, ((u * b.length + t : Nat) : Int))] := by subst hx; subst hy; exact pLq_yes h hu ht
def sq (xs : List (Int × Int)) : List Nat := xs.map (fun x => x.2.toNat)
theorem sq_snoc (xs : List (Int × Int)) (f : Int) (c : Nat) : sq (xs ++ [(f, (c : Int))]) = sq xs ++ [c] := by simp [sq]
theorem sq_in {xs : List (Int × Int)} {G : List Nd} {a b : List Nat} (h : DL G (sq xs) a b) : ∀ y ∈ xs, y.2.toNat ∈ b := fun y hy => h.has _ (List.mem_map.2 ⟨y, hy, rfl⟩)
theorem pG_succ {l : List Ty} {a b : List Nd} {i j : Nat} (hi : i < a.length) (hj : j < b.length) : succN (pG l a b) (i * b.length + j) = sq (pLn a b i j) ∧ (nd (pG l a b) (i * b.length + j)).ln = pLn a b i j ∧ (nd (pG l a b) (i * b.length + j)).ty = jnV l (nd a i).ty.toNat (nd b j).ty.toNat ∧ pok l a b (i * b.length + j) = jok l (nd a i).ty.toNat (nd b j).ty.toNat := by
  have e := enc_div (i := i) hj
  have h := pG_nd (l := l) (enc_lt hi hj)
  rw [e.1, e.2] at h
  refine ⟨by unfold succN sq; rw [h], by rw [h], by rw [h], by unfold pok; rw [e.1, e.2]⟩
theorem pLn_split {a b : List Nd} {i j q u t : Nat} (h : q < (nd a i).ln.length) (hu : ((nd a i).ln[q]).2 = (u : Int)) (ht : tgt (nd b j).ln ((nd a i).ln[q]).1 = (t : Int)) : ∃ ys, sq (pLn a b i j) = sq (pLq a b i j q) ++ (u * b.length + t) :: ys := by
  have h1 := pLq_yes h hu ht
  refine ⟨sq (((nd a i).ln.drop (q + 1)).filterMap (fun x => if tgt (nd b j).ln x.1 < 0 then none else some (x.1, ((x.2.toNat * b.length + (tgt (nd b j).ln x.1).toNat : Nat) : Int)))), ?_⟩
  have h2 : pLn a b i j = pLq a b i j (q + 1) ++ ((nd a i).ln.drop (q + 1)).filterMap (fun x => if tgt (nd b j).ln x.1 < 0 then none else some (x.1, ((x.2.toNat * b.length + (tgt (nd b j).ln x.1).toNat : Nat) : Int))) := by
    unfold pLq pLn
    rw [← List.filterMap_append, List.take_append_drop]
  rw [h2, h1]
  unfold sq
  simp only [List.map_append, List.map_cons, List.append_assoc, List.cons_append, List.nil_append, Int.toNat_natCast]
theorem pLn_split2 {a b : List Nd} {i j q u t : Nat} {x y : Nd} (hx : nd a i = x) (hy : nd b j = y) (h : q < x.ln.length) (hu : (x.ln[q]).2 = (u : Int)) (ht : tgt y.ln (x.ln[q]).1 = (t : Int)) : ∃ ys, sq (pLn a b i j) = sq (pLq a b i j q) ++ (u * b.length + t) :: ys := by subst hx; subst hy; exact pLn_split h hu ht
theorem own_head {w : World} {base k c g : Nat} {xs : List Int} {v : Int} (h : Own w base 3 1 (some ⟨g, 0, none⟩) k c (xs.map (Value.int .i64))) (hx : xs = [v]) : w.cell? ⟨g, 0 + 0 * 1, none⟩ = some (.int .i64 v) := by
  subst hx
  obtain ⟨g2, e, _, _, hc⟩ := h.cell (by simp)
  cases e
  exact hc 0 _ rfl
theorem ownb_ne {w : World} {base b sz k c : Nat} {e t : TypeId} {A : Option Addr} {xs : List Value} {cs : Array Value} (h : Own w base e sz A k c xs) (hb : Blk w b t cs) (hne : e ≠ t) : ∀ g ∈ aL A, g ≠ b := fun g hg e1 => by
  obtain ⟨c2, h2⟩ := h.typ g hg
  subst e1
  exact hne (blk_type h2 hb)
def putG (V : Nat → Value) (m : Nat) (v : Value) (x : Nat) : Value := if x = m then v else V x
def RowsG (w : World) (base n : Nat) (V : Nat → Value) (L : Nat → List (Int × Int)) : Prop :=
  (∀ x, x < n → ∃ A c, V x = .slice A (L x).length c ∧ Own w base 36 2 A (L x).length c (lnV (L x))) ∧
  (∀ x y, x < n → y < n → x ≠ y → ∀ A m c A' m' c', V x = .slice A m c → V y = .slice A' m' c' → ∀ g ∈ aL A, ¬ g ∈ aL A')
theorem RowsG.nil (w : World) (base : Nat) (V : Nat → Value) (L : Nat → List (Int × Int)) : RowsG w base 0 V L := ⟨fun x hx => by omega, fun x y hx => by omega⟩
theorem RowsG.tr {w w' : World} {base n : Nat} {V : Nat → Value} {L : Nat → List (Int × Int)} {X : List Nat} (h : RowsG w base n V L) (hs : Same X w w') (hx : ∀ g ∈ X, g < base ∨ (∃ cs t, Blk w g t cs ∧ t ≠ 36) ∨ ∀ x A m c, x < n → V x = .slice A m c → ∀ k ∈ aL A, k < g) : RowsG w' base n V L :=
  ⟨fun x hxn => by
    obtain ⟨A, c, e, ho⟩ := h.1 x hxn
    refine ⟨A, c, e, ho.tr hs (fun g hg hgx => ?_)⟩
    rcases hx g hgx with h1 | ⟨cs, t, h1, h2⟩ | h1
    · have := (ho.lt g hg).1; omega
    · obtain ⟨c2, h3⟩ := ho.typ g hg
      exact h2 (blk_type h1 h3)
    · have := h1 x A _ c hxn e g hg; omega, h.2⟩
theorem RowsG.bd {w : World} {base n : Nat} {V : Nat → Value} {L : Nat → List (Int × Int)} (h : RowsG w base n V L) {x m c k : Nat} {A : Option Addr} (hx : x < n) (hV : V x = .slice A m c) (hk : k ∈ aL A) : base ≤ k ∧ k < w.heap.size ∧ ∃ cs, Blk w k 36 cs := by
  obtain ⟨A2, c2, e, ho⟩ := h.1 x hx
  rw [hV] at e
  cases e
  exact ⟨(ho.lt k hk).1, (ho.lt k hk).2, ho.typ k hk⟩
theorem RowsG.ord {w : World} {base n b : Nat} {V : Nat → Value} {L : Nat → List (Int × Int)} (h : RowsG w base n V L) (hb : w.heap.size ≤ b) : ∀ x A m c, x < n → V x = .slice A m c → ∀ k ∈ aL A, k < b := fun _ _ _ _ hx hV _ hk => nLL (h.bd hx hV hk).2.1 hb
theorem RowsG.snoc {w : World} {base n : Nat} {V : Nat → Value} {L : Nat → List (Int × Int)} (h : RowsG w base n V L) : RowsG w base (n + 1) (putG V n (.slice none 0 0)) (fun x => if x = n then [] else L x) := by
  refine ⟨fun x hx => ?_, fun x y hx hy hne A m c A' m' c' h1 h2 => ?_⟩
  · by_cases e : x = n
    · simp only [putG, e, if_true]
      exact ⟨none, 0, rfl, Own.nil _ _ _ _⟩
    · simp only [putG, e, if_false]
      exact h.1 x om
  · by_cases e : x = n
    · simp only [putG, e, if_true, Value.slice.injEq] at h1
      rw [← h1.1]; exact fun g hg => by cases hg
    · by_cases e2 : y = n
      · simp only [putG, e2, if_true, Value.slice.injEq] at h2
        rw [← h2.1]; exact fun g _ hg => by cases hg
      · simp only [putG, e, e2, if_false] at h1 h2
        exact h.2 x y om om hne A m c A' m' c' h1 h2
theorem RowsG.app {w w' : World} {base n k c g c' : Nat} {A : Option Addr} {V : Nat → Value} {L : Nat → List (Int × Int)} {y : Int × Int} (h : RowsG w base n V L) (hk : k < n) (hV : V k = .slice A (L k).length c) (hs : Same (aL A) w w')
    (ho : Own w' base 36 2 (some ⟨g, 0, none⟩) ((L k).length + 1) c' (lnV (L k) ++ [.int .i64 y.1, .int .i64 y.2])) (hg : aL A = [g] ∨ w.heap.size ≤ g) :
    RowsG w' base n (fun x => if x = k then .slice (some ⟨g, 0, none⟩) ((L k).length + 1) c' else V x) (fun x => if x = k then L k ++ [y] else L x) := by
  have hfar : ∀ x, x < n → x ≠ k → ∀ A' m' c2, V x = .slice A' m' c2 → ¬ g ∈ aL A' := fun x hx hne A' m' c2 h1 h2 => by
    rcases hg with hg | hg
    · exact h.2 k x hk hx (Ne.symm hne) _ _ _ _ _ _ hV h1 g (by rw [hg]; exact List.mem_singleton.2 rfl) h2
    · obtain ⟨A3, c3, e, h3⟩ := h.1 x hx
      rw [h1] at e
      cases e
      have := (h3.lt g h2).2; omega
  refine ⟨fun x hx => ?_, fun x z hx hz hne A1 m1 c1 A2 m2 c2 h1 h2 q hq1 hq2 => ?_⟩
  · by_cases e : x = k
    · simp only [e, if_true]
      refine ⟨_, c', by rw [List.length_append]; rfl, ?_⟩
      rw [List.length_append, ← lnV_snoc]; exact ho
    · simp only [e, if_false]
      obtain ⟨A1, c1, e1, h1⟩ := h.1 x hx
      exact ⟨A1, c1, e1, h1.tr hs (fun q hq hqa => h.2 k x hk hx (Ne.symm e) _ _ _ _ _ _ hV e1 q hqa hq)⟩
  · by_cases e : x = k
    · by_cases e2 : z = k
      · exact hne (by rw [e, e2])
      · simp only [e, if_true, Value.slice.injEq] at h1
        simp only [e2, if_false] at h2
        rw [← h1.1] at hq1
        rw [List.mem_singleton.1 hq1] at hq2
        exact hfar z hz e2 _ _ _ h2 hq2
    · simp only [e, if_false] at h1
      by_cases e2 : z = k
      · simp only [e2, if_true, Value.slice.injEq] at h2
        rw [← h2.1] at hq2
        rw [List.mem_singleton.1 hq2] at hq1
        exact hfar x hx e _ _ _ h1 hq1
      · simp only [e2, if_false] at h2
        exact h.2 x z hx hz hne _ _ _ _ _ _ h1 h2 q hq1 hq2
def tyG (G : List Nd) (o : List Nat) (x : Nat) : Value := .int .i64 (nd G (o.getD x 0)).ty
theorem ndG_snoc {G : List Nd} {o : List Nat} {z : Nat} {V : Nat → Value} {v u : Value} (hu : u = .int .i64 (nd G z).ty) : ndV (tyG G o) V o.length ++ [u, v] = ndV (tyG G (o ++ [z])) (putG V o.length v) (o ++ [z]).length := by
  have hl : (o ++ [z]).length = o.length + 1 := by simp
  rw [hl, ndV_snoc, ndV_congr (f := tyG G (o ++ [z])) (h := putG V o.length v) (f' := tyG G o) (h' := V) (fun x hx => by unfold tyG; rw [getD_app hx]) (fun x hx => by unfold putG; rw [if_neg om])]
  have e1 : tyG G (o ++ [z]) o.length = .int .i64 (nd G z).ty := by unfold tyG; simp [List.getD]
  have e2 : putG V o.length v o.length = v := by simp [putG]
  rw [e1, e2, hu]
theorem ndG_put {G : List Nd} {o : List Nat} {V : Nat → Value} {k : Nat} {v : Value} : (ndV (tyG G o) V o.length).set (0 + k * 2 + 1) v = ndV (tyG G o) (fun x => if x = k then v else V x) o.length := by
  refine List.ext_getElem? (fun j => ?_)
  by_cases hj : j < o.length * 2
  · have h2 : j / 2 < o.length := by omega
    rcases Nat.mod_two_eq_zero_or_one j with e | e
    · have e2 : j = j / 2 * 2 := by omega
      rw [List.getElem?_set_ne om, e2, (ndV_get _ _ h2).1, (ndV_get _ _ h2).1]
    · have e2 : j = j / 2 * 2 + 1 := by omega
      by_cases hjk : j / 2 = k
      · rw [show 0 + k * 2 + 1 = j by omega, List.getElem?_set_self (by rw [ndV_len]; exact hj)]
        have h3 := (ndV_get (tyG G o) (fun x => if x = k then v else V x) h2).2
        rw [← e2] at h3
        rw [h3, if_pos hjk]
      · rw [List.getElem?_set_ne om]
        have h3 := (ndV_get (tyG G o) (fun x => if x = k then v else V x) h2).2
        have h4 := (ndV_get (tyG G o) V h2).2
        rw [← e2] at h3 h4
        rw [h3, h4, if_neg hjk]
  · rw [List.getElem?_eq_none (by rw [List.length_set, ndV_len]; omega), List.getElem?_eq_none (by rw [ndV_len]; omega)]
def OwnG (N : Option Addr) (V : Nat → Value) (n k : Nat) : Prop := k ∈ aL N ∨ ∃ x A m c, x < n ∧ V x = .slice A m c ∧ k ∈ aL A
theorem own_bd {w : World} {base n cap : Nat} {N : Option Addr} {V : Nat → Value} {L : Nat → List (Int × Int)} {xs : List Value} (ho : Own w base 39 2 N n cap xs) (hR : RowsG w base n V L) {k : Nat} (h : OwnG N V n k) : base ≤ k ∧ k < w.heap.size ∧ ∃ cs t, Blk w k t cs ∧ (t = 39 ∨ t = 36) := by
  rcases h with h | ⟨x, A, m, c, hx, hV, hk⟩
  · obtain ⟨cs, hb⟩ := ho.typ k h
    exact ⟨(ho.lt k h).1, (ho.lt k h).2, cs, _, hb, .inl rfl⟩
  · obtain ⟨h1, h2, cs, h3⟩ := hR.bd hx hV hk
    exact ⟨h1, h2, cs, _, h3, .inr rfl⟩
theorem own_snoc2 {N : Option Addr} {V : Nat → Value} {n g : Nat} {P : Nat → Prop} (h : ∀ k, OwnG N V n k → P k) (hg : aL N = [g] ∨ P g) : ∀ k, OwnG (some ⟨g, 0, none⟩) (putG V n (.slice none 0 0)) (n + 1) k → P k := fun k hk => by
  rcases hk with hk | ⟨x, A, m, c, hx, hV, hk⟩
  · rw [List.mem_singleton.1 hk]
    rcases hg with hg | hg
    · exact h _ (.inl (by rw [hg]; exact List.mem_singleton.2 rfl))
    · exact hg
  · by_cases e : x = n
    · simp only [putG, e, if_true, Value.slice.injEq] at hV
      rw [← hV.1] at hk; cases hk
    · simp only [putG, e, if_false] at hV
      exact h _ (.inr ⟨x, A, m, c, by omega, hV, hk⟩)
theorem own_put {N A : Option Addr} {V : Nat → Value} {n g k m c m' c' : Nat} {P : Nat → Prop} (h : ∀ k, OwnG N V n k → P k) (hk : k < n) (hV : V k = .slice A m c) (hg : aL A = [g] ∨ P g) : ∀ q, OwnG N (fun x => if x = k then .slice (some ⟨g, 0, none⟩) m' c' else V x) n q → P q := fun q hq => by
  rcases hq with hq | ⟨x, A2, m2, c2, hx, hV2, hq⟩
  · exact h _ (.inl hq)
  · by_cases e : x = k
    · simp only [e, if_true, Value.slice.injEq] at hV2
      rw [← hV2.1] at hq
      rw [List.mem_singleton.1 hq]
      rcases hg with hg | hg
      · exact h _ (.inr ⟨k, A, m, c, hk, hV, by rw [hg]; exact List.mem_singleton.2 rfl⟩)
      · exact hg
    · simp only [e, if_false] at hV2
      exact h _ (.inr ⟨x, A2, m2, c2, hx, hV2, hq⟩)
structure ChG (Z : Nat → Prop) (w w' : World) : Prop where
  os : w'.os = w.os
  tape : w'.tape = w.tape
  output : w'.output = w.output
  size : w.heap.size ≤ w'.heap.size
  blk : ∀ k, k < w.heap.size → ¬ Z k → w'.heap[k]? = w.heap[k]?
theorem ChG.refl (Z : Nat → Prop) (w : World) : ChG Z w w := ⟨rfl, rfl, rfl, Nat.le_refl _, fun _ _ _ => rfl⟩
theorem ChG.st {Z : Nat → Prop} {Y : List Nat} {a b c : World} (h : ChG Z a b) (k : Same Y b c) (hy : ∀ g ∈ Y, Z g ∨ a.heap.size ≤ g) : ChG Z a c :=
  ⟨k.os.trans h.os, k.tape.trans h.tape, k.output.trans h.output, nLT h.size k.size, fun i hi hx => (k.blk i (nLL hi h.size) (fun hm => (hy i hm).elim hx (fun h2 => by omega))).trans (h.blk i hi hx)⟩
theorem ChG.trans {Z Z' : Nat → Prop} {a b c : World} (h : ChG Z a b) (k : ChG Z' b c) (hz : ∀ g, Z' g → Z g ∨ a.heap.size ≤ g) : ChG Z a c :=
  ⟨k.os.trans h.os, k.tape.trans h.tape, k.output.trans h.output, nLT h.size k.size, fun i hi hx => (k.blk i (nLL hi h.size) (fun hm => (hz i hm).elim hx (fun h2 => by omega))).trans (h.blk i hi hx)⟩
theorem Blk.chG {Z : Nat → Prop} {w w' : World} {b t : Nat} {cs : Array Value} (h : Blk w b t cs) (hc : ChG Z w w') (hx : ¬ Z b) : Blk w' b t cs := (hc.blk b h.lt hx).trans h
theorem Bel.chG {Z : Nat → Prop} {w0 w w' : World} (h : Bel w0 w) (hc : ChG Z w w') (hz : ∀ g, Z g → w0.heap.size ≤ g) : Bel w0 w' :=
  ⟨hc.os.trans h.os, hc.tape.trans h.tape, hc.output.trans h.output, nLT h.size hc.size, fun k hk => (hc.blk k (nLL hk h.size) (fun hm => by have := hz k hm; omega)).trans (h.block k hk)⟩
def ZG (bm bO : Nat) (N : Option Addr) (V : Nat → Value) (n k : Nat) : Prop := k = bm ∨ k = bO ∨ OwnG N V n k
theorem zg_lo {bm bO base n k cap : Nat} {w : World} {N : Option Addr} {V : Nat → Value} {L : Nat → List (Int × Int)} {xs : List Value} (ho : Own w base 39 2 N n cap xs) (hR : RowsG w base n V L) (hk : k < base) (h1 : k ≠ bm) (h2 : k ≠ bO) : ¬ ZG bm bO N V n k := fun h => by
  rcases h with h | h | h
  · exact h1 h
  · exact h2 h
  · have := (own_bd ho hR h).1; omega
theorem zg_ty {bm bO base n k cap t : Nat} {w : World} {N : Option Addr} {V : Nat → Value} {L : Nat → List (Int × Int)} {xs : List Value} {cs : Array Value} (ho : Own w base 39 2 N n cap xs) (hR : RowsG w base n V L) (hb : Blk w k t cs) (ht : t ≠ 39) (ht2 : t ≠ 36) (h1 : k ≠ bm) (h2 : k ≠ bO) : ¬ ZG bm bO N V n k := fun h => by
  rcases h with h | h | h
  · exact h1 h
  · exact h2 h
  · obtain ⟨_, _, cs2, t2, h3, h4⟩ := own_bd ho hR h
    have := blk_type hb h3
    rcases h4 with h4 | h4
    · exact ht (this.trans h4)
    · exact ht2 (this.trans h4)
theorem zg_up {bm bO base n k : Nat} {N : Option Addr} {V : Nat → Value} (hm : bm < base) (hO : bO < base) (hk : ∀ g ∈ aL N, g < k) (hk2 : ∀ x A m c, x < n → V x = .slice A m c → ∀ g ∈ aL A, g < k) (hb : base ≤ k) : ¬ ZG bm bO N V n k := fun h => by
  rcases h with h | h | h | ⟨x, A, m, c, hx, hV, h⟩
  · omega
  · omega
  · have := hk k h; omega
  · have := hk2 x A m c hx hV k h; omega
def VOk (w : World) (hs base bm bO nb : Nat) (G : List Nd) (Z : Nat → Prop) (h0 : Nat) (L : Nat → List (Int × Int)) (n : Nat) (o : List Nat) : Prop :=
  ∃ N cN V L', LOk G L L' n n o ∧ (∀ k, OwnG N V o.length k → Z k ∨ h0 ≤ k) ∧ MapN w bm nb o ∧ Blk w bO 28 #[.slice N o.length cN] ∧ Own w base 39 2 N o.length cN (ndV (tyG G o) V o.length) ∧ RowsG w base o.length V L' ∧ bm < hs ∧ bO < hs ∧ ∀ k, OwnG N V o.length k → k < hs
theorem VOk.tr {w w' : World} {hs base bm bO nb h0 n : Nat} {G : List Nd} {Z : Nat → Prop} {L : Nat → List (Int × Int)} {o : List Nat} {X : List Nat} (h : VOk w hs base bm bO nb G Z h0 L n o) (k : Same X w w') (hx : ∀ g ∈ X, hs ≤ g) : VOk w' hs base bm bO nb G Z h0 L n o := by
  obtain ⟨N, cN, V, L', h1, h2, h3, h4, h5, h6, h7, h8, h9⟩ := h
  refine ⟨N, cN, V, L', h1, h2, h3.tr k (fun hm => by have := hx _ hm; omega), h4.tr k (fun hm => by have := hx _ hm; omega), h5.tr k (fun g hg hm => by have := hx _ hm; have := h9 g (.inl hg); omega), h6.tr k (fun g hg => .inr (.inr (fun x A m c h10 h11 q hq => by have := h9 q (.inr ⟨x, A, m, c, h10, h11, hq⟩); have := hx g hg; omega))), h7, h8, h9⟩
def VisR (base bm bO nb : Nat) (G : List Nd) (ok : Nat → Bool) (o : List Nat) (N : Option Addr) (V : Nat → Value) (L : Nat → List (Int × Int)) (w : World) (z : Nat) (e : Ending) (w' : World) : Prop :=
  ∃ (s o' : List Nat) (F : Fl) (kk : Int), o' = o ++ s ∧ DL G [z] o o' ∧ genS ok o.length s = F ∧ e = .returned (.tuple #[.int .i64 kk, .agg #[.int .i64 F.1, .int .i64 F.2]]) ∧ ChG (ZG bm bO N V o.length) w w' ∧ (F.1 = 0 → kk = numO o' z ∧ VOk w' w'.heap.size base bm bO nb G (ZG bm bO N V o.length) w.heap.size L o.length o')
section results
variable {base bm bO nb : Nat} {G : List Nd} {ok : Nat → Bool} {o : List Nat} {N : Option Addr} {V : Nat → Value} {L : Nat → List (Int × Int)} {w w' : World} {z : Nat}
theorem visr_old (h : z ∈ o) (hC : ChG (ZG bm bO N V o.length) w w') {cN : Nat} (h3 : MapN w' bm nb o) (h4 : Blk w' bO 28 #[.slice N o.length cN]) (h5 : Own w' base 39 2 N o.length cN (ndV (tyG G o) V o.length)) (h6 : RowsG w' base o.length V L) {kk : Int} (hk : kk = ((if z ∈ o then o.idxOf z else 0 : Nat) : Int)) :
    VisR base bm bO nb G ok o N V L w z (.returned (.tuple #[.int .i64 kk, .agg #[.int .i64 0, .int .i64 0]])) w' :=
  ⟨[], o, (0, 0), _, by simp, .old h .nil, rfl, rfl, hC, fun _ => ⟨by rw [hk, if_pos h, numO_in h], N, cN, V, L, LOk.refl _ _ _, fun k hk => .inl (.inr (.inr hk)), h3, h4, h5, h6, h3.lt, h4.lt, fun k hk => (own_bd h5 h6 hk).2.1⟩⟩
theorem visr_bad {F : Fl} {a b : Int} (h : ∃ s, DL G [z] o (o ++ s) ∧ genS ok o.length s = F) (hC : ChG (ZG bm bO N V o.length) w w') (h0 : ¬ F.1 = 0) (ha : a = F.1) (hb : b = F.2) {kk : Int} : VisR base bm bO nb G ok o N V L w z (.returned (.tuple #[.int .i64 kk, .agg #[.int .i64 a, .int .i64 b]])) w' := by
  obtain ⟨s, h1, h2⟩ := h
  exact ⟨s, _, F, _, rfl, h1, h2, by rw [ha, hb], hC, fun h => absurd h h0⟩
theorem visr_ok {a s2 : List Nat} (hn : ¬ z ∈ o) (h6 : ¬ o.length = 60) (hc : ok z = true) (ha : a = o ++ [z] ++ s2) (h : DL G (succN G z) (o ++ [z]) a) (hs : genS ok (o.length + 1) s2 = (0, 0)) (hC : ChG (ZG bm bO N V o.length) w w')
    {N' : Option Addr} {cN : Nat} {V' : Nat → Value} {L' : Nat → List (Int × Int)} (hL : LOk G L L' o.length (o.length + 1) a) (hr : L' o.length = (nd G z).ln.map (canL a)) (hOw : ∀ k, OwnG N' V' a.length k → ZG bm bO N V o.length k ∨ w.heap.size ≤ k)
    (h3 : MapN w' bm nb a) (h4 : Blk w' bO 28 #[.slice N' a.length cN]) (h5 : Own w' base 39 2 N' a.length cN (ndV (tyG G a) V' a.length)) (h7 : RowsG w' base a.length V' L') {kk : Int} (hk : kk = (o.length : Nat)) :
    VisR base bm bO nb G ok o N V L w z (.returned (.tuple #[.int .i64 kk, .agg #[.int .i64 0, .int .i64 0]])) w' := by
  have h1 := vis_done hn h6 hc (ha ▸ h) hs
  have e : o ++ z :: s2 = a := by rw [ha]; simp
  rw [e] at h1
  exact ⟨z :: s2, a, (0, 0), _, e.symm, h1.1, h1.2, rfl, hC, fun _ => ⟨by rw [hk, ha, numO_at hn], N', cN, V', L', hL.fin ⟨s2, ha⟩ hr, hOw, h3, h4, h5, h7, h3.lt, h4.lt, fun k hk => (own_bd h5 h7 hk).2.1⟩⟩
end results
theorem zg_nil {bm bO k : Nat} {V : Nat → Value} (h : ZG bm bO none V 0 k) : k = bm ∨ k = bO := by
  rcases h with h | h | h | ⟨x, A, m, c, hx, _⟩
  · exact .inl h
  · exact .inr h
  · cases h
  · omega
theorem gen_nodes {w w2 : World} {lo base cN : Nat} {G : List Nd} {o : List Nat} {N : Option Addr} {V : Nat → Value} {L L' : Nat → List (Int × Int)} (ho : Own w base 39 2 N o.length cN (ndV (tyG G o) V o.length)) (hR : RowsG w base o.length V L') (hL : LOk G L L' 0 0 o) (hb : lo ≤ base) (hf : FrSame lo w w2) : NodesIn w2 N (canG G o) := by
  have hcl : (canG G o).length = o.length := by simp [canG]
  refine nodes_own (lo := base) (bs := w2.heap.size) (ho.fr hb hf) hcl (fun k hk => ?_) (fun k hk => ?_)
  · have hk2 : k < o.length := by omega
    simp [tyG, canG, canN, hk2, List.getD]
  · have hk2 : k < o.length := by omega
    obtain ⟨A, c, e, h1⟩ := hR.1 k hk2
    have e2 : (canG G o)[k].ln = L' k := by
      rw [hL.2 k (Nat.zero_le _) hk2]
      simp [fL, canG, canN, hk2, List.getD]
    rw [e2]
    have h2 := h1.fr hb hf
    exact ⟨A, c, e, h2, fun g hg => (h2.lt g hg).2⟩
theorem types0g {l : List Ty} {fs : List Ft} (h : (hierFault l fs).1 = 0) : (typesFault l).1 = 0 := by
  unfold hierFault at h
  by_cases h4 : 40 < fs.length
  · rw [if_pos h4] at h; cases h
  rw [if_neg h4] at h
  by_cases ht : (typesFault l).1 ≠ 0
  · rw [if_pos ht] at h; exact absurd h ht
  exact Decidable.not_not.1 ht
def GenS (l : List Ty) (fs : List Ft) (ga gb : List Nd) (f : Fl) (X : List Nd) : Prop :=
  (¬ (twoG l fs ga gb).1 = 0 ∧ f = twoG l fs ga gb ∧ X = []) ∨
  ((twoG l fs ga gb).1 = 0 ∧ ∃ o, DL (pG l ga gb) [0] [] o ∧ f = genS (pok l ga gb) 0 o ∧ ((¬ f.1 = 0 ∧ X = []) ∨ (f.1 = 0 ∧ X = canG (pG l ga gb) o)))
end Go.Proofs.YteenmolhopbpeaaDoor
namespace Go.Proofs.YteenmolhopbpeaaDoor
open Go.RowKit
theorem Own.weak {w : World} {base base' : Nat} {e : TypeId} {sz : Nat} {A : Option Addr} {k cap : Nat} {xs : List Value} (h : Own w base e sz A k cap xs) (hb : base' ≤ base) : Own w base' e sz A k cap xs := h.low hb
theorem fn29_Least : callable Tryd.prog 29 = true := by kernel_rfl
theorem in3_Least : (Tryd.prog.info? 3).map (fun i => (i.zero, i.size, i.bytes)) = some (some (.int .i64 0), 1, 8) := by kernel_rfl
theorem sz3_Least : (Tryd.prog.info? 3).map (·.size) = some 1 := by kernel_rfl
theorem sz47_Least : (Tryd.prog.info? 47).map (·.size) = some 1 := by kernel_rfl
theorem sz75_Least : (Tryd.prog.info? 75).map (·.size) = some 1 := by kernel_rfl
theorem ze3_Least : (Tryd.prog.info? 3).map (·.zero) = some (some (.int .i64 0)) := by kernel_rfl
theorem least_any (l : List Ty) (bu bd a b : Nat) (w : World) (hTab : TabIn w) (hI : TableIn w l bu bd) (hv : VT l) (h60 : l.length ≤ 60) (ha : a < l.length) (hb : b < l.length) : Calls Tryd.prog 16 #[tabV l.length bu bd, .int .i64 a, .int .i64 b] w fun e w' => (∃ A cap, e = .returned (.slice A (joinsK l a b l.length).length cap) ∧ Own w' w.heap.size 3 1 A (joinsK l a b l.length).length cap ((joinsK l a b l.length).map (Value.int .i64))) ∧ Bel w w' := by
 have hca := upN_lt h60 a
 have hcb := upN_lt h60 b
 have hcc := mask_lt64 (capB l a b) h60
 refine enter Tryd.func16 Tryd.ntmps16 rfl (Nat.le_of_ble_eq_true rfl) ?_
 have hB : Bel w w := Below.refl _ _
 refine c_seq (c_region ?_)
 refine wl_bx (v := .agg #[_, _]) (cs := #[_, _]) rfl rfl (fun b3 w1 hb3 hs hr => ?_)
 have lo3 := nLT (Bel.size hB) hr
 replace hB := hB.tr0 hs
 clear hs
 clear hr
 refine waS rfl (x_nil (e_S (c_seq ?_)))
 refine c_still kR kR (fun w2 hs => ?_)
 replace hB := hB.tr0 hs
 replace hb3 := hb3.tr0 hs
 clear hs
 refine ws (r_fa U49 sz47_Least dE rfl rfl rfl) (ws (r_ld1 (v := .slice _ _ _) U47 rfl rfl (hb3.cell rfl)) (ws (r_mv (v := .int _ _) rfl) (ws (r_ia (i := a) U47 sz75_Least rfl rfl om rfl) (ws (r_ld1 (v := .int _ _) U75 rfl rfl ((hI.mono hB).up ha)) (ws (r_fa U49 sz47_Least dE rfl rfl rfl) ?_)))))
 refine ws (r_ld1 (v := .slice _ _ _) U47 rfl rfl (hb3.cell rfl)) (ws (r_mv (v := .int _ _) rfl) (ws (r_ia (i := b) U47 sz75_Least rfl rfl om rfl) (ws (r_ld1 (v := .int _ _) U75 rfl rfl ((hI.mono hB).up hb)) (ws (r_andU rfl rfl hca hcb) (ws (r_as (v := .int .u64 (mask (capB l a b) l.length : Nat)) (congrArg (fun z : Nat => Value.int .u64 (z : Int)) (cap_and l a b))) ?_)))))
 refine s_nil (e_S (c_seq (c_region (waS rfl (x_nil ?_)))))
 refine e_S (c_seq (c_seq (c_region (wmI rfl (waI rfl ?_)))))
 refine x_nil (e_S (c_block ?_))
 refine c_loopS [8, 9, 10, 23, 24, 25, 26, 27, 28, 29, 30, 31, 32, 33, 34, 35, 36, 37, 38, 39, 40, 41, 42, 43, 44] (fun m g w' => ∃ (k : Nat) (A8 : Option Addr) (cap8 : Nat) (xs : List Int), k ≤ l.length ∧ m = l.length - k ∧ g 9 = .int .u64 (restN l a b k : Nat) ∧ g 8 = .slice A8 xs.length cap8 ∧ xs = joinsK l a b k ∧ Bel w w' ∧ Blk w' b3 49 #[.slice (some ⟨bu, 0, none⟩) l.length l.length, .slice (some ⟨bd, 0, none⟩) l.length l.length] ∧ Own w' (b3 + 1) 3 1 A8 (xs).length cap8 ((xs).map (Value.int .i64))) (l.length) ?_ (fun m g4 w3 hI => ?_)
 ·
  exact ⟨0, none, 0, [], Nat.zero_le _, rfl, congrArg (fun z : Nat => Value.int .u64 (z : Int)) (restN_zero l a b).symm, rfl, rfl, hB, hb3, Own.nil _ _ _ _⟩
 obtain ⟨k, A8, cap8, xs, hk, hm, h9, h8, hxs, hB, hb3, ho⟩ := hI
 refine c_know 9 (.int .u64 (restN l a b k : Nat)) h9 nu (c_know 8 (.slice A8 xs.length cap8) h8 nu (c_seq (c_seq (c_region (wmI rfl ?_)))))
 refine wl (r_neq rfl rfl) (x_nil (e_S ?_))
 refine c_ifd rfl (fun c24 => ?_) (fun c24 => ?_)
 ·
  have hne : restN l a b k ≠ 0 := fun h => c24 (by rw [h]; rfl)
  have hr := rest_at h60 hne
  have hrl := restN_lt h60 a b k
  have hxl := joinsK_le l a b k
  rw [← hxs] at hxl
  obtain ⟨i, hi⟩ : ∃ i, i = Lib.ctz 64 (restN l a b k) := ⟨_, rfl⟩
  rw [← hi] at hr
  have hil := hr.lt
  have hki := hr.le
  refine c_skip (e_S (c_seq (c_block (c_seq (c_region ?_)))))
  refine wmI rfl ?_
  refine wl_cl fn29_Least (tz_any _ _ hne hrl (hTab.mono hB)) rfl (fun e' w4 hr => ?_)
  obtain ⟨rfl, rfl⟩ := hr
  refine ⟨_, rfl, ?_⟩
  refine wl (r_as (v := .int .i64 (i : Nat)) (congrArg (fun z : Nat => Value.int .i64 (z : Int)) hi.symm)) (x_nil (e_S (c_seq ?_)))
  refine c_still kR kR (fun w5 hs => ?_)
  replace hB := hB.tr0 hs
  replace hb3 := hb3.tr0 hs
  replace ho := ho.tr0 hs
  clear hs
  refine ws (r_fa U49 sz47_Least dE rfl rfl rfl) (ws (r_ld1 (v := .slice _ _ _) U47 rfl rfl (hb3.cell rfl)) (ws (r_mv (v := .int _ _) rfl) (ws (r_ia (i := i) U47 sz75_Least rfl rfl hil rfl) (ws (r_ld1 (v := .int _ _) U75 rfl rfl ((hI.mono hB).down hil)) (ws (r_mv (v := .int _ _) rfl) ?_)))))
  refine ws (r_andU rfl rfl (downN_lt h60 i) hcc) (ws (r_mv (v := .int _ _) rfl) (ws (r_shl1 rfl rfl om rfl) (ws (r_eql rfl rfl) (s_nil (e_S ?_)))))
  refine c_ifd rfl (fun c40 => ?_) (fun c40 => ?_)
  ·
   have hjk := rest_yes hr ((join_test hv hil hr.cap).1 (Int.ofNat_inj.1 c40))
   refine c_region (wmS rfl (wmI rfl ?_))
   refine wl_bs (cs := #[_]) [(0, .int _ _)] rfl U56 sz3_Least ze3_Least dE dE kR rfl (fun b43 w6 hb43 hs hr => ?_)
   have or_b3_b43 : b3 < b43 := nLL hb3.lt hr
   have or_ho_b43 := fun g hg => nLL (ho.lt g hg).2 hr
   have lo43 := nLT (Bel.size hB) hr
   replace hB := hB.tr0 hs
   replace hb3 := hb3.tr0 hs
   replace ho := ho.tr0 hs
   clear hs
   clear hr
   refine wl_app U56 in3_Least rfl dE ho hb43 rfl rfl rfl oneA dE om om hb3.lt (fun g44 cap44 w7 ho44 hs hg => ?_)
   have ne_ho44_b3 : g44 ≠ b3 := fun e => by
    have hl := hb3.lt
    rcases hg with hg | hg
    · have h1 := ho.lt g44 (by rw [hg]; exact List.mem_singleton.2 rfl)
      (try have := or_ho_b3 g44 (by rw [hg]; exact List.mem_singleton.2 rfl)); omega
    · omega
   replace hB := hB.tr hs (fun g hg => nLT (Nat.le_succ_of_le lo3) (ho.lt g hg).1)
   replace hb3 := hb3.tr hs (fun hx => by have := (ho.lt _ hx).1; (try have := or_ho_b3 _ hx); omega)
   refine waS rfl (x_nil (e_B (e_S (c_region (wmI rfl ?_)))))
   refine wmI rfl (wl (r_subU (b := 1) rfl rfl om hrl rfl) (wl (r_andU rfl rfl hrl om) (waI rfl (x_nil (e_LS (l.length - (i + 1)) om agA ?_)))))
   first
     | exact ⟨i + 1, _, _, xs ++ [(i : Int)], by omega, rfl, congrArg (fun z : Nat => Value.int .u64 (z : Int)) hr.next, sl_snoc _ _ _ _, by rw [hxs, hjk], hB, hb3, own_snoc ho44⟩
     | exact ⟨i + 1, _, _, xs, by omega, rfl, congrArg (fun z : Nat => Value.int .u64 (z : Int)) hr.next, rfl, by rw [hxs, hjk], hB, hb3, ho⟩
  have hjk := rest_no hr (by
    cases hjb : joinB l a b i with
    | false => rfl
    | true => exact absurd (congrArg (fun z : Nat => (z : Int)) ((join_test hv hil hr.cap).2 hjb)) c40)
  refine c_skip (e_B (e_S (c_region (wmI rfl (wmI rfl ?_)))))
  refine wl (r_subU (b := 1) rfl rfl om hrl rfl) (wl (r_andU rfl rfl hrl om) (waI rfl (x_nil (e_LS (l.length - (i + 1)) om agA ?_))))
  first
    | exact ⟨i + 1, _, _, xs ++ [(i : Int)], by omega, rfl, congrArg (fun z : Nat => Value.int .u64 (z : Int)) hr.next, sl_snoc _ _ _ _, by rw [hxs, hjk], hB, hb3, own_snoc ho44⟩
    | exact ⟨i + 1, _, _, xs, by omega, rfl, congrArg (fun z : Nat => Value.int .u64 (z : Int)) hr.next, rfl, by rw [hxs, hjk], hB, hb3, ho⟩
 have hz0 : restN l a b k = 0 := by omega
 have hend := rest_end hk hz0
 refine c_exit (e_Sx (e_LSx (e_Bx (e_S (c_seq ?_)))))
 refine c_region (wmS rfl (waS rfl (x_nil (e_S (c_ret ?_)))))
 refine fin1 (.inl rfl) rfl rfl ?_
 rw [hend, ← hxs]
 exact ⟨⟨_, _, rfl, ho.weak (Nat.le_succ_of_le lo3)⟩, hB⟩
end Go.Proofs.YteenmolhopbpeaaDoor
namespace Go.Proofs.YteenmolhopbpeaaDoor
open Go.RowKit
section monok
variable {P : Program} {Q : Exit → Act → World → Prop} {n : Nat} {f : Fr} {w : World}
def vO (f : Fr) (o : Oper) : Value := match o.dst with
  | some d => f d
  | none => undef
def rO (R : Nat → Value → World → Prop) (i : Nat) (o : Oper) (v : Value) (w : World) : Prop := match o.dst with
  | some _ => R i v w
  | none => R i undef w
def monoK (l : List Oper) (m : Nat) (S : List Nat) : Bool :=
  decide (l.length = m) && (List.range l.length).all (fun i => match l[i]? with
    | some o => o.guard.isNone && (deps o).all (fun j => decide (j < i)) && (match o.dst with
      | some d => mem S d && (List.range l.length).all (fun j => decide (i = j) || (match l[j]? with | some o' => !(o'.dst == some d) | none => true))
      | none => true)
    | none => false)
theorem os_wl0 {Post : Value → World → Prop} {op : Op} {ty : TypeId} {pos : String} {af : Array Edge} (h : ∀ (ops : Array Oper) (Q : Exit → Act → World → Prop), (∀ w', Post undef w' → WL P ops Q [] n f w') → WL P ops Q [⟨none, op, ty, pos, af, none⟩] n f w) : OS P n f w ⟨none, op, ty, pos, af, none⟩ Post := by
  unfold OS
  intro K Q hK
  have h1 := h #[] (onlyN K Q) (fun w' hp => by
    unfold WL
    refine wpList_nil ?_
    have := hK undef w' hp
    exact this)
  unfold WL wpList at h1
  rw [if_pos (by simp [Region.wanted])] at h1
  have ho : ¬ LetsOut (onlyN K Q) := fun ⟨_, _, h⟩ => h
  rcases h1 with h1 | ⟨_, h1⟩
  · exact oper_wp_mono2 (Q := onlyN K Q) (fun a w h => h) (fun c a w h => h) ho h1
  · exact absurd h1 ho
theorem c_monoK {id : Nat} {l : List Oper} (m : Nat) (S X : List Nat) (R : Nat → Value → World → Prop) (J : World → Prop) (hm : P.follows .mixedOrders = true) (hB : monoK l m S = true) (hJ0 : ∀ w', Same [] w w' → J w')
    (step : ∀ i o, i < m → l[i]? = some o → ∀ f' w', Same X w w' → J w' → Ag S f' f → (∀ j o', j ∈ deps o → l[j]? = some o' → R j (vO f' o') w') → OS P n f' w' o (fun v w'' => Same X w' w'' ∧ J w'' ∧ rO R i o v w'' ∧ ∀ k v, k ≠ i → R k v w' → R k v w''))
    (fin : ∀ f' w', Same X w w' → J w' → Ag S f' f → (∀ i o, l[i]? = some o → R i (vO f' o) w') → WL P l.toArray Q [] n f' w') : WC P (.region id l.toArray true) Q n f w := by
  unfold WC
  refine wp_region_any hm ?_
  simp only [monoK, Bool.and_eq_true, List.all_eq_true, List.mem_range, decide_eq_true_eq] at hB
  obtain ⟨hlm, hB⟩ := hB
  have hget : ∀ i o, l[i]? = some o → o.guard = none ∧ (∀ j ∈ deps o, j < i) ∧ ∀ d, o.dst = some d → mem S d = true ∧ ∀ j o', l[j]? = some o' → i ≠ j → o'.dst ≠ some d := fun i o ho => by
    have hil : i < l.length := (List.getElem?_eq_some_iff.1 ho).1
    have h := hB i hil
    simp only [ho, Bool.and_eq_true] at h
    obtain ⟨⟨h1, h2⟩, h3⟩ := h
    refine ⟨Option.isNone_iff_eq_none.1 h1, fun j hj => by simpa using List.all_eq_true.1 h2 j hj, fun d hd => ?_⟩
    simp only [hd, Bool.and_eq_true] at h3
    refine ⟨h3.1, fun j o' ho' hne hd' => ?_⟩
    have h4 := List.all_eq_true.1 h3.2 j (List.mem_range.2 (List.getElem?_eq_some_iff.1 ho').1)
    simp [ho', hd', hne] at h4
  have key : ∀ (fuel : Nat) (listed : Array Bool) (f' : Fr) (w' : World), listed.size = l.length → Dn l listed → Same X w w' → J w' → Ag S f' f → (∀ i o, l[i]? = some o → listed.getD i false = true → R i (vO f' o) w') →
      (List.range l.length).countP (fun i => !listed.getD i false) ≤ fuel → wpAny P .any l.toArray Q fuel listed (AF n f') w' := by
    have fin' : ∀ (listed : Array Bool) (f' : Fr) (w' : World), Same X w w' → J w' → Ag S f' f → (∀ i o, l[i]? = some o → listed.getD i false = true → R i (vO f' o) w') → (∀ i, i < l.length → listed.getD i false = true) → Q .normal (AF n f') w' := fun listed f' w' hs hj hag hR hall => by
      have := fin f' w' hs hj hag (fun i o ho => hR i o ho (hall i (List.getElem?_eq_some_iff.1 ho).1))
      unfold WL at this; exact this
    intro fuel
    induction fuel with
    | zero =>
      intro listed f' w' hs hD hsm hj hag hR hc
      have hall : ∀ i, i < l.length → listed.getD i false = true := by
        intro i hi
        have h0 : (List.range l.length).countP (fun i => !listed.getD i false) = 0 := by omega
        rw [List.countP_eq_zero] at h0
        have := h0 i (List.mem_range.2 hi)
        simpa using this
      refine ⟨?_, fin' listed f' w' hsm hj hag hR hall⟩
      cases hr : Region.ready .any l.toArray listed with
      | nil => rfl
      | cons i r =>
        obtain ⟨o, ho, hn, _⟩ := ready_inv' listed i (by rw [hr]; simp)
        have : i < l.length := (List.getElem?_eq_some_iff.1 ho).1
        rw [hall i om] at hn; cases hn
    | succ fuel ih =>
      intro listed f' w' hs hD hsm hj hag hR hc
      refine ⟨fun hr => ?_, fun i hi => ?_⟩
      · have hall : ∀ k, k ≤ l.length → ∀ i, i < k → listed.getD i false = true := by
          intro k
          induction k with
          | zero => intro _ i hi; omega
          | succ k ihk =>
            intro hk i hi
            have ihk' := ihk om
            by_cases hik : i < k
            · exact ihk' i hik
            · have : i = k := by omega
              subst this
              cases hb : listed.getD i false with
              | true => rfl
              | false =>
                have ho : l[i]? = some l[i] := List.getElem?_eq_getElem om
                have := ready_of' listed i _ hs ho hb (fun j hj => ihk' j ((hget i _ ho).2.1 j hj))
                rw [hr] at this; cases this
        exact fin' listed f' w' hsm hj hag hR (hall l.length (Nat.le_refl _))
      · obtain ⟨o, ho, hn, hd⟩ := ready_inv' listed i hi
        have hil : i < l.length := (List.getElem?_eq_some_iff.1 ho).1
        obtain ⟨hg, hdl, hdd⟩ := hget i o ho
        unfold wpOp
        simp only [List.getElem?_toArray, ho]
        rw [if_pos (by simp [Region.wanted, hg])]
        left
        have hst1 := step i o om ho f' w' hsm hj hag (fun j o' hjd ho' => hR j o' ho' (hd j hjd))
        unfold OS at hst1
        refine hst1 _ _ ?_
        rintro v w'' ⟨hs1, hj1, hr1, hk1⟩
        have hli : ∀ j, i ≠ j → (listed.setIfInBounds i true).getD j false = listed.getD j false := fun j hij => by
          simp only [Array.getD_eq_getD_getElem?, Array.getElem?_setIfInBounds_ne hij]
        have hlt := countP_lt (p := fun i => !listed.getD i false) (q := fun k => !(listed.setIfInBounds i true).getD k false) (fun x hx => by
          by_cases hix : i = x
          · subst hix; simp [hn]
          · simpa only [Array.getD_eq_getD_getElem?, Array.getElem?_setIfInBounds_ne hix] using hx) (List.range l.length) i (List.mem_range.2 hil) (by simp [hn]) (by
            have : i < listed.size := by omega
            simp [this])
        cases hdst : o.dst with
        | none =>
          have hri : R i undef w'' := by simpa only [rO, hdst] using hr1
          show wpAny P .any l.toArray Q fuel (listed.setIfInBounds i true) (AF n f') w''
          refine ih _ _ _ (by simpa using hs) (hD.set om ho hd) (hsm.trans hs1) hj1 hag (fun j o' ho' hl' => ?_) om
          by_cases hij : i = j
          · subst hij
            rw [ho] at ho'; cases ho'
            simpa only [vO, hdst] using hri
          · rw [hli j hij] at hl'
            exact hk1 j _ (fun e => hij e.symm) (hR j o' ho' hl')
        | some d =>
          have hri : R i v w'' := by simpa only [rO, hdst] using hr1
          obtain ⟨hSd, hne⟩ := hdd d hdst
          rw [put_AF]
          refine ih _ _ _ (by simpa using hs) (hD.set om ho hd) (hsm.trans hs1) hj1 (ag_upd hSd hag) (fun j o' ho' hl' => ?_) om
          by_cases hij : i = j
          · subst hij
            rw [ho] at ho'; cases ho'
            have : vO (upd f' d v) o = v := by simp [vO, hdst, upd]
            rw [this]; exact hri
          · rw [hli j hij] at hl'
            have : vO (upd f' d v) o' = vO f' o' := by
              unfold vO
              cases hd' : o'.dst with
              | none => rfl
              | some d' =>
                have h1 := hne j o' ho' hij
                rw [hd'] at h1
                simp only [upd]
                have : Nat.beq d' d = false := by
                  cases hb : Nat.beq d' d
                  · rfl
                  · exact absurd (congrArg some (Nat.eq_of_beq_eq_true hb)) h1
                simp [this]
            rw [this]
            exact hk1 j _ (fun e => hij e.symm) (hR j o' ho' hl')
  have h0 := key l.length (Array.replicate l.length false) f { w with drawn := w.drawn + 1 } (by simp) (fun j o _ h => by
    simp only [Array.getD_eq_getD_getElem?, Array.getElem?_replicate] at h
    split at h <;> cases h) ((Same.drew w 1).weak (fun x hx => by cases hx)) (hJ0 _ (Same.drew w 1)) ag_refl (fun i o _ h => by
    simp only [Array.getD_eq_getD_getElem?, Array.getElem?_replicate] at h
    split at h <;> cases h) (by
      have := List.countP_le_length (p := fun i => !(Array.replicate l.length false).getD i false) (l := List.range l.length)
      simp only [List.length_range] at this
      omega)
  simpa using h0
theorem c_monoKO {id : Nat} {l : List Oper} (m : Nat) (S X : List Nat) (R : Nat → Value → World → Prop) (J : World → Prop) (hm : P.follows .mixedOrders = true) (hB : monoK l m S = true)
    (hst : ∀ i v w1 w2, R i v w1 → Same [] w1 w2 → R i v w2) (hJ : ∀ w1 w2, J w1 → Same [] w1 w2 → J w2) (hJ0 : J w)
    (step : ∀ i o, i < m → l[i]? = some o → ∀ g w', Same X w w' → J w' → (∀ j o', j ∈ deps o → l[j]? = some o' → R j (vO g o') w') → match o.dst with
      | some _ => OS P n (ovr S g f) w' o (fun v w'' => Same [] w' w'' ∧ R i v w'' ∧ Frsh false w' w'' v)
      | none => OS P n (ovr S g f) w' o (fun _ w'' => Same X w' w'' ∧ J w'' ∧ R i undef w'' ∧ ∀ k v, k ≠ i → R k v w' → R k v w''))
    (fin : ∀ g w', Same X w w' → J w' → (∀ i o, l[i]? = some o → R i (vO g o) w') → WL P l.toArray Q [] n (ovr S g f) w') : WC P (.region id l.toArray true) Q n f w := by
  refine c_monoK m S X R J hm hB (fun w' hs => hJ _ _ hJ0 hs) (fun i o hi ho f' w' hs hj hag hd => ?_) (fun f' w' hs hj hag hR => ?_)
  · have h := step i o hi ho f' w' hs hj hd
    rw [← ag_ovr hag] at h
    unfold rO
    cases hdst : o.dst with
    | some d =>
      simp only [hdst] at h
      unfold OS at h ⊢
      exact fun K Q hK => h K Q (fun v w'' ⟨h1, h2, _⟩ => hK v w'' ⟨h1.weak (fun x hx => by cases hx), hJ _ _ hj h1, h2, fun k v _ hr => hst k v _ _ hr h1⟩)
    | none =>
      simp only [hdst] at h
      unfold OS at h ⊢
      exact fun K Q hK => h K Q (fun v w'' h1 => hK v w'' h1)
  · have := fin f' w' hs hj hR
    rwa [← ag_ovr hag] at this
end monok
end Go.Proofs.YteenmolhopbpeaaDoor
