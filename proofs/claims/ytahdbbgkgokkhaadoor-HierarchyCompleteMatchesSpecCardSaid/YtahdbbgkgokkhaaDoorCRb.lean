/- What these functions of the program compute, at every world: . -/
import Derived.Test.YtahdbbgkgokkhaaDoorCRa
import Derived.Test.YtahdbbgkgokkhaaDoorCRi
import Derived.Test.YtahdbbgkgokkhaaDoorRcn
import Derived.Test.YtahdbbgkgokkhaaDoorSub
namespace Go.Proofs.YtahdbbgkgokkhaaDoor
open Go.RowKit

theorem pop_le (x : Nat) : pop 64 x ≤ 64 := by
  unfold pop lst
  exact Nat.le_trans (List.length_filter_le ..) (by simp)
theorem base_take {l : List Ty} {j : Nat} (h : j < l.length) : (base l).take (j + 1) = (base l).take j ++ [downN l j] := by
  rw [take_snoc _ (by rw [base_len]; exact h)]
  simp [base]
def nmV (p : Nat × ByteArray) : Value := .string p.2
theorem RwT.snoc25 {lo hi : Nat} {w : World} {l : List Ty} {vs : List Value} {s : ByteArray} {xs : List Int} {A : Option Addr} {c : Nat} {t : Ty} (h : RwT lo hi w l vs) (hp : PrI lo hi w A xs) (ht : t = ⟨s, xs⟩) : RwT lo hi w (l ++ [t]) (vs ++ [.string s, .slice A xs.length c]) := by
  subst ht; exact h.snoc hp
theorem tyR_eq {O : List (Nat × ByteArray)} {M : List Nat} {i : Nat} (hM : M = O.map Prod.fst) (hl : M.length = O.length) : tyR O i = ⟨(O.getD i (0, ⟨#[]⟩)).2, parR M i O.length⟩ := by
  unfold tyR
  rw [← hM, hl]
theorem sl_eq {A B : Option Addr} (n c : Nat) (h : A = B) : Value.slice A n c = Value.slice B n c := by rw [h]
theorem msL_tk (B : List Nat) (k : Nat) : msL (B.take k) = (msL B).take k := by simp [msL]
theorem msL_dr (B : List Nat) (k : Nat) : msL (B.drop k) = (msL B).drop k := by simp [msL]
theorem own_at {w : World} {base n c k : Nat} {e : TypeId} {A : Option Addr} {vs : List Value} {v : Value} {b o : Nat} (ho : Own w base e 1 A n c vs) (hv : vs[k]? = some v) : A = some ⟨b, o, none⟩ → w.cell? ⟨b, o + k * 1, none⟩ = some v := fun hA => by
  obtain ⟨g, e, _, _, hc⟩ := ho.cell (fun e => by rw [e] at hv; cases hv)
  rw [e] at hA
  cases hA
  rw [Nat.zero_add, Nat.mul_one]
  exact hc _ _ hv

theorem insn_any {base b vc c k n : Nat} {A : Option Addr} {L : List Value} {x : Value} (hn : L.length = n) (w : World) (ho : Own w base 33 1 A n c L) (hb : Blk w b 33 #[x]) (hA : ∀ g ∈ aL A, g ≠ b) (hk : k ≤ n) (hl : n ≤ 1000000) (hbase : base ≤ w.heap.size) (hL1 : ∀ v ∈ L, v.oneCell' = true) (hx1 : x.oneCell' = true) : Calls Tryd.prog 34 #[.slice A n c, .int .i64 (k : Nat), .slice (some ⟨b, 0, none⟩) 1 vc] w fun e w' => ∃ A' c', e = .returned (.slice A' (n + 1) c') ∧ Own w' base 33 1 A' (n + 1) c' (insV L k x) ∧ Same (aL A) w w' ∧ ∀ g ∈ aL A', g ∈ aL A ∨ w.heap.size ≤ g := by
  subst hn
  exact insv_any w ho hb hA hk hl hbase hL1 hx1
theorem coml_any {A B : Option Addr} {c d x y : Nat} (w : World) (hX : IntsIn w A (lsI x)) (hY : IntsIn w B (lsI y)) : Calls Tryd.prog 31 #[.slice A (lsI x).length c, .slice B (lsI y).length d] w fun e w' => (∃ A' c', e = .returned (.slice A' (lsI (x &&& y)).length c') ∧ Own w' w.heap.size 3 1 A' (lsI (x &&& y)).length c' ((lsI (x &&& y)).map (Value.int .i64))) ∧ Bel w w' := by
  have h := com_any w hX hY (by rw [lsI_len]; exact Nat.le_trans (pop_le x) (by decide)) (c := c) (d := d)
  rw [lsI_and] at h
  exact h



end Go.Proofs.YtahdbbgkgokkhaaDoor
