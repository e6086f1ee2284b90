/- The engine's third part: cap, append of nothing, append of zeros to the nil slice. -/
import Derived.Test.YtahdbbgkgokkhaaDoorEng2
import Derived.Lib.AppendZerosOnto
namespace Go.Proofs.YtahdbbgkgokkhaaDoor
open Go.RowKit
section eng3
variable {P : Program} {Q : Exit → Act → World → Prop} {n : Nat} {f : Fr} {w : World} {ops : Array Oper} {rest : List Oper} {d : Tmp} {ty t e : TypeId} {pos : String} {af : Array Edge} {x y : Operand}
theorem r_cap {dst : Option Tmp} {gd : Option (Nat × Bool)} {A : Option Addr} {m c : Nat} (hu : P.underlying t = some (.slice e)) (hx : ev n f x = .slice A m c) :
    RV P n f w ⟨dst, .call { callee := .builtin .cap, args := #[x], argTypes := #[t] }, ty, pos, af, gd⟩ (.int .i64 (c : Int)) w := by
  simp [RV, execOp, resolve, invoke, builtin, hx, Builtin.cap_, run_underlying hu, goInt]
theorem run_app0 {A B : Option Addr} {k cap c sz : Nat} (hu : P.underlying t = some (.slice e)) (hs : (P.info? e).map (·.size) = some sz) (hk : k ≤ cap) :
    (Builtin.append_ #[t, t] ty #[.slice A k cap, .slice B 0 c]).run P w = .ok (.slice A k cap) w := by
  cases hq : P.info? e with
  | none => simp [hq] at hs
  | some i =>
    simp only [hq, Option.map_some, Option.some.injEq] at hs
    have hz : (Go.sizeOf e).run P w = .ok sz w := by simp [Go.sizeOf, typeInfo, hq, hs]
    have h0 : (Builtin.firstCells sz 0 (.slice B 0 c)).run P w = .ok #[] w := by
      cases B with
      | none => simp [Builtin.firstCells]
      | some b => simp [Builtin.firstCells, loadCells, loadCellsFrom]
    cases A with
    | none => simp [Builtin.append_, run_underlying hu, hz, Builtin.lenOf, hk, h0]
    | some a => simp [Builtin.append_, run_underlying hu, hz, Builtin.lenOf, hk, h0, storeCells]
theorem r_app0 {dst : Option Tmp} {gd : Option (Nat × Bool)} {A B : Option Addr} {k cap c sz : Nat} (hu : P.underlying t = some (.slice e)) (hs : (P.info? e).map (·.size) = some sz) (hk : k ≤ cap) (hx : ev n f x = .slice A k cap) (hy : ev n f y = .slice B 0 c) :
    RV P n f w ⟨dst, .call { callee := .builtin .append, args := #[x, y], argTypes := #[t, t] }, ty, pos, af, gd⟩ (.slice A k cap) w := by
  have hr := run_app0 (P := P) (w := w) (ty := ty) (A := A) (B := B) (c := c) hu hs hk
  simp only [RV, execOp, resolve, invoke, builtin, Sem.run_bind, Sem.run_pure, Result.andThen_ok, List.map_toArray, List.map_cons, List.map_nil, hx, hy, hr]
/-- append of what a slice's cells hold, also of none -/
theorem wl_appL {zv : Value} {base sz by' k cap m c : Nat} {A B : Option Addr} {xs news : List Value} (hu : P.underlying t = some (.slice e)) (hi : (P.info? e).map (fun i => (i.zero, i.size, i.bytes)) = some (some zv, sz, by')) (hzs : zv.cells.size = sz) (hsz : 0 < sz)
    (hown : Own w base e sz A k cap xs) (hx : ev n f x = .slice A k cap) (hy : ev n f y = .slice B m c) (hn : 0 < m → ∃ b o', B = some ⟨b, o', none⟩ ∧ ∀ j u, news[j]? = some u → w.cell? ⟨b, o' + j, none⟩ = some u) (hl : news.length = m * sz) (h1 : news.all (·.oneCell') = true) (h63 : k + m ≤ 9223372036854775807) (hbytes : (k + m) * by' ≤ 140737488355328) (hbase : base ≤ w.heap.size)
    (K : ∀ A' cap' w1, Own w1 base e sz A' (k + m) cap' (xs ++ news) → Same (aL A) w w1 → (∀ g ∈ aL A', g ∈ aL A ∨ w.heap.size ≤ g) → WL P ops Q rest n (upd f d (.slice A' (k + m) cap')) w1) :
    WL P ops Q (⟨some d, .call { callee := .builtin .append, args := #[x, y], argTypes := #[t, t] }, ty, pos, af, none⟩ :: rest) n f w := by
  by_cases hm : 0 < m
  · obtain ⟨b, o', rfl, hc⟩ := hn hm
    refine wl_appC hu hi hzs hsz hown hx hy hc hl h1 hm h63 hbytes hbase (fun g cap' w1 ho hs hg => K _ _ _ ho hs (fun g' hg' => ?_))
    have e1 : g' = g := List.mem_singleton.1 hg'
    subst e1
    rcases hg with hg | hg
    · exact .inl (by rw [hg]; simp)
    · exact .inr hg
  · obtain rfl : m = 0 := by omega
    obtain rfl : news = [] := List.length_eq_zero_iff.1 (by simpa using hl)
    have hs : (P.info? e).map (·.size) = some sz := by
      obtain ⟨i, hq, hzz⟩ := Option.map_eq_some_iff.1 hi
      simp only [Prod.mk.injEq] at hzz
      simp [hq, hzz.2.1]
    refine wl (r_app0 hu hs hown.cap_le hx hy) ?_
    exact K A cap w (by simpa using hown) (Same.refl _ _) (fun g hg => .inl hg)
end eng3
end Go.Proofs.YtahdbbgkgokkhaaDoor
