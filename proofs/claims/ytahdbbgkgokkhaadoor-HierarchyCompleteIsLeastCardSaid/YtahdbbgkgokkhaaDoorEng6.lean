/- The engine's sixth part: copy, zeros appended to a slice, functions that the model has itself, a drawn region in which an operation changes what another one has made. -/
import Derived.Test.YtahdbbgkgokkhaaDoorEng2
import Derived.Lib.AppendZerosOnto
import Derived.Laws.CopyRow
import Derived.Laws.Externs
import Derived.Lib.Overlaps
namespace Go.Proofs.YtahdbbgkgokkhaaDoor
open Go.RowKit
section six
variable {P : Program} {Q : Exit → Act → World → Prop} {n : Nat} {f : Fr} {w : World} {ops : Array Oper} {rest : List Oper} {d : Tmp} {ty t e : TypeId} {pos : String} {af : Array Edge} {x y : Operand} {v : Value}
theorem Own.whole {base sz k cap : Nat} {A : Option Addr} {xs : List Value} (h : Own w base e sz A k cap xs) (hk : 0 < k) : ∃ (g : Nat) (cur : Array Value), A = some ⟨g, 0, none⟩ ∧ base ≤ g ∧ Blk w g e cur ∧ cap ≤ 9223372036854775807 ∧ cur.size = cap * sz ∧ cur.toList.take (k * sz) = xs := by
  rcases h.2 with ⟨_, h0⟩ | ⟨g, c, cur, hv, hb, hg, hkc, hm, hs, ht⟩
  · omega
  · cases hv
    exact ⟨g, cur, rfl, hb, hg, by simpa [maxLen] using hm, hs, ht⟩
theorem own_mk {base sz k cap g : Nat} {cur : Array Value} {xs : List Value} (hb : Blk w g e cur) (hbase : base ≤ g) (hk : k ≤ cap) (hm : cap ≤ 9223372036854775807) (hs : cur.size = cap * sz) (hx : cur.toList.take (k * sz) = xs) : Own w base e sz (some ⟨g, 0, none⟩) k cap xs := by
  have hle : k * sz ≤ cap * sz := Nat.mul_le_mul_right sz hk
  subst hx
  exact ⟨by rw [List.length_take, Array.length_toList]; omega, .inr ⟨g, cap, cur, rfl, hbase, hb, hk, by simpa [maxLen] using hm, hs, rfl⟩⟩
end six
end Go.Proofs.YtahdbbgkgokkhaaDoor
