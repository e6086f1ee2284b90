/- Regions of the function Small, each at every world. -/
import Derived.Test.YthhkbhapfcfdjaaDoorAdd
namespace Go.Proofs.YthhkbhapfcfdjaaDoor
open Go.RowKit

def toB (l : List Nat) : ByteArray := ⟨(l.map (fun n => UInt8.ofNat n)).toArray⟩
theorem ints_of_blk {w : World} {b t : Nat} (xs : List Int) (h : Blk w b t (xs.map (Value.int .i64)).toArray) (hl : xs.length ≤ maxI) : IntsIn w (some ⟨b, 0, none⟩) xs :=
  ⟨hl, fun _ => ⟨b, 0, rfl, h.lt, fun k hk => h.cell (by simp [hk])⟩⟩
theorem strs_of_blk {w : World} {b t : Nat} (xs : List ByteArray) (h : Blk w b t (xs.map Value.string).toArray) : StrsIn w (some ⟨b, 0, none⟩) xs :=
  fun _ => ⟨b, 0, rfl, h.lt, fun k hk => h.cell (by simp [hk])⟩
def RowV (w : World) (r : List Int) (v : Value) : Prop := ∃ A c, v = .slice A r.length c ∧ IntsIn w A r ∧ 0 < r.length ∧ r.length ≤ 1000
inductive RowVs (w : World) : List (List Int) → List Value → Prop
  | nil : RowVs w [] []
  | cons {r : List Int} {rs : List (List Int)} {v : Value} {vs : List Value} (h : RowV w r v) (t : RowVs w rs vs) : RowVs w (r :: rs) (v :: vs)
theorem RowVs.len {w : World} {rs : List (List Int)} {vs : List Value} (h : RowVs w rs vs) : rs.length = vs.length := by
  induction h with
  | nil => rfl
  | cons _ _ ih => simp [ih]
theorem RowVs.pos {w : World} {rs : List (List Int)} {vs : List Value} (h : RowVs w rs vs) : ∀ r ∈ rs, 0 < r.length ∧ r.length ≤ 1000 := by
  induction h with
  | nil => intro r hr; cases hr
  | cons h _ ih =>
    intro r hr
    rcases List.mem_cons.1 hr with rfl | hr
    · obtain ⟨_, _, _, _, h3, h4⟩ := h; exact ⟨h3, h4⟩
    · exact ih r hr
theorem RowVs.get {w : World} {rs : List (List Int)} {vs : List Value} (h : RowVs w rs vs) : ∀ k (hk : k < rs.length), ∃ A c, vs[k]? = some (.slice A (rs[k]).length c) ∧ IntsIn w A rs[k] := by
  induction h with
  | nil => intro k hk; simp at hk
  | cons h _ ih =>
    intro k hk
    match k, hk with
    | 0, _ => obtain ⟨A, c, h1, h2, _⟩ := h; exact ⟨A, c, by rw [h1]; rfl, h2⟩
    | k + 1, hk => exact ih k (by simpa using hk)
theorem rows_of_blk {w : World} {b t : Nat} {rs : List (List Int)} {vs : List Value} (h : Blk w b t vs.toArray) (hr : RowVs w rs vs) (hl : rs.length ≤ 1000) : RowsIn w (some ⟨b, 0, none⟩) rs :=
  ⟨hl, hr.pos, fun _ => ⟨b, 0, rfl, h.lt, fun k hk => by
    obtain ⟨A, c, h1, h2⟩ := hr.get k hk
    exact ⟨A, c, h.cell (by simpa using h1), h2⟩⟩⟩
/-- one of the terms of a row of terms -/
theorem blk_six {w : World} {b t i : Nat} {cs : Array Value} (h : Blk w b t cs) (hi : i * 6 + 6 ≤ cs.size) (h1 : cs.toList.all (·.oneCell') = true) :
    ∃ x0 x1 x2 x3 x4 x5, w.rangeAt b (0 + i * 6) [x0, x1, x2, x3, x4, x5] ∧ x0.oneCell' = true ∧ x1.oneCell' = true ∧ x2.oneCell' = true ∧ x3.oneCell' = true ∧ x4.oneCell' = true ∧ x5.oneCell' = true := by
  have hg : ∀ j (hj : j < 6), ∃ x, cs[0 + i * 6 + j]? = some x ∧ x.oneCell' = true := fun j hj => by
    have hlt : 0 + i * 6 + j < cs.size := by omega
    exact ⟨cs[0 + i * 6 + j], Array.getElem?_eq_getElem hlt, List.all_eq_true.1 h1 _ (by simp)⟩
  obtain ⟨x0, e0, o0⟩ := hg 0 (by decide)
  obtain ⟨x1, e1, o1⟩ := hg 1 (by decide)
  obtain ⟨x2, e2, o2⟩ := hg 2 (by decide)
  obtain ⟨x3, e3, o3⟩ := hg 3 (by decide)
  obtain ⟨x4, e4, o4⟩ := hg 4 (by decide)
  obtain ⟨x5, e5, o5⟩ := hg 5 (by decide)
  refine ⟨x0, x1, x2, x3, x4, x5, h.range (fun j v hj => ?_), o0, o1, o2, o3, o4, o5⟩
  match j, hj with
  | 0, hj => cases hj; exact e0
  | 1, hj => cases hj; exact e1
  | 2, hj => cases hj; exact e2
  | 3, hj => cases hj; exact e3
  | 4, hj => cases hj; exact e4
  | 5, hj => cases hj; exact e5
  | _ + 6, hj => cases hj
theorem feats_of_blk {w : World} {b t : Nat} (fs : List Ft) (h : Blk w b t (fs.flatMap (fun f => [Value.string f.name, .int .i64 f.of, .int .i64 f.val])).toArray) (hl : fs.length ≤ maxI) : FeatsIn w (some ⟨b, 0, none⟩) fs := by
  refine ⟨hl, fun _ => ⟨b, 0, rfl, h.lt, fun k hk => ?_⟩⟩
  have key : ∀ (l : List Ft) (k : Nat) (hk : k < l.length) (j : Nat) (v : Value), [Value.string (l[k]).name, .int .i64 (l[k]).of, .int .i64 (l[k]).val][j]? = some v → (l.flatMap (fun f => [Value.string f.name, .int .i64 f.of, .int .i64 f.val]))[k * 3 + j]? = some v := by
    intro l
    induction l with
    | nil => intro k hk; simp at hk
    | cons a r ih =>
      intro k hk j v hj
      match k, hk with
      | 0, _ =>
        have hj3 : j < 3 := (List.getElem?_eq_some_iff.1 hj).1
        rw [List.flatMap_cons, List.getElem?_append_left (by simpa using hj3)]
        simpa using hj
      | k + 1, hk =>
        rw [List.flatMap_cons, List.getElem?_append_right (by simp; omega)]
        have := ih k (by simpa using hk) j v hj
        have e : (k + 1) * 3 + j - [Value.string a.name, .int .i64 a.of, .int .i64 a.val].length = k * 3 + j := by simp; omega
        rw [e]; exact this
  intro j v hj
  have := key fs k hk j v hj
  exact h.cell (by simpa using this)
def smallN : List ByteArray := [⟨#[116, 111, 112]⟩, ⟨#[114, 117, 108, 101]⟩, ⟨#[115, 105, 103, 110]⟩, ⟨#[110, 117, 109]⟩, ⟨#[115, 105, 110, 103]⟩, ⟨#[112, 108, 117, 114]⟩, ⟨#[115]⟩, ⟨#[110, 112]⟩, ⟨#[118, 112]⟩, ⟨#[110]⟩, ⟨#[100, 101, 116]⟩, ⟨#[105, 118]⟩, ⟨#[116, 118]⟩, ⟨#[97, 100, 118]⟩, ⟨#[99, 111, 110, 106]⟩]
def smallP : List Int := [0, 0, 0, 0, 3, 3, 2, 2, 2, 2, 2, 2, 2, 2, 2]
def smallF : List Ft := [⟨⟨#[109, 111, 116, 104, 101, 114]⟩, 1, 2⟩, ⟨⟨#[111, 110, 101]⟩, 1, 2⟩, ⟨⟨#[116, 119, 111]⟩, 1, 2⟩, ⟨⟨#[116, 104, 114, 101, 101]⟩, 1, 2⟩, ⟨⟨#[110, 117, 109]⟩, 2, 3⟩]
def smallT : List Ty := hierL smallN smallP 15

theorem sz30 : (Tryd.prog.info? 30).map (·.size) = some 1 := by kernel_rfl
theorem sz81 : (Tryd.prog.info? 81).map (·.size) = some 10 := by kernel_rfl
theorem ze45 : (Tryd.prog.info? 45).map (·.zero) = some (some (.slice none 0 0)) := by kernel_rfl
theorem ze81 : (Tryd.prog.info? 81).map (·.zero) = some (some (.agg #[.string ⟨#[]⟩, .slice none 0 0, .int .i64 0, .int .i64 0, .int .i64 0, .string ⟨#[]⟩, .int .i64 0, .string ⟨#[]⟩, .slice none 0 0, .slice none 0 0])) := by kernel_rfl
set_option maxHeartbeats 4000000 in
theorem small_r7 {w wc wZ : World} {Z0 b0 b1 b2 b3 b4 b5 b23 bm capt : Nat} {At : Option Addr} {p12 q12 p15 q15 : Value} {csm : Array Value} (hB : Bel w wc) (hFr : FrSame Z0 wZ wc) (hb0 : Blk wc b0 36 #[.slice none 0 0, .slice none 0 0, .slice none 0 0, .slice none 0 0, .slice none 0 0]) (hb1 : Blk wc b1 70 #[.string ⟨#[101]⟩, .slice none 0 0]) (hb2 : Blk wc b2 70 #[.string ⟨#[116]⟩, .slice none 0 0]) (hb3 : Blk wc b3 70 #[p12, q12]) (hb4 : Blk wc b4 70 #[p15, q15]) (hb23 : Blk wc b23 63 (smallF.flatMap (fun f => [Value.string f.name, .int .i64 f.of, .int .i64 f.val])).toArray) (hb5 : Blk wc b5 36 #[.slice At 15 capt, .slice (some ⟨b23, 0, none⟩) 5 5, .slice none 0 0, .slice none 0 0, .slice none 0 0]) (hbm : Blk wc bm 78 csm) (hszm : csm.size = 36) (honm : csm.toList.all (·.oneCell') = true) (h5m : b5 ≠ bm) (z5 : b5 < Z0) (lo5 : w.heap.size ≤ b5) (o0 : b0 < b5) (o1 : b1 < b5) (o2 : b2 < b5) (o3 : b3 < b5) (o4 : b4 < b5) (o23 : b5 < b23)  (f : Fr) (Q : Exit → Act → World → Prop) (k6 : f 6 = .slice (some ⟨bm, 0, none⟩) 6 6) (k5 : f 5 = .pointer (some ⟨b5, 0, none⟩)) : WC Tryd.prog (sl (sr (sr (sr (sr (sr (sr (sr (ob Tryd.f9.body))))))))) (QRS 256 [27, 28, 29, 30, 31, 32, 33, 34, 35, 36, 37, 38, 39, 40, 41, 42, 43, 44, 45, 46, 47, 48, 49, 50, 51, 52, 53, 54, 55, 56, 57, 58, 59, 60, 61, 62, 63, 64, 65, 66, 67, 68, 69, 70, 71, 72, 73, 74, 75, 76, 77, 78, 79, 80, 81, 82, 83, 84, 85, 86, 87, 88, 89, 90, 91, 92, 93, 94] f (fun g w' => Bel w w' ∧ FrSame Z0 wZ w' ∧ Blk w' b0 36 #[.slice none 0 0, .slice none 0 0, .slice none 0 0, .slice none 0 0, .slice none 0 0] ∧ Blk w' b1 70 #[.string ⟨#[101]⟩, .slice none 0 0] ∧ Blk w' b2 70 #[.string ⟨#[116]⟩, .slice none 0 0] ∧ Blk w' b3 70 #[p12, q12] ∧ Blk w' b4 70 #[p15, q15] ∧ Blk w' b23 63 (smallF.flatMap (fun f => [Value.string f.name, .int .i64 f.of, .int .i64 f.val])).toArray ∧ ∃ b93, Blk w' b5 36 #[.slice At 15 capt, .slice (some ⟨b23, 0, none⟩) 5 5, .slice (some ⟨b93, 0, none⟩) 6 6, .slice none 0 0, .slice none 0 0]) Q) 256 f wc := by
  refine c_know 6 (.slice (some ⟨bm, 0, none⟩) 6 6) k6 (by simp [undef]) ?_
  refine c_know 5 (.pointer (some ⟨b5, 0, none⟩)) k5 (by simp [undef]) ?_
  have hsz := Bel.size hB
  refine c_monoTO 67 [27, 28, 29, 30, 31, 32, 33, 34, 35, 36, 37, 38, 39, 40, 41, 42, 43, 44, 45, 46, 47, 48, 49, 50, 51, 52, 53, 54, 55, 56, 57, 58, 59, 60, 61, 62, 63, 64, 65, 66, 67, 68, 69, 70, 71, 72, 73, 74, 75, 76, 77, 78, 79, 80, 81, 82, 83, 84, 85, 86, 87, 88, 89, 90, 91, 92, 93] (fun _ => false) (fun ix v wv => match ix with | 0 => v = .slice (some ⟨bm, 0, none⟩) 6 6 | 1 => v = .pointer (some ⟨bm, 0 + 0 * 6, none⟩) | 2 => ∃ x0 x1 x2 x3 x4 x5, v = .agg #[x0, x1, x2, x3, x4, x5] ∧ x0.oneCell' = true ∧ x1.oneCell' = true ∧ x2.oneCell' = true ∧ x3.oneCell' = true ∧ x4.oneCell' = true ∧ x5.oneCell' = true | 3 => ∃ b, v = .slice (some ⟨b, 0, none⟩) 7 7 ∧ IntsIn wv (some ⟨b, 0, none⟩) [1, 0, 1, 1, 2, 2, 4] | 4 => ∃ b, v = .slice (some ⟨b, 0, none⟩) 1 1 ∧ IntsIn wv (some ⟨b, 0, none⟩) [6] | 5 => ∃ b, v = .slice (some ⟨b, 0, none⟩) 3 3 ∧ IntsIn wv (some ⟨b, 0, none⟩) [7, 4, 3] | 6 => ∃ b, v = .slice (some ⟨b, 0, none⟩) 1 1 ∧ IntsIn wv (some ⟨b, 0, none⟩) [3] | 7 => ∃ b, v = .slice (some ⟨b, 0, none⟩) 3 3 ∧ IntsIn wv (some ⟨b, 0, none⟩) [8, 4, 3] | 8 => ∃ b, v = .slice (some ⟨b, 0, none⟩) 5 5 ∧ RowsIn wv (some ⟨b, 0, none⟩) [[1, 0, 1, 1, 2, 2, 4], [6], [7, 4, 3], [3], [8, 4, 3]] | 9 => ∃ x0, v = .agg #[x0] ∧ x0.oneCell' = true | 10 => ∃ x0 x1 x2 x3 x4 x5 x6 x7 x8 x9, v = .agg #[x0, x1, x2, x3, x4, x5, x6, x7, x8, x9] ∧ x0.oneCell' = true ∧ x1.oneCell' = true ∧ x2.oneCell' = true ∧ x3.oneCell' = true ∧ x4.oneCell' = true ∧ x5.oneCell' = true ∧ x6.oneCell' = true ∧ x7.oneCell' = true ∧ x8.oneCell' = true ∧ x9.oneCell' = true | 11 => v = .slice (some ⟨bm, 0, none⟩) 6 6 | 12 => v = .pointer (some ⟨bm, 0 + 1 * 6, none⟩) | 13 => ∃ x0 x1 x2 x3 x4 x5, v = .agg #[x0, x1, x2, x3, x4, x5] ∧ x0.oneCell' = true ∧ x1.oneCell' = true ∧ x2.oneCell' = true ∧ x3.oneCell' = true ∧ x4.oneCell' = true ∧ x5.oneCell' = true | 14 => ∃ b, v = .slice (some ⟨b, 0, none⟩) 7 7 ∧ IntsIn wv (some ⟨b, 0, none⟩) [1, 0, 1, 1, 3, 2, 4] | 15 => ∃ b, v = .slice (some ⟨b, 0, none⟩) 3 3 ∧ IntsIn wv (some ⟨b, 0, none⟩) [7, 4, 2] | 16 => ∃ b, v = .slice (some ⟨b, 0, none⟩) 1 1 ∧ IntsIn wv (some ⟨b, 0, none⟩) [3] | 17 => ∃ b, v = .slice (some ⟨b, 0, none⟩) 3 3 ∧ IntsIn wv (some ⟨b, 0, none⟩) [10, 4, 2] | 18 => ∃ b, v = .slice (some ⟨b, 0, none⟩) 3 3 ∧ IntsIn wv (some ⟨b, 0, none⟩) [9, 4, 2] | 19 => ∃ b, v = .slice (some ⟨b, 0, none⟩) 5 5 ∧ RowsIn wv (some ⟨b, 0, none⟩) [[1, 0, 1, 1, 3, 2, 4], [7, 4, 2], [3], [10, 4, 2], [9, 4, 2]] | 20 => ∃ x0, v = .agg #[x0] ∧ x0.oneCell' = true | 21 => ∃ x0 x1 x2 x3 x4 x5 x6 x7 x8 x9, v = .agg #[x0, x1, x2, x3, x4, x5, x6, x7, x8, x9] ∧ x0.oneCell' = true ∧ x1.oneCell' = true ∧ x2.oneCell' = true ∧ x3.oneCell' = true ∧ x4.oneCell' = true ∧ x5.oneCell' = true ∧ x6.oneCell' = true ∧ x7.oneCell' = true ∧ x8.oneCell' = true ∧ x9.oneCell' = true | 22 => v = .slice (some ⟨bm, 0, none⟩) 6 6 | 23 => v = .pointer (some ⟨bm, 0 + 2 * 6, none⟩) | 24 => ∃ x0 x1 x2 x3 x4 x5, v = .agg #[x0, x1, x2, x3, x4, x5] ∧ x0.oneCell' = true ∧ x1.oneCell' = true ∧ x2.oneCell' = true ∧ x3.oneCell' = true ∧ x4.oneCell' = true ∧ x5.oneCell' = true | 25 => ∃ b, v = .slice (some ⟨b, 0, none⟩) 5 5 ∧ IntsIn wv (some ⟨b, 0, none⟩) [1, 0, 1, 1, 3] | 26 => ∃ b, v = .slice (some ⟨b, 0, none⟩) 3 3 ∧ IntsIn wv (some ⟨b, 0, none⟩) [8, 4, 2] | 27 => ∃ b, v = .slice (some ⟨b, 0, none⟩) 1 1 ∧ IntsIn wv (some ⟨b, 0, none⟩) [3] | 28 => ∃ b, v = .slice (some ⟨b, 0, none⟩) 3 3 ∧ IntsIn wv (some ⟨b, 0, none⟩) [11, 4, 2] | 29 => ∃ b, v = .slice (some ⟨b, 0, none⟩) 4 4 ∧ RowsIn wv (some ⟨b, 0, none⟩) [[1, 0, 1, 1, 3], [8, 4, 2], [3], [11, 4, 2]] | 30 => ∃ x0, v = .agg #[x0] ∧ x0.oneCell' = true | 31 => ∃ x0 x1 x2 x3 x4 x5 x6 x7 x8 x9, v = .agg #[x0, x1, x2, x3, x4, x5, x6, x7, x8, x9] ∧ x0.oneCell' = true ∧ x1.oneCell' = true ∧ x2.oneCell' = true ∧ x3.oneCell' = true ∧ x4.oneCell' = true ∧ x5.oneCell' = true ∧ x6.oneCell' = true ∧ x7.oneCell' = true ∧ x8.oneCell' = true ∧ x9.oneCell' = true | 32 => v = .slice (some ⟨bm, 0, none⟩) 6 6 | 33 => v = .pointer (some ⟨bm, 0 + 3 * 6, none⟩) | 34 => ∃ x0 x1 x2 x3 x4 x5, v = .agg #[x0, x1, x2, x3, x4, x5] ∧ x0.oneCell' = true ∧ x1.oneCell' = true ∧ x2.oneCell' = true ∧ x3.oneCell' = true ∧ x4.oneCell' = true ∧ x5.oneCell' = true | 35 => ∃ b, v = .slice (some ⟨b, 0, none⟩) 7 7 ∧ IntsIn wv (some ⟨b, 0, none⟩) [1, 0, 1, 1, 3, 2, 4] | 36 => ∃ b, v = .slice (some ⟨b, 0, none⟩) 3 3 ∧ IntsIn wv (some ⟨b, 0, none⟩) [8, 4, 2] | 37 => ∃ b, v = .slice (some ⟨b, 0, none⟩) 1 1 ∧ IntsIn wv (some ⟨b, 0, none⟩) [3] | 38 => ∃ b, v = .slice (some ⟨b, 0, none⟩) 3 3 ∧ IntsIn wv (some ⟨b, 0, none⟩) [12, 4, 2] | 39 => ∃ b, v = .slice (some ⟨b, 0, none⟩) 1 1 ∧ IntsIn wv (some ⟨b, 0, none⟩) [7] | 40 => ∃ b, v = .slice (some ⟨b, 0, none⟩) 5 5 ∧ RowsIn wv (some ⟨b, 0, none⟩) [[1, 0, 1, 1, 3, 2, 4], [8, 4, 2], [3], [12, 4, 2], [7]] | 41 => ∃ x0, v = .agg #[x0] ∧ x0.oneCell' = true | 42 => ∃ x0 x1 x2 x3 x4 x5 x6 x7 x8 x9, v = .agg #[x0, x1, x2, x3, x4, x5, x6, x7, x8, x9] ∧ x0.oneCell' = true ∧ x1.oneCell' = true ∧ x2.oneCell' = true ∧ x3.oneCell' = true ∧ x4.oneCell' = true ∧ x5.oneCell' = true ∧ x6.oneCell' = true ∧ x7.oneCell' = true ∧ x8.oneCell' = true ∧ x9.oneCell' = true | 43 => v = .slice (some ⟨bm, 0, none⟩) 6 6 | 44 => v = .pointer (some ⟨bm, 0 + 4 * 6, none⟩) | 45 => ∃ x0 x1 x2 x3 x4 x5, v = .agg #[x0, x1, x2, x3, x4, x5] ∧ x0.oneCell' = true ∧ x1.oneCell' = true ∧ x2.oneCell' = true ∧ x3.oneCell' = true ∧ x4.oneCell' = true ∧ x5.oneCell' = true | 46 => ∃ b, v = .slice (some ⟨b, 0, none⟩) 7 7 ∧ IntsIn wv (some ⟨b, 0, none⟩) [1, 0, 1, 1, 3, 2, 4] | 47 => ∃ b, v = .slice (some ⟨b, 0, none⟩) 3 3 ∧ IntsIn wv (some ⟨b, 0, none⟩) [8, 4, 2] | 48 => ∃ b, v = .slice (some ⟨b, 0, none⟩) 1 1 ∧ IntsIn wv (some ⟨b, 0, none⟩) [3] | 49 => ∃ b, v = .slice (some ⟨b, 0, none⟩) 1 1 ∧ IntsIn wv (some ⟨b, 0, none⟩) [13] | 50 => ∃ b, v = .slice (some ⟨b, 0, none⟩) 3 3 ∧ IntsIn wv (some ⟨b, 0, none⟩) [8, 4, 2] | 51 => ∃ b, v = .slice (some ⟨b, 0, none⟩) 5 5 ∧ RowsIn wv (some ⟨b, 0, none⟩) [[1, 0, 1, 1, 3, 2, 4], [8, 4, 2], [3], [13], [8, 4, 2]] | 52 => ∃ x0, v = .agg #[x0] ∧ x0.oneCell' = true | 53 => ∃ x0 x1 x2 x3 x4 x5 x6 x7 x8 x9, v = .agg #[x0, x1, x2, x3, x4, x5, x6, x7, x8, x9] ∧ x0.oneCell' = true ∧ x1.oneCell' = true ∧ x2.oneCell' = true ∧ x3.oneCell' = true ∧ x4.oneCell' = true ∧ x5.oneCell' = true ∧ x6.oneCell' = true ∧ x7.oneCell' = true ∧ x8.oneCell' = true ∧ x9.oneCell' = true | 54 => v = .slice (some ⟨bm, 0, none⟩) 6 6 | 55 => v = .pointer (some ⟨bm, 0 + 5 * 6, none⟩) | 56 => ∃ x0 x1 x2 x3 x4 x5, v = .agg #[x0, x1, x2, x3, x4, x5] ∧ x0.oneCell' = true ∧ x1.oneCell' = true ∧ x2.oneCell' = true ∧ x3.oneCell' = true ∧ x4.oneCell' = true ∧ x5.oneCell' = true | 57 => ∃ b, v = .slice (some ⟨b, 0, none⟩) 9 9 ∧ IntsIn wv (some ⟨b, 0, none⟩) [1, 0, 1, 1, 3, 2, 4, 3, 5] | 58 => ∃ b, v = .slice (some ⟨b, 0, none⟩) 3 3 ∧ IntsIn wv (some ⟨b, 0, none⟩) [7, 4, 2] | 59 => ∃ b, v = .slice (some ⟨b, 0, none⟩) 1 1 ∧ IntsIn wv (some ⟨b, 0, none⟩) [5] | 60 => ∃ b, v = .slice (some ⟨b, 0, none⟩) 1 1 ∧ IntsIn wv (some ⟨b, 0, none⟩) [7] | 61 => ∃ b, v = .slice (some ⟨b, 0, none⟩) 1 1 ∧ IntsIn wv (some ⟨b, 0, none⟩) [14] | 62 => ∃ b, v = .slice (some ⟨b, 0, none⟩) 1 1 ∧ IntsIn wv (some ⟨b, 0, none⟩) [7] | 63 => ∃ b, v = .slice (some ⟨b, 0, none⟩) 6 6 ∧ RowsIn wv (some ⟨b, 0, none⟩) [[1, 0, 1, 1, 3, 2, 4, 3, 5], [7, 4, 2], [5], [7], [14], [7]] | 64 => ∃ x0, v = .agg #[x0] ∧ x0.oneCell' = true | 65 => ∃ x0 x1 x2 x3 x4 x5 x6 x7 x8 x9, v = .agg #[x0, x1, x2, x3, x4, x5, x6, x7, x8, x9] ∧ x0.oneCell' = true ∧ x1.oneCell' = true ∧ x2.oneCell' = true ∧ x3.oneCell' = true ∧ x4.oneCell' = true ∧ x5.oneCell' = true ∧ x6.oneCell' = true ∧ x7.oneCell' = true ∧ x8.oneCell' = true ∧ x9.oneCell' = true | 66 => ∃ b, v = .slice (some ⟨b, 0, none⟩) 6 6 | _ => True) (by kernel_rfl) (by kernel_rfl) ?_ ?_ ?_
  · intro ix v wv wv2 h hs
    match ix, h with
    | 0, h => exact h
    | 1, h => exact h
    | 2, h => exact h
    | 3, h =>
      obtain ⟨b30, e30, hin30⟩ := (show ∃ b, v = .slice (some ⟨b, 0, none⟩) 7 7 ∧ IntsIn wv (some ⟨b, 0, none⟩) [1, 0, 1, 1, 2, 2, 4] from h)
      exact ⟨b30, e30, hin30.mono hs.bel⟩
    | 4, h =>
      obtain ⟨b31, e31, hin31⟩ := (show ∃ b, v = .slice (some ⟨b, 0, none⟩) 1 1 ∧ IntsIn wv (some ⟨b, 0, none⟩) [6] from h)
      exact ⟨b31, e31, hin31.mono hs.bel⟩
    | 5, h =>
      obtain ⟨b32, e32, hin32⟩ := (show ∃ b, v = .slice (some ⟨b, 0, none⟩) 3 3 ∧ IntsIn wv (some ⟨b, 0, none⟩) [7, 4, 3] from h)
      exact ⟨b32, e32, hin32.mono hs.bel⟩
    | 6, h =>
      obtain ⟨b33, e33, hin33⟩ := (show ∃ b, v = .slice (some ⟨b, 0, none⟩) 1 1 ∧ IntsIn wv (some ⟨b, 0, none⟩) [3] from h)
      exact ⟨b33, e33, hin33.mono hs.bel⟩
    | 7, h =>
      obtain ⟨b34, e34, hin34⟩ := (show ∃ b, v = .slice (some ⟨b, 0, none⟩) 3 3 ∧ IntsIn wv (some ⟨b, 0, none⟩) [8, 4, 3] from h)
      exact ⟨b34, e34, hin34.mono hs.bel⟩
    | 8, h =>
      obtain ⟨b35, e35, hrw35⟩ := (show ∃ b, v = .slice (some ⟨b, 0, none⟩) 5 5 ∧ RowsIn wv (some ⟨b, 0, none⟩) [[1, 0, 1, 1, 2, 2, 4], [6], [7, 4, 3], [3], [8, 4, 3]] from h)
      exact ⟨b35, e35, hrw35.mono hs.bel⟩
    | 9, h => exact h
    | 10, h => exact h
    | 11, h => exact h
    | 12, h => exact h
    | 13, h => exact h
    | 14, h =>
      obtain ⟨b41, e41, hin41⟩ := (show ∃ b, v = .slice (some ⟨b, 0, none⟩) 7 7 ∧ IntsIn wv (some ⟨b, 0, none⟩) [1, 0, 1, 1, 3, 2, 4] from h)
      exact ⟨b41, e41, hin41.mono hs.bel⟩
    | 15, h =>
      obtain ⟨b42, e42, hin42⟩ := (show ∃ b, v = .slice (some ⟨b, 0, none⟩) 3 3 ∧ IntsIn wv (some ⟨b, 0, none⟩) [7, 4, 2] from h)
      exact ⟨b42, e42, hin42.mono hs.bel⟩
    | 16, h =>
      obtain ⟨b43, e43, hin43⟩ := (show ∃ b, v = .slice (some ⟨b, 0, none⟩) 1 1 ∧ IntsIn wv (some ⟨b, 0, none⟩) [3] from h)
      exact ⟨b43, e43, hin43.mono hs.bel⟩
    | 17, h =>
      obtain ⟨b44, e44, hin44⟩ := (show ∃ b, v = .slice (some ⟨b, 0, none⟩) 3 3 ∧ IntsIn wv (some ⟨b, 0, none⟩) [10, 4, 2] from h)
      exact ⟨b44, e44, hin44.mono hs.bel⟩
    | 18, h =>
      obtain ⟨b45, e45, hin45⟩ := (show ∃ b, v = .slice (some ⟨b, 0, none⟩) 3 3 ∧ IntsIn wv (some ⟨b, 0, none⟩) [9, 4, 2] from h)
      exact ⟨b45, e45, hin45.mono hs.bel⟩
    | 19, h =>
      obtain ⟨b46, e46, hrw46⟩ := (show ∃ b, v = .slice (some ⟨b, 0, none⟩) 5 5 ∧ RowsIn wv (some ⟨b, 0, none⟩) [[1, 0, 1, 1, 3, 2, 4], [7, 4, 2], [3], [10, 4, 2], [9, 4, 2]] from h)
      exact ⟨b46, e46, hrw46.mono hs.bel⟩
    | 20, h => exact h
    | 21, h => exact h
    | 22, h => exact h
    | 23, h => exact h
    | 24, h => exact h
    | 25, h =>
      obtain ⟨b52, e52, hin52⟩ := (show ∃ b, v = .slice (some ⟨b, 0, none⟩) 5 5 ∧ IntsIn wv (some ⟨b, 0, none⟩) [1, 0, 1, 1, 3] from h)
      exact ⟨b52, e52, hin52.mono hs.bel⟩
    | 26, h =>
      obtain ⟨b53, e53, hin53⟩ := (show ∃ b, v = .slice (some ⟨b, 0, none⟩) 3 3 ∧ IntsIn wv (some ⟨b, 0, none⟩) [8, 4, 2] from h)
      exact ⟨b53, e53, hin53.mono hs.bel⟩
    | 27, h =>
      obtain ⟨b54, e54, hin54⟩ := (show ∃ b, v = .slice (some ⟨b, 0, none⟩) 1 1 ∧ IntsIn wv (some ⟨b, 0, none⟩) [3] from h)
      exact ⟨b54, e54, hin54.mono hs.bel⟩
    | 28, h =>
      obtain ⟨b55, e55, hin55⟩ := (show ∃ b, v = .slice (some ⟨b, 0, none⟩) 3 3 ∧ IntsIn wv (some ⟨b, 0, none⟩) [11, 4, 2] from h)
      exact ⟨b55, e55, hin55.mono hs.bel⟩
    | 29, h =>
      obtain ⟨b56, e56, hrw56⟩ := (show ∃ b, v = .slice (some ⟨b, 0, none⟩) 4 4 ∧ RowsIn wv (some ⟨b, 0, none⟩) [[1, 0, 1, 1, 3], [8, 4, 2], [3], [11, 4, 2]] from h)
      exact ⟨b56, e56, hrw56.mono hs.bel⟩
    | 30, h => exact h
    | 31, h => exact h
    | 32, h => exact h
    | 33, h => exact h
    | 34, h => exact h
    | 35, h =>
      obtain ⟨b62, e62, hin62⟩ := (show ∃ b, v = .slice (some ⟨b, 0, none⟩) 7 7 ∧ IntsIn wv (some ⟨b, 0, none⟩) [1, 0, 1, 1, 3, 2, 4] from h)
      exact ⟨b62, e62, hin62.mono hs.bel⟩
    | 36, h =>
      obtain ⟨b63, e63, hin63⟩ := (show ∃ b, v = .slice (some ⟨b, 0, none⟩) 3 3 ∧ IntsIn wv (some ⟨b, 0, none⟩) [8, 4, 2] from h)
      exact ⟨b63, e63, hin63.mono hs.bel⟩
    | 37, h =>
      obtain ⟨b64, e64, hin64⟩ := (show ∃ b, v = .slice (some ⟨b, 0, none⟩) 1 1 ∧ IntsIn wv (some ⟨b, 0, none⟩) [3] from h)
      exact ⟨b64, e64, hin64.mono hs.bel⟩
    | 38, h =>
      obtain ⟨b65, e65, hin65⟩ := (show ∃ b, v = .slice (some ⟨b, 0, none⟩) 3 3 ∧ IntsIn wv (some ⟨b, 0, none⟩) [12, 4, 2] from h)
      exact ⟨b65, e65, hin65.mono hs.bel⟩
    | 39, h =>
      obtain ⟨b66, e66, hin66⟩ := (show ∃ b, v = .slice (some ⟨b, 0, none⟩) 1 1 ∧ IntsIn wv (some ⟨b, 0, none⟩) [7] from h)
      exact ⟨b66, e66, hin66.mono hs.bel⟩
    | 40, h =>
      obtain ⟨b67, e67, hrw67⟩ := (show ∃ b, v = .slice (some ⟨b, 0, none⟩) 5 5 ∧ RowsIn wv (some ⟨b, 0, none⟩) [[1, 0, 1, 1, 3, 2, 4], [8, 4, 2], [3], [12, 4, 2], [7]] from h)
      exact ⟨b67, e67, hrw67.mono hs.bel⟩
    | 41, h => exact h
    | 42, h => exact h
    | 43, h => exact h
    | 44, h => exact h
    | 45, h => exact h
    | 46, h =>
      obtain ⟨b73, e73, hin73⟩ := (show ∃ b, v = .slice (some ⟨b, 0, none⟩) 7 7 ∧ IntsIn wv (some ⟨b, 0, none⟩) [1, 0, 1, 1, 3, 2, 4] from h)
      exact ⟨b73, e73, hin73.mono hs.bel⟩
    | 47, h =>
      obtain ⟨b74, e74, hin74⟩ := (show ∃ b, v = .slice (some ⟨b, 0, none⟩) 3 3 ∧ IntsIn wv (some ⟨b, 0, none⟩) [8, 4, 2] from h)
      exact ⟨b74, e74, hin74.mono hs.bel⟩
    | 48, h =>
      obtain ⟨b75, e75, hin75⟩ := (show ∃ b, v = .slice (some ⟨b, 0, none⟩) 1 1 ∧ IntsIn wv (some ⟨b, 0, none⟩) [3] from h)
      exact ⟨b75, e75, hin75.mono hs.bel⟩
    | 49, h =>
      obtain ⟨b76, e76, hin76⟩ := (show ∃ b, v = .slice (some ⟨b, 0, none⟩) 1 1 ∧ IntsIn wv (some ⟨b, 0, none⟩) [13] from h)
      exact ⟨b76, e76, hin76.mono hs.bel⟩
    | 50, h =>
      obtain ⟨b77, e77, hin77⟩ := (show ∃ b, v = .slice (some ⟨b, 0, none⟩) 3 3 ∧ IntsIn wv (some ⟨b, 0, none⟩) [8, 4, 2] from h)
      exact ⟨b77, e77, hin77.mono hs.bel⟩
    | 51, h =>
      obtain ⟨b78, e78, hrw78⟩ := (show ∃ b, v = .slice (some ⟨b, 0, none⟩) 5 5 ∧ RowsIn wv (some ⟨b, 0, none⟩) [[1, 0, 1, 1, 3, 2, 4], [8, 4, 2], [3], [13], [8, 4, 2]] from h)
      exact ⟨b78, e78, hrw78.mono hs.bel⟩
    | 52, h => exact h
    | 53, h => exact h
    | 54, h => exact h
    | 55, h => exact h
    | 56, h => exact h
    | 57, h =>
      obtain ⟨b84, e84, hin84⟩ := (show ∃ b, v = .slice (some ⟨b, 0, none⟩) 9 9 ∧ IntsIn wv (some ⟨b, 0, none⟩) [1, 0, 1, 1, 3, 2, 4, 3, 5] from h)
      exact ⟨b84, e84, hin84.mono hs.bel⟩
    | 58, h =>
      obtain ⟨b85, e85, hin85⟩ := (show ∃ b, v = .slice (some ⟨b, 0, none⟩) 3 3 ∧ IntsIn wv (some ⟨b, 0, none⟩) [7, 4, 2] from h)
      exact ⟨b85, e85, hin85.mono hs.bel⟩
    | 59, h =>
      obtain ⟨b86, e86, hin86⟩ := (show ∃ b, v = .slice (some ⟨b, 0, none⟩) 1 1 ∧ IntsIn wv (some ⟨b, 0, none⟩) [5] from h)
      exact ⟨b86, e86, hin86.mono hs.bel⟩
    | 60, h =>
      obtain ⟨b87, e87, hin87⟩ := (show ∃ b, v = .slice (some ⟨b, 0, none⟩) 1 1 ∧ IntsIn wv (some ⟨b, 0, none⟩) [7] from h)
      exact ⟨b87, e87, hin87.mono hs.bel⟩
    | 61, h =>
      obtain ⟨b88, e88, hin88⟩ := (show ∃ b, v = .slice (some ⟨b, 0, none⟩) 1 1 ∧ IntsIn wv (some ⟨b, 0, none⟩) [14] from h)
      exact ⟨b88, e88, hin88.mono hs.bel⟩
    | 62, h =>
      obtain ⟨b89, e89, hin89⟩ := (show ∃ b, v = .slice (some ⟨b, 0, none⟩) 1 1 ∧ IntsIn wv (some ⟨b, 0, none⟩) [7] from h)
      exact ⟨b89, e89, hin89.mono hs.bel⟩
    | 63, h =>
      obtain ⟨b90, e90, hrw90⟩ := (show ∃ b, v = .slice (some ⟨b, 0, none⟩) 6 6 ∧ RowsIn wv (some ⟨b, 0, none⟩) [[1, 0, 1, 1, 3, 2, 4, 3, 5], [7, 4, 2], [5], [7], [14], [7]] from h)
      exact ⟨b90, e90, hrw90.mono hs.bel⟩
    | 64, h => exact h
    | 65, h => exact h
    | 66, h => exact h
    | _ + 67, h => exact trivial
  · intro ix o hix hoq gg wx hs hd hdis
    match ix, hix, hoq with
    | 0, _, hoq =>
      obtain rfl : _ = o := Option.some.inj hoq
      have hs0 := hs
      replace hB := hB.tr0 hs
      replace hFr := hFr.of hs (by simp)
      replace hb0 := hb0.tr0 hs
      replace hb1 := hb1.tr0 hs
      replace hb2 := hb2.tr0 hs
      replace hb3 := hb3.tr0 hs
      replace hb4 := hb4.tr0 hs
      replace hb23 := hb23.tr0 hs
      replace hb5 := hb5.tr0 hs
      replace hbm := hbm.tr0 hs
      clear hs
      refine os_rv (r_mv (v := .slice _ _ _) rfl) ⟨Same.refl _ _, ?_, frsh_no⟩
      exact rfl
    | 1, _, hoq =>
      obtain rfl : _ = o := Option.some.inj hoq
      have hs0 := hs
      replace hB := hB.tr0 hs
      replace hFr := hFr.of hs (by simp)
      replace hb0 := hb0.tr0 hs
      replace hb1 := hb1.tr0 hs
      replace hb2 := hb2.tr0 hs
      replace hb3 := hb3.tr0 hs
      replace hb4 := hb4.tr0 hs
      replace hb23 := hb23.tr0 hs
      replace hb5 := hb5.tr0 hs
      replace hbm := hbm.tr0 hs
      clear hs
      have d0 : gg 27 = .slice (some ⟨bm, 0, none⟩) 6 6 := hd 0 (dep_of (by kernel_rfl))
      have e27 := d0
      refine os_know 27 (.slice (some ⟨bm, 0, none⟩) 6 6) e27 (by simp [undef]) ?_
      refine os_rv (r_ia (i := 0) Tryd.underlying75 sz78 rfl rfl (by decide) rfl) ⟨Same.refl _ _, ?_, frsh_no⟩
      exact rfl
    | 2, _, hoq =>
      obtain rfl : _ = o := Option.some.inj hoq
      have hs0 := hs
      replace hB := hB.tr0 hs
      replace hFr := hFr.of hs (by simp)
      replace hb0 := hb0.tr0 hs
      replace hb1 := hb1.tr0 hs
      replace hb2 := hb2.tr0 hs
      replace hb3 := hb3.tr0 hs
      replace hb4 := hb4.tr0 hs
      replace hb23 := hb23.tr0 hs
      replace hb5 := hb5.tr0 hs
      replace hbm := hbm.tr0 hs
      clear hs
      have d1 : gg 28 = .pointer (some ⟨bm, 0 + 0 * 6, none⟩) := hd 1 (dep_of (by kernel_rfl))
      have e28 := d1
      obtain ⟨z0, z1, z2, z3, z4, z5, hrg, oz0, oz1, oz2, oz3, oz4, oz5⟩ := blk_six (i := 0) hbm (by rw [hszm]; decide) honm
      refine os_know 28 (.pointer (some ⟨bm, 0 + 0 * 6, none⟩)) e28 (by simp [undef]) ?_
      refine os_rv (r_ldS Tryd.underlying78 rfl rfl hrg sz78) ⟨Same.refl _ _, ?_, frsh_no⟩
      exact ⟨_, _, _, _, _, _, rfl, (by first | rfl | assumption), (by first | rfl | assumption), (by first | rfl | assumption), (by first | rfl | assumption), (by first | rfl | assumption), (by first | rfl | assumption)⟩
    | 3, _, hoq =>
      obtain rfl : _ = o := Option.some.inj hoq
      have hs0 := hs
      replace hB := hB.tr0 hs
      replace hFr := hFr.of hs (by simp)
      replace hb0 := hb0.tr0 hs
      replace hb1 := hb1.tr0 hs
      replace hb2 := hb2.tr0 hs
      replace hb3 := hb3.tr0 hs
      replace hb4 := hb4.tr0 hs
      replace hb23 := hb23.tr0 hs
      replace hb5 := hb5.tr0 hs
      replace hbm := hbm.tr0 hs
      clear hs
      refine os_wl (fun ops Q K => ?_)
      refine wl_bs (cs := #[_, _, _, _, _, _, _]) [(0, .int _ _), (1, .int _ _), (2, .int _ _), (3, .int _ _), (4, .int _ _), (5, .int _ _), (6, .int _ _)] rfl Tryd.underlying45 sz3 ze3 (by decide) (by decide) (by kernel_rfl) rfl (fun b30 w1 hb30 hs hr => ?_)
      exact K _ _ ⟨hs, ⟨_, rfl, ints_of_blk [1, 0, 1, 1, 2, 2, 4] hb30 (by decide)⟩, fun _ g hg => by cases hg; exact ⟨hr, hb30.lt⟩⟩
    | 4, _, hoq =>
      obtain rfl : _ = o := Option.some.inj hoq
      have hs0 := hs
      replace hB := hB.tr0 hs
      replace hFr := hFr.of hs (by simp)
      replace hb0 := hb0.tr0 hs
      replace hb1 := hb1.tr0 hs
      replace hb2 := hb2.tr0 hs
      replace hb3 := hb3.tr0 hs
      replace hb4 := hb4.tr0 hs
      replace hb23 := hb23.tr0 hs
      replace hb5 := hb5.tr0 hs
      replace hbm := hbm.tr0 hs
      clear hs
      refine os_wl (fun ops Q K => ?_)
      refine wl_bs (cs := #[_]) [(0, .int _ _)] rfl Tryd.underlying45 sz3 ze3 (by decide) (by decide) (by kernel_rfl) rfl (fun b31 w2 hb31 hs hr => ?_)
      exact K _ _ ⟨hs, ⟨_, rfl, ints_of_blk [6] hb31 (by decide)⟩, fun _ g hg => by cases hg; exact ⟨hr, hb31.lt⟩⟩
    | 5, _, hoq =>
      obtain rfl : _ = o := Option.some.inj hoq
      have hs0 := hs
      replace hB := hB.tr0 hs
      replace hFr := hFr.of hs (by simp)
      replace hb0 := hb0.tr0 hs
      replace hb1 := hb1.tr0 hs
      replace hb2 := hb2.tr0 hs
      replace hb3 := hb3.tr0 hs
      replace hb4 := hb4.tr0 hs
      replace hb23 := hb23.tr0 hs
      replace hb5 := hb5.tr0 hs
      replace hbm := hbm.tr0 hs
      clear hs
      refine os_wl (fun ops Q K => ?_)
      refine wl_bs (cs := #[_, _, _]) [(0, .int _ _), (1, .int _ _), (2, .int _ _)] rfl Tryd.underlying45 sz3 ze3 (by decide) (by decide) (by kernel_rfl) rfl (fun b32 w3 hb32 hs hr => ?_)
      exact K _ _ ⟨hs, ⟨_, rfl, ints_of_blk [7, 4, 3] hb32 (by decide)⟩, fun _ g hg => by cases hg; exact ⟨hr, hb32.lt⟩⟩
    | 6, _, hoq =>
      obtain rfl : _ = o := Option.some.inj hoq
      have hs0 := hs
      replace hB := hB.tr0 hs
      replace hFr := hFr.of hs (by simp)
      replace hb0 := hb0.tr0 hs
      replace hb1 := hb1.tr0 hs
      replace hb2 := hb2.tr0 hs
      replace hb3 := hb3.tr0 hs
      replace hb4 := hb4.tr0 hs
      replace hb23 := hb23.tr0 hs
      replace hb5 := hb5.tr0 hs
      replace hbm := hbm.tr0 hs
      clear hs
      refine os_wl (fun ops Q K => ?_)
      refine wl_bs (cs := #[_]) [(0, .int _ _)] rfl Tryd.underlying45 sz3 ze3 (by decide) (by decide) (by kernel_rfl) rfl (fun b33 w4 hb33 hs hr => ?_)
      exact K _ _ ⟨hs, ⟨_, rfl, ints_of_blk [3] hb33 (by decide)⟩, fun _ g hg => by cases hg; exact ⟨hr, hb33.lt⟩⟩
    | 7, _, hoq =>
      obtain rfl : _ = o := Option.some.inj hoq
      have hs0 := hs
      replace hB := hB.tr0 hs
      replace hFr := hFr.of hs (by simp)
      replace hb0 := hb0.tr0 hs
      replace hb1 := hb1.tr0 hs
      replace hb2 := hb2.tr0 hs
      replace hb3 := hb3.tr0 hs
      replace hb4 := hb4.tr0 hs
      replace hb23 := hb23.tr0 hs
      replace hb5 := hb5.tr0 hs
      replace hbm := hbm.tr0 hs
      clear hs
      refine os_wl (fun ops Q K => ?_)
      refine wl_bs (cs := #[_, _, _]) [(0, .int _ _), (1, .int _ _), (2, .int _ _)] rfl Tryd.underlying45 sz3 ze3 (by decide) (by decide) (by kernel_rfl) rfl (fun b34 w5 hb34 hs hr => ?_)
      exact K _ _ ⟨hs, ⟨_, rfl, ints_of_blk [8, 4, 3] hb34 (by decide)⟩, fun _ g hg => by cases hg; exact ⟨hr, hb34.lt⟩⟩
    | 8, _, hoq =>
      obtain rfl : _ = o := Option.some.inj hoq
      have hs0 := hs
      replace hB := hB.tr0 hs
      replace hFr := hFr.of hs (by simp)
      replace hb0 := hb0.tr0 hs
      replace hb1 := hb1.tr0 hs
      replace hb2 := hb2.tr0 hs
      replace hb3 := hb3.tr0 hs
      replace hb4 := hb4.tr0 hs
      replace hb23 := hb23.tr0 hs
      replace hb5 := hb5.tr0 hs
      replace hbm := hbm.tr0 hs
      clear hs
      have d3 : ∃ b, gg 30 = .slice (some ⟨b, 0, none⟩) 7 7 ∧ IntsIn wx (some ⟨b, 0, none⟩) [1, 0, 1, 1, 2, 2, 4] := hd 3 (dep_of (by kernel_rfl))
      obtain ⟨b30, e30, hin30⟩ := d3
      have d4 : ∃ b, gg 31 = .slice (some ⟨b, 0, none⟩) 1 1 ∧ IntsIn wx (some ⟨b, 0, none⟩) [6] := hd 4 (dep_of (by kernel_rfl))
      obtain ⟨b31, e31, hin31⟩ := d4
      have d5 : ∃ b, gg 32 = .slice (some ⟨b, 0, none⟩) 3 3 ∧ IntsIn wx (some ⟨b, 0, none⟩) [7, 4, 3] := hd 5 (dep_of (by kernel_rfl))
      obtain ⟨b32, e32, hin32⟩ := d5
      have d6 : ∃ b, gg 33 = .slice (some ⟨b, 0, none⟩) 1 1 ∧ IntsIn wx (some ⟨b, 0, none⟩) [3] := hd 6 (dep_of (by kernel_rfl))
      obtain ⟨b33, e33, hin33⟩ := d6
      have d7 : ∃ b, gg 34 = .slice (some ⟨b, 0, none⟩) 3 3 ∧ IntsIn wx (some ⟨b, 0, none⟩) [8, 4, 3] := hd 7 (dep_of (by kernel_rfl))
      obtain ⟨b34, e34, hin34⟩ := d7
      refine os_know 30 (.slice (some ⟨b30, 0, none⟩) 7 7) e30 (by simp [undef]) ?_
      refine os_know 31 (.slice (some ⟨b31, 0, none⟩) 1 1) e31 (by simp [undef]) ?_
      refine os_know 32 (.slice (some ⟨b32, 0, none⟩) 3 3) e32 (by simp [undef]) ?_
      refine os_know 33 (.slice (some ⟨b33, 0, none⟩) 1 1) e33 (by simp [undef]) ?_
      refine os_know 34 (.slice (some ⟨b34, 0, none⟩) 3 3) e34 (by simp [undef]) ?_
      refine os_wl (fun ops Q K => ?_)
      refine wl_bs (cs := #[_, _, _, _, _]) [(0, .slice _ _ _), (1, .slice _ _ _), (2, .slice _ _ _), (3, .slice _ _ _), (4, .slice _ _ _)] rfl Tryd.underlying82 sz45 ze45 (by decide) (by decide) (by kernel_rfl) rfl (fun b35 w6 hb35 hs hr => ?_)
      exact K _ _ ⟨hs, ⟨_, rfl, rows_of_blk (rs := [[1, 0, 1, 1, 2, 2, 4], [6], [7, 4, 3], [3], [8, 4, 3]]) hb35 (.cons ⟨_, _, rfl, hin30.mono hs.bel, by decide, by decide⟩ (.cons ⟨_, _, rfl, hin31.mono hs.bel, by decide, by decide⟩ (.cons ⟨_, _, rfl, hin32.mono hs.bel, by decide, by decide⟩ (.cons ⟨_, _, rfl, hin33.mono hs.bel, by decide, by decide⟩ (.cons ⟨_, _, rfl, hin34.mono hs.bel, by decide, by decide⟩ .nil))))) (by decide)⟩, fun _ g hg => by cases hg; exact ⟨hr, hb35.lt⟩⟩
    | 9, _, hoq =>
      obtain rfl : _ = o := Option.some.inj hoq
      have hs0 := hs
      replace hB := hB.tr0 hs
      replace hFr := hFr.of hs (by simp)
      replace hb0 := hb0.tr0 hs
      replace hb1 := hb1.tr0 hs
      replace hb2 := hb2.tr0 hs
      replace hb3 := hb3.tr0 hs
      replace hb4 := hb4.tr0 hs
      replace hb23 := hb23.tr0 hs
      replace hb5 := hb5.tr0 hs
      replace hbm := hbm.tr0 hs
      clear hs
      have d8 : ∃ b, gg 35 = .slice (some ⟨b, 0, none⟩) 5 5 ∧ RowsIn wx (some ⟨b, 0, none⟩) [[1, 0, 1, 1, 2, 2, 4], [6], [7, 4, 3], [3], [8, 4, 3]] := hd 8 (dep_of (by kernel_rfl))
      obtain ⟨b35, e35, hrw35⟩ := d8
      refine os_know 35 (.slice (some ⟨b35, 0, none⟩) 5 5) e35 (by simp [undef]) ?_
      refine os_cl fn28 (graphOf_any _ _ [[1, 0, 1, 1, 2, 2, 4], [6], [7, 4, 3], [3], [8, 4, 3]] wx hrw35) rfl (fun e' w2 hr => ?_)
      obtain ⟨⟨q36_0, rfl, hq36_0⟩, hs⟩ := hr
      exact ⟨_, rfl, Same.of_bel hs, ⟨_, rfl, (by first | rfl | assumption)⟩, frsh_no⟩
    | 10, _, hoq =>
      obtain rfl : _ = o := Option.some.inj hoq
      have hs0 := hs
      replace hB := hB.tr0 hs
      replace hFr := hFr.of hs (by simp)
      replace hb0 := hb0.tr0 hs
      replace hb1 := hb1.tr0 hs
      replace hb2 := hb2.tr0 hs
      replace hb3 := hb3.tr0 hs
      replace hb4 := hb4.tr0 hs
      replace hb23 := hb23.tr0 hs
      replace hb5 := hb5.tr0 hs
      replace hbm := hbm.tr0 hs
      clear hs
      have d2 : ∃ x0 x1 x2 x3 x4 x5, gg 29 = .agg #[x0, x1, x2, x3, x4, x5] ∧ x0.oneCell' = true ∧ x1.oneCell' = true ∧ x2.oneCell' = true ∧ x3.oneCell' = true ∧ x4.oneCell' = true ∧ x5.oneCell' = true := hd 2 (dep_of (by kernel_rfl))
      obtain ⟨q29_0, q29_1, q29_2, q29_3, q29_4, q29_5, e29, hq29_0, hq29_1, hq29_2, hq29_3, hq29_4, hq29_5⟩ := d2
      have d9 : ∃ x0, gg 36 = .agg #[x0] ∧ x0.oneCell' = true := hd 9 (dep_of (by kernel_rfl))
      obtain ⟨q36_0, e36, hq36_0⟩ := d9
      refine os_know 29 (.agg #[q29_0, q29_1, q29_2, q29_3, q29_4, q29_5]) e29 (by simp [undef]) ?_
      refine os_know 36 (.agg #[q36_0]) e36 (by simp [undef]) ?_
      refine os_rv (r_bd4 (v0 := .string _) (v1 := .int _ _) (v2 := .agg _) (v3 := .agg _) (fun v0 v1 v2 v3 => #[v0, (cellOf v3 0), v1, .int .i64 0, (cellOf v2 0), (cellOf v2 1), (cellOf v2 2), (cellOf v2 3), (cellOf v2 4), (cellOf v2 5)]) rfl rfl rfl rfl (by kernel_rfl)) ⟨Same.refl _ _, ?_, frsh_no⟩
      exact ⟨_, _, _, _, _, _, _, _, _, _, rfl, (by first | rfl | assumption), (by first | rfl | assumption), (by first | rfl | assumption), (by first | rfl | assumption), (by first | rfl | assumption), (by first | rfl | assumption), (by first | rfl | assumption), (by first | rfl | assumption), (by first | rfl | assumption), (by first | rfl | assumption)⟩
    | 11, _, hoq =>
      obtain rfl : _ = o := Option.some.inj hoq
      have hs0 := hs
      replace hB := hB.tr0 hs
      replace hFr := hFr.of hs (by simp)
      replace hb0 := hb0.tr0 hs
      replace hb1 := hb1.tr0 hs
      replace hb2 := hb2.tr0 hs
      replace hb3 := hb3.tr0 hs
      replace hb4 := hb4.tr0 hs
      replace hb23 := hb23.tr0 hs
      replace hb5 := hb5.tr0 hs
      replace hbm := hbm.tr0 hs
      clear hs
      refine os_rv (r_mv (v := .slice _ _ _) rfl) ⟨Same.refl _ _, ?_, frsh_no⟩
      exact rfl
    | 12, _, hoq =>
      obtain rfl : _ = o := Option.some.inj hoq
      have hs0 := hs
      replace hB := hB.tr0 hs
      replace hFr := hFr.of hs (by simp)
      replace hb0 := hb0.tr0 hs
      replace hb1 := hb1.tr0 hs
      replace hb2 := hb2.tr0 hs
      replace hb3 := hb3.tr0 hs
      replace hb4 := hb4.tr0 hs
      replace hb23 := hb23.tr0 hs
      replace hb5 := hb5.tr0 hs
      replace hbm := hbm.tr0 hs
      clear hs
      have d11 : gg 38 = .slice (some ⟨bm, 0, none⟩) 6 6 := hd 11 (dep_of (by kernel_rfl))
      have e38 := d11
      refine os_know 38 (.slice (some ⟨bm, 0, none⟩) 6 6) e38 (by simp [undef]) ?_
      refine os_rv (r_ia (i := 1) Tryd.underlying75 sz78 rfl rfl (by decide) rfl) ⟨Same.refl _ _, ?_, frsh_no⟩
      exact rfl
    | 13, _, hoq =>
      obtain rfl : _ = o := Option.some.inj hoq
      have hs0 := hs
      replace hB := hB.tr0 hs
      replace hFr := hFr.of hs (by simp)
      replace hb0 := hb0.tr0 hs
      replace hb1 := hb1.tr0 hs
      replace hb2 := hb2.tr0 hs
      replace hb3 := hb3.tr0 hs
      replace hb4 := hb4.tr0 hs
      replace hb23 := hb23.tr0 hs
      replace hb5 := hb5.tr0 hs
      replace hbm := hbm.tr0 hs
      clear hs
      have d12 : gg 39 = .pointer (some ⟨bm, 0 + 1 * 6, none⟩) := hd 12 (dep_of (by kernel_rfl))
      have e39 := d12
      obtain ⟨z0, z1, z2, z3, z4, z5, hrg, oz0, oz1, oz2, oz3, oz4, oz5⟩ := blk_six (i := 1) hbm (by rw [hszm]; decide) honm
      refine os_know 39 (.pointer (some ⟨bm, 0 + 1 * 6, none⟩)) e39 (by simp [undef]) ?_
      refine os_rv (r_ldS Tryd.underlying78 rfl rfl hrg sz78) ⟨Same.refl _ _, ?_, frsh_no⟩
      exact ⟨_, _, _, _, _, _, rfl, (by first | rfl | assumption), (by first | rfl | assumption), (by first | rfl | assumption), (by first | rfl | assumption), (by first | rfl | assumption), (by first | rfl | assumption)⟩
    | 14, _, hoq =>
      obtain rfl : _ = o := Option.some.inj hoq
      have hs0 := hs
      replace hB := hB.tr0 hs
      replace hFr := hFr.of hs (by simp)
      replace hb0 := hb0.tr0 hs
      replace hb1 := hb1.tr0 hs
      replace hb2 := hb2.tr0 hs
      replace hb3 := hb3.tr0 hs
      replace hb4 := hb4.tr0 hs
      replace hb23 := hb23.tr0 hs
      replace hb5 := hb5.tr0 hs
      replace hbm := hbm.tr0 hs
      clear hs
      refine os_wl (fun ops Q K => ?_)
      refine wl_bs (cs := #[_, _, _, _, _, _, _]) [(0, .int _ _), (1, .int _ _), (2, .int _ _), (3, .int _ _), (4, .int _ _), (5, .int _ _), (6, .int _ _)] rfl Tryd.underlying45 sz3 ze3 (by decide) (by decide) (by kernel_rfl) rfl (fun b41 w7 hb41 hs hr => ?_)
      exact K _ _ ⟨hs, ⟨_, rfl, ints_of_blk [1, 0, 1, 1, 3, 2, 4] hb41 (by decide)⟩, fun _ g hg => by cases hg; exact ⟨hr, hb41.lt⟩⟩
    | 15, _, hoq =>
      obtain rfl : _ = o := Option.some.inj hoq
      have hs0 := hs
      replace hB := hB.tr0 hs
      replace hFr := hFr.of hs (by simp)
      replace hb0 := hb0.tr0 hs
      replace hb1 := hb1.tr0 hs
      replace hb2 := hb2.tr0 hs
      replace hb3 := hb3.tr0 hs
      replace hb4 := hb4.tr0 hs
      replace hb23 := hb23.tr0 hs
      replace hb5 := hb5.tr0 hs
      replace hbm := hbm.tr0 hs
      clear hs
      refine os_wl (fun ops Q K => ?_)
      refine wl_bs (cs := #[_, _, _]) [(0, .int _ _), (1, .int _ _), (2, .int _ _)] rfl Tryd.underlying45 sz3 ze3 (by decide) (by decide) (by kernel_rfl) rfl (fun b42 w8 hb42 hs hr => ?_)
      exact K _ _ ⟨hs, ⟨_, rfl, ints_of_blk [7, 4, 2] hb42 (by decide)⟩, fun _ g hg => by cases hg; exact ⟨hr, hb42.lt⟩⟩
    | 16, _, hoq =>
      obtain rfl : _ = o := Option.some.inj hoq
      have hs0 := hs
      replace hB := hB.tr0 hs
      replace hFr := hFr.of hs (by simp)
      replace hb0 := hb0.tr0 hs
      replace hb1 := hb1.tr0 hs
      replace hb2 := hb2.tr0 hs
      replace hb3 := hb3.tr0 hs
      replace hb4 := hb4.tr0 hs
      replace hb23 := hb23.tr0 hs
      replace hb5 := hb5.tr0 hs
      replace hbm := hbm.tr0 hs
      clear hs
      refine os_wl (fun ops Q K => ?_)
      refine wl_bs (cs := #[_]) [(0, .int _ _)] rfl Tryd.underlying45 sz3 ze3 (by decide) (by decide) (by kernel_rfl) rfl (fun b43 w9 hb43 hs hr => ?_)
      exact K _ _ ⟨hs, ⟨_, rfl, ints_of_blk [3] hb43 (by decide)⟩, fun _ g hg => by cases hg; exact ⟨hr, hb43.lt⟩⟩
    | 17, _, hoq =>
      obtain rfl : _ = o := Option.some.inj hoq
      have hs0 := hs
      replace hB := hB.tr0 hs
      replace hFr := hFr.of hs (by simp)
      replace hb0 := hb0.tr0 hs
      replace hb1 := hb1.tr0 hs
      replace hb2 := hb2.tr0 hs
      replace hb3 := hb3.tr0 hs
      replace hb4 := hb4.tr0 hs
      replace hb23 := hb23.tr0 hs
      replace hb5 := hb5.tr0 hs
      replace hbm := hbm.tr0 hs
      clear hs
      refine os_wl (fun ops Q K => ?_)
      refine wl_bs (cs := #[_, _, _]) [(0, .int _ _), (1, .int _ _), (2, .int _ _)] rfl Tryd.underlying45 sz3 ze3 (by decide) (by decide) (by kernel_rfl) rfl (fun b44 w10 hb44 hs hr => ?_)
      exact K _ _ ⟨hs, ⟨_, rfl, ints_of_blk [10, 4, 2] hb44 (by decide)⟩, fun _ g hg => by cases hg; exact ⟨hr, hb44.lt⟩⟩
    | 18, _, hoq =>
      obtain rfl : _ = o := Option.some.inj hoq
      have hs0 := hs
      replace hB := hB.tr0 hs
      replace hFr := hFr.of hs (by simp)
      replace hb0 := hb0.tr0 hs
      replace hb1 := hb1.tr0 hs
      replace hb2 := hb2.tr0 hs
      replace hb3 := hb3.tr0 hs
      replace hb4 := hb4.tr0 hs
      replace hb23 := hb23.tr0 hs
      replace hb5 := hb5.tr0 hs
      replace hbm := hbm.tr0 hs
      clear hs
      refine os_wl (fun ops Q K => ?_)
      refine wl_bs (cs := #[_, _, _]) [(0, .int _ _), (1, .int _ _), (2, .int _ _)] rfl Tryd.underlying45 sz3 ze3 (by decide) (by decide) (by kernel_rfl) rfl (fun b45 w11 hb45 hs hr => ?_)
      exact K _ _ ⟨hs, ⟨_, rfl, ints_of_blk [9, 4, 2] hb45 (by decide)⟩, fun _ g hg => by cases hg; exact ⟨hr, hb45.lt⟩⟩
    | 19, _, hoq =>
      obtain rfl : _ = o := Option.some.inj hoq
      have hs0 := hs
      replace hB := hB.tr0 hs
      replace hFr := hFr.of hs (by simp)
      replace hb0 := hb0.tr0 hs
      replace hb1 := hb1.tr0 hs
      replace hb2 := hb2.tr0 hs
      replace hb3 := hb3.tr0 hs
      replace hb4 := hb4.tr0 hs
      replace hb23 := hb23.tr0 hs
      replace hb5 := hb5.tr0 hs
      replace hbm := hbm.tr0 hs
      clear hs
      have d14 : ∃ b, gg 41 = .slice (some ⟨b, 0, none⟩) 7 7 ∧ IntsIn wx (some ⟨b, 0, none⟩) [1, 0, 1, 1, 3, 2, 4] := hd 14 (dep_of (by kernel_rfl))
      obtain ⟨b41, e41, hin41⟩ := d14
      have d15 : ∃ b, gg 42 = .slice (some ⟨b, 0, none⟩) 3 3 ∧ IntsIn wx (some ⟨b, 0, none⟩) [7, 4, 2] := hd 15 (dep_of (by kernel_rfl))
      obtain ⟨b42, e42, hin42⟩ := d15
      have d16 : ∃ b, gg 43 = .slice (some ⟨b, 0, none⟩) 1 1 ∧ IntsIn wx (some ⟨b, 0, none⟩) [3] := hd 16 (dep_of (by kernel_rfl))
      obtain ⟨b43, e43, hin43⟩ := d16
      have d17 : ∃ b, gg 44 = .slice (some ⟨b, 0, none⟩) 3 3 ∧ IntsIn wx (some ⟨b, 0, none⟩) [10, 4, 2] := hd 17 (dep_of (by kernel_rfl))
      obtain ⟨b44, e44, hin44⟩ := d17
      have d18 : ∃ b, gg 45 = .slice (some ⟨b, 0, none⟩) 3 3 ∧ IntsIn wx (some ⟨b, 0, none⟩) [9, 4, 2] := hd 18 (dep_of (by kernel_rfl))
      obtain ⟨b45, e45, hin45⟩ := d18
      refine os_know 41 (.slice (some ⟨b41, 0, none⟩) 7 7) e41 (by simp [undef]) ?_
      refine os_know 42 (.slice (some ⟨b42, 0, none⟩) 3 3) e42 (by simp [undef]) ?_
      refine os_know 43 (.slice (some ⟨b43, 0, none⟩) 1 1) e43 (by simp [undef]) ?_
      refine os_know 44 (.slice (some ⟨b44, 0, none⟩) 3 3) e44 (by simp [undef]) ?_
      refine os_know 45 (.slice (some ⟨b45, 0, none⟩) 3 3) e45 (by simp [undef]) ?_
      refine os_wl (fun ops Q K => ?_)
      refine wl_bs (cs := #[_, _, _, _, _]) [(0, .slice _ _ _), (1, .slice _ _ _), (2, .slice _ _ _), (3, .slice _ _ _), (4, .slice _ _ _)] rfl Tryd.underlying82 sz45 ze45 (by decide) (by decide) (by kernel_rfl) rfl (fun b46 w12 hb46 hs hr => ?_)
      exact K _ _ ⟨hs, ⟨_, rfl, rows_of_blk (rs := [[1, 0, 1, 1, 3, 2, 4], [7, 4, 2], [3], [10, 4, 2], [9, 4, 2]]) hb46 (.cons ⟨_, _, rfl, hin41.mono hs.bel, by decide, by decide⟩ (.cons ⟨_, _, rfl, hin42.mono hs.bel, by decide, by decide⟩ (.cons ⟨_, _, rfl, hin43.mono hs.bel, by decide, by decide⟩ (.cons ⟨_, _, rfl, hin44.mono hs.bel, by decide, by decide⟩ (.cons ⟨_, _, rfl, hin45.mono hs.bel, by decide, by decide⟩ .nil))))) (by decide)⟩, fun _ g hg => by cases hg; exact ⟨hr, hb46.lt⟩⟩
    | 20, _, hoq =>
      obtain rfl : _ = o := Option.some.inj hoq
      have hs0 := hs
      replace hB := hB.tr0 hs
      replace hFr := hFr.of hs (by simp)
      replace hb0 := hb0.tr0 hs
      replace hb1 := hb1.tr0 hs
      replace hb2 := hb2.tr0 hs
      replace hb3 := hb3.tr0 hs
      replace hb4 := hb4.tr0 hs
      replace hb23 := hb23.tr0 hs
      replace hb5 := hb5.tr0 hs
      replace hbm := hbm.tr0 hs
      clear hs
      have d19 : ∃ b, gg 46 = .slice (some ⟨b, 0, none⟩) 5 5 ∧ RowsIn wx (some ⟨b, 0, none⟩) [[1, 0, 1, 1, 3, 2, 4], [7, 4, 2], [3], [10, 4, 2], [9, 4, 2]] := hd 19 (dep_of (by kernel_rfl))
      obtain ⟨b46, e46, hrw46⟩ := d19
      refine os_know 46 (.slice (some ⟨b46, 0, none⟩) 5 5) e46 (by simp [undef]) ?_
      refine os_cl fn28 (graphOf_any _ _ [[1, 0, 1, 1, 3, 2, 4], [7, 4, 2], [3], [10, 4, 2], [9, 4, 2]] wx hrw46) rfl (fun e' w2 hr => ?_)
      obtain ⟨⟨q47_0, rfl, hq47_0⟩, hs⟩ := hr
      exact ⟨_, rfl, Same.of_bel hs, ⟨_, rfl, (by first | rfl | assumption)⟩, frsh_no⟩
    | 21, _, hoq =>
      obtain rfl : _ = o := Option.some.inj hoq
      have hs0 := hs
      replace hB := hB.tr0 hs
      replace hFr := hFr.of hs (by simp)
      replace hb0 := hb0.tr0 hs
      replace hb1 := hb1.tr0 hs
      replace hb2 := hb2.tr0 hs
      replace hb3 := hb3.tr0 hs
      replace hb4 := hb4.tr0 hs
      replace hb23 := hb23.tr0 hs
      replace hb5 := hb5.tr0 hs
      replace hbm := hbm.tr0 hs
      clear hs
      have d13 : ∃ x0 x1 x2 x3 x4 x5, gg 40 = .agg #[x0, x1, x2, x3, x4, x5] ∧ x0.oneCell' = true ∧ x1.oneCell' = true ∧ x2.oneCell' = true ∧ x3.oneCell' = true ∧ x4.oneCell' = true ∧ x5.oneCell' = true := hd 13 (dep_of (by kernel_rfl))
      obtain ⟨q40_0, q40_1, q40_2, q40_3, q40_4, q40_5, e40, hq40_0, hq40_1, hq40_2, hq40_3, hq40_4, hq40_5⟩ := d13
      have d20 : ∃ x0, gg 47 = .agg #[x0] ∧ x0.oneCell' = true := hd 20 (dep_of (by kernel_rfl))
      obtain ⟨q47_0, e47, hq47_0⟩ := d20
      refine os_know 40 (.agg #[q40_0, q40_1, q40_2, q40_3, q40_4, q40_5]) e40 (by simp [undef]) ?_
      refine os_know 47 (.agg #[q47_0]) e47 (by simp [undef]) ?_
      refine os_rv (r_bd5 (v0 := .string _) (v1 := .int _ _) (v2 := .int _ _) (v3 := .agg _) (v4 := .agg _) (fun v0 v1 v2 v3 v4 => #[v0, (cellOf v4 0), v1, v2, (cellOf v3 0), (cellOf v3 1), (cellOf v3 2), (cellOf v3 3), (cellOf v3 4), (cellOf v3 5)]) rfl rfl rfl rfl rfl (by kernel_rfl)) ⟨Same.refl _ _, ?_, frsh_no⟩
      exact ⟨_, _, _, _, _, _, _, _, _, _, rfl, (by first | rfl | assumption), (by first | rfl | assumption), (by first | rfl | assumption), (by first | rfl | assumption), (by first | rfl | assumption), (by first | rfl | assumption), (by first | rfl | assumption), (by first | rfl | assumption), (by first | rfl | assumption), (by first | rfl | assumption)⟩
    | 22, _, hoq =>
      obtain rfl : _ = o := Option.some.inj hoq
      have hs0 := hs
      replace hB := hB.tr0 hs
      replace hFr := hFr.of hs (by simp)
      replace hb0 := hb0.tr0 hs
      replace hb1 := hb1.tr0 hs
      replace hb2 := hb2.tr0 hs
      replace hb3 := hb3.tr0 hs
      replace hb4 := hb4.tr0 hs
      replace hb23 := hb23.tr0 hs
      replace hb5 := hb5.tr0 hs
      replace hbm := hbm.tr0 hs
      clear hs
      refine os_rv (r_mv (v := .slice _ _ _) rfl) ⟨Same.refl _ _, ?_, frsh_no⟩
      exact rfl
    | 23, _, hoq =>
      obtain rfl : _ = o := Option.some.inj hoq
      have hs0 := hs
      replace hB := hB.tr0 hs
      replace hFr := hFr.of hs (by simp)
      replace hb0 := hb0.tr0 hs
      replace hb1 := hb1.tr0 hs
      replace hb2 := hb2.tr0 hs
      replace hb3 := hb3.tr0 hs
      replace hb4 := hb4.tr0 hs
      replace hb23 := hb23.tr0 hs
      replace hb5 := hb5.tr0 hs
      replace hbm := hbm.tr0 hs
      clear hs
      have d22 : gg 49 = .slice (some ⟨bm, 0, none⟩) 6 6 := hd 22 (dep_of (by kernel_rfl))
      have e49 := d22
      refine os_know 49 (.slice (some ⟨bm, 0, none⟩) 6 6) e49 (by simp [undef]) ?_
      refine os_rv (r_ia (i := 2) Tryd.underlying75 sz78 rfl rfl (by decide) rfl) ⟨Same.refl _ _, ?_, frsh_no⟩
      exact rfl
    | 24, _, hoq =>
      obtain rfl : _ = o := Option.some.inj hoq
      have hs0 := hs
      replace hB := hB.tr0 hs
      replace hFr := hFr.of hs (by simp)
      replace hb0 := hb0.tr0 hs
      replace hb1 := hb1.tr0 hs
      replace hb2 := hb2.tr0 hs
      replace hb3 := hb3.tr0 hs
      replace hb4 := hb4.tr0 hs
      replace hb23 := hb23.tr0 hs
      replace hb5 := hb5.tr0 hs
      replace hbm := hbm.tr0 hs
      clear hs
      have d23 : gg 50 = .pointer (some ⟨bm, 0 + 2 * 6, none⟩) := hd 23 (dep_of (by kernel_rfl))
      have e50 := d23
      obtain ⟨z0, z1, z2, z3, z4, z5, hrg, oz0, oz1, oz2, oz3, oz4, oz5⟩ := blk_six (i := 2) hbm (by rw [hszm]; decide) honm
      refine os_know 50 (.pointer (some ⟨bm, 0 + 2 * 6, none⟩)) e50 (by simp [undef]) ?_
      refine os_rv (r_ldS Tryd.underlying78 rfl rfl hrg sz78) ⟨Same.refl _ _, ?_, frsh_no⟩
      exact ⟨_, _, _, _, _, _, rfl, (by first | rfl | assumption), (by first | rfl | assumption), (by first | rfl | assumption), (by first | rfl | assumption), (by first | rfl | assumption), (by first | rfl | assumption)⟩
    | 25, _, hoq =>
      obtain rfl : _ = o := Option.some.inj hoq
      have hs0 := hs
      replace hB := hB.tr0 hs
      replace hFr := hFr.of hs (by simp)
      replace hb0 := hb0.tr0 hs
      replace hb1 := hb1.tr0 hs
      replace hb2 := hb2.tr0 hs
      replace hb3 := hb3.tr0 hs
      replace hb4 := hb4.tr0 hs
      replace hb23 := hb23.tr0 hs
      replace hb5 := hb5.tr0 hs
      replace hbm := hbm.tr0 hs
      clear hs
      refine os_wl (fun ops Q K => ?_)
      refine wl_bs (cs := #[_, _, _, _, _]) [(0, .int _ _), (1, .int _ _), (2, .int _ _), (3, .int _ _), (4, .int _ _)] rfl Tryd.underlying45 sz3 ze3 (by decide) (by decide) (by kernel_rfl) rfl (fun b52 w13 hb52 hs hr => ?_)
      exact K _ _ ⟨hs, ⟨_, rfl, ints_of_blk [1, 0, 1, 1, 3] hb52 (by decide)⟩, fun _ g hg => by cases hg; exact ⟨hr, hb52.lt⟩⟩
    | 26, _, hoq =>
      obtain rfl : _ = o := Option.some.inj hoq
      have hs0 := hs
      replace hB := hB.tr0 hs
      replace hFr := hFr.of hs (by simp)
      replace hb0 := hb0.tr0 hs
      replace hb1 := hb1.tr0 hs
      replace hb2 := hb2.tr0 hs
      replace hb3 := hb3.tr0 hs
      replace hb4 := hb4.tr0 hs
      replace hb23 := hb23.tr0 hs
      replace hb5 := hb5.tr0 hs
      replace hbm := hbm.tr0 hs
      clear hs
      refine os_wl (fun ops Q K => ?_)
      refine wl_bs (cs := #[_, _, _]) [(0, .int _ _), (1, .int _ _), (2, .int _ _)] rfl Tryd.underlying45 sz3 ze3 (by decide) (by decide) (by kernel_rfl) rfl (fun b53 w14 hb53 hs hr => ?_)
      exact K _ _ ⟨hs, ⟨_, rfl, ints_of_blk [8, 4, 2] hb53 (by decide)⟩, fun _ g hg => by cases hg; exact ⟨hr, hb53.lt⟩⟩
    | 27, _, hoq =>
      obtain rfl : _ = o := Option.some.inj hoq
      have hs0 := hs
      replace hB := hB.tr0 hs
      replace hFr := hFr.of hs (by simp)
      replace hb0 := hb0.tr0 hs
      replace hb1 := hb1.tr0 hs
      replace hb2 := hb2.tr0 hs
      replace hb3 := hb3.tr0 hs
      replace hb4 := hb4.tr0 hs
      replace hb23 := hb23.tr0 hs
      replace hb5 := hb5.tr0 hs
      replace hbm := hbm.tr0 hs
      clear hs
      refine os_wl (fun ops Q K => ?_)
      refine wl_bs (cs := #[_]) [(0, .int _ _)] rfl Tryd.underlying45 sz3 ze3 (by decide) (by decide) (by kernel_rfl) rfl (fun b54 w15 hb54 hs hr => ?_)
      exact K _ _ ⟨hs, ⟨_, rfl, ints_of_blk [3] hb54 (by decide)⟩, fun _ g hg => by cases hg; exact ⟨hr, hb54.lt⟩⟩
    | 28, _, hoq =>
      obtain rfl : _ = o := Option.some.inj hoq
      have hs0 := hs
      replace hB := hB.tr0 hs
      replace hFr := hFr.of hs (by simp)
      replace hb0 := hb0.tr0 hs
      replace hb1 := hb1.tr0 hs
      replace hb2 := hb2.tr0 hs
      replace hb3 := hb3.tr0 hs
      replace hb4 := hb4.tr0 hs
      replace hb23 := hb23.tr0 hs
      replace hb5 := hb5.tr0 hs
      replace hbm := hbm.tr0 hs
      clear hs
      refine os_wl (fun ops Q K => ?_)
      refine wl_bs (cs := #[_, _, _]) [(0, .int _ _), (1, .int _ _), (2, .int _ _)] rfl Tryd.underlying45 sz3 ze3 (by decide) (by decide) (by kernel_rfl) rfl (fun b55 w16 hb55 hs hr => ?_)
      exact K _ _ ⟨hs, ⟨_, rfl, ints_of_blk [11, 4, 2] hb55 (by decide)⟩, fun _ g hg => by cases hg; exact ⟨hr, hb55.lt⟩⟩
    | 29, _, hoq =>
      obtain rfl : _ = o := Option.some.inj hoq
      have hs0 := hs
      replace hB := hB.tr0 hs
      replace hFr := hFr.of hs (by simp)
      replace hb0 := hb0.tr0 hs
      replace hb1 := hb1.tr0 hs
      replace hb2 := hb2.tr0 hs
      replace hb3 := hb3.tr0 hs
      replace hb4 := hb4.tr0 hs
      replace hb23 := hb23.tr0 hs
      replace hb5 := hb5.tr0 hs
      replace hbm := hbm.tr0 hs
      clear hs
      have d25 : ∃ b, gg 52 = .slice (some ⟨b, 0, none⟩) 5 5 ∧ IntsIn wx (some ⟨b, 0, none⟩) [1, 0, 1, 1, 3] := hd 25 (dep_of (by kernel_rfl))
      obtain ⟨b52, e52, hin52⟩ := d25
      have d26 : ∃ b, gg 53 = .slice (some ⟨b, 0, none⟩) 3 3 ∧ IntsIn wx (some ⟨b, 0, none⟩) [8, 4, 2] := hd 26 (dep_of (by kernel_rfl))
      obtain ⟨b53, e53, hin53⟩ := d26
      have d27 : ∃ b, gg 54 = .slice (some ⟨b, 0, none⟩) 1 1 ∧ IntsIn wx (some ⟨b, 0, none⟩) [3] := hd 27 (dep_of (by kernel_rfl))
      obtain ⟨b54, e54, hin54⟩ := d27
      have d28 : ∃ b, gg 55 = .slice (some ⟨b, 0, none⟩) 3 3 ∧ IntsIn wx (some ⟨b, 0, none⟩) [11, 4, 2] := hd 28 (dep_of (by kernel_rfl))
      obtain ⟨b55, e55, hin55⟩ := d28
      refine os_know 52 (.slice (some ⟨b52, 0, none⟩) 5 5) e52 (by simp [undef]) ?_
      refine os_know 53 (.slice (some ⟨b53, 0, none⟩) 3 3) e53 (by simp [undef]) ?_
      refine os_know 54 (.slice (some ⟨b54, 0, none⟩) 1 1) e54 (by simp [undef]) ?_
      refine os_know 55 (.slice (some ⟨b55, 0, none⟩) 3 3) e55 (by simp [undef]) ?_
      refine os_wl (fun ops Q K => ?_)
      refine wl_bs (cs := #[_, _, _, _]) [(0, .slice _ _ _), (1, .slice _ _ _), (2, .slice _ _ _), (3, .slice _ _ _)] rfl Tryd.underlying82 sz45 ze45 (by decide) (by decide) (by kernel_rfl) rfl (fun b56 w17 hb56 hs hr => ?_)
      exact K _ _ ⟨hs, ⟨_, rfl, rows_of_blk (rs := [[1, 0, 1, 1, 3], [8, 4, 2], [3], [11, 4, 2]]) hb56 (.cons ⟨_, _, rfl, hin52.mono hs.bel, by decide, by decide⟩ (.cons ⟨_, _, rfl, hin53.mono hs.bel, by decide, by decide⟩ (.cons ⟨_, _, rfl, hin54.mono hs.bel, by decide, by decide⟩ (.cons ⟨_, _, rfl, hin55.mono hs.bel, by decide, by decide⟩ .nil)))) (by decide)⟩, fun _ g hg => by cases hg; exact ⟨hr, hb56.lt⟩⟩
    | 30, _, hoq =>
      obtain rfl : _ = o := Option.some.inj hoq
      have hs0 := hs
      replace hB := hB.tr0 hs
      replace hFr := hFr.of hs (by simp)
      replace hb0 := hb0.tr0 hs
      replace hb1 := hb1.tr0 hs
      replace hb2 := hb2.tr0 hs
      replace hb3 := hb3.tr0 hs
      replace hb4 := hb4.tr0 hs
      replace hb23 := hb23.tr0 hs
      replace hb5 := hb5.tr0 hs
      replace hbm := hbm.tr0 hs
      clear hs
      have d29 : ∃ b, gg 56 = .slice (some ⟨b, 0, none⟩) 4 4 ∧ RowsIn wx (some ⟨b, 0, none⟩) [[1, 0, 1, 1, 3], [8, 4, 2], [3], [11, 4, 2]] := hd 29 (dep_of (by kernel_rfl))
      obtain ⟨b56, e56, hrw56⟩ := d29
      refine os_know 56 (.slice (some ⟨b56, 0, none⟩) 4 4) e56 (by simp [undef]) ?_
      refine os_cl fn28 (graphOf_any _ _ [[1, 0, 1, 1, 3], [8, 4, 2], [3], [11, 4, 2]] wx hrw56) rfl (fun e' w2 hr => ?_)
      obtain ⟨⟨q57_0, rfl, hq57_0⟩, hs⟩ := hr
      exact ⟨_, rfl, Same.of_bel hs, ⟨_, rfl, (by first | rfl | assumption)⟩, frsh_no⟩
    | 31, _, hoq =>
      obtain rfl : _ = o := Option.some.inj hoq
      have hs0 := hs
      replace hB := hB.tr0 hs
      replace hFr := hFr.of hs (by simp)
      replace hb0 := hb0.tr0 hs
      replace hb1 := hb1.tr0 hs
      replace hb2 := hb2.tr0 hs
      replace hb3 := hb3.tr0 hs
      replace hb4 := hb4.tr0 hs
      replace hb23 := hb23.tr0 hs
      replace hb5 := hb5.tr0 hs
      replace hbm := hbm.tr0 hs
      clear hs
      have d24 : ∃ x0 x1 x2 x3 x4 x5, gg 51 = .agg #[x0, x1, x2, x3, x4, x5] ∧ x0.oneCell' = true ∧ x1.oneCell' = true ∧ x2.oneCell' = true ∧ x3.oneCell' = true ∧ x4.oneCell' = true ∧ x5.oneCell' = true := hd 24 (dep_of (by kernel_rfl))
      obtain ⟨q51_0, q51_1, q51_2, q51_3, q51_4, q51_5, e51, hq51_0, hq51_1, hq51_2, hq51_3, hq51_4, hq51_5⟩ := d24
      have d30 : ∃ x0, gg 57 = .agg #[x0] ∧ x0.oneCell' = true := hd 30 (dep_of (by kernel_rfl))
      obtain ⟨q57_0, e57, hq57_0⟩ := d30
      refine os_know 51 (.agg #[q51_0, q51_1, q51_2, q51_3, q51_4, q51_5]) e51 (by simp [undef]) ?_
      refine os_know 57 (.agg #[q57_0]) e57 (by simp [undef]) ?_
      refine os_rv (r_bd4 (v0 := .string _) (v1 := .int _ _) (v2 := .agg _) (v3 := .agg _) (fun v0 v1 v2 v3 => #[v0, (cellOf v3 0), v1, .int .i64 0, (cellOf v2 0), (cellOf v2 1), (cellOf v2 2), (cellOf v2 3), (cellOf v2 4), (cellOf v2 5)]) rfl rfl rfl rfl (by kernel_rfl)) ⟨Same.refl _ _, ?_, frsh_no⟩
      exact ⟨_, _, _, _, _, _, _, _, _, _, rfl, (by first | rfl | assumption), (by first | rfl | assumption), (by first | rfl | assumption), (by first | rfl | assumption), (by first | rfl | assumption), (by first | rfl | assumption), (by first | rfl | assumption), (by first | rfl | assumption), (by first | rfl | assumption), (by first | rfl | assumption)⟩
    | 32, _, hoq =>
      obtain rfl : _ = o := Option.some.inj hoq
      have hs0 := hs
      replace hB := hB.tr0 hs
      replace hFr := hFr.of hs (by simp)
      replace hb0 := hb0.tr0 hs
      replace hb1 := hb1.tr0 hs
      replace hb2 := hb2.tr0 hs
      replace hb3 := hb3.tr0 hs
      replace hb4 := hb4.tr0 hs
      replace hb23 := hb23.tr0 hs
      replace hb5 := hb5.tr0 hs
      replace hbm := hbm.tr0 hs
      clear hs
      refine os_rv (r_mv (v := .slice _ _ _) rfl) ⟨Same.refl _ _, ?_, frsh_no⟩
      exact rfl
    | 33, _, hoq =>
      obtain rfl : _ = o := Option.some.inj hoq
      have hs0 := hs
      replace hB := hB.tr0 hs
      replace hFr := hFr.of hs (by simp)
      replace hb0 := hb0.tr0 hs
      replace hb1 := hb1.tr0 hs
      replace hb2 := hb2.tr0 hs
      replace hb3 := hb3.tr0 hs
      replace hb4 := hb4.tr0 hs
      replace hb23 := hb23.tr0 hs
      replace hb5 := hb5.tr0 hs
      replace hbm := hbm.tr0 hs
      clear hs
      have d32 : gg 59 = .slice (some ⟨bm, 0, none⟩) 6 6 := hd 32 (dep_of (by kernel_rfl))
      have e59 := d32
      refine os_know 59 (.slice (some ⟨bm, 0, none⟩) 6 6) e59 (by simp [undef]) ?_
      refine os_rv (r_ia (i := 3) Tryd.underlying75 sz78 rfl rfl (by decide) rfl) ⟨Same.refl _ _, ?_, frsh_no⟩
      exact rfl
    | 34, _, hoq =>
      obtain rfl : _ = o := Option.some.inj hoq
      have hs0 := hs
      replace hB := hB.tr0 hs
      replace hFr := hFr.of hs (by simp)
      replace hb0 := hb0.tr0 hs
      replace hb1 := hb1.tr0 hs
      replace hb2 := hb2.tr0 hs
      replace hb3 := hb3.tr0 hs
      replace hb4 := hb4.tr0 hs
      replace hb23 := hb23.tr0 hs
      replace hb5 := hb5.tr0 hs
      replace hbm := hbm.tr0 hs
      clear hs
      have d33 : gg 60 = .pointer (some ⟨bm, 0 + 3 * 6, none⟩) := hd 33 (dep_of (by kernel_rfl))
      have e60 := d33
      obtain ⟨z0, z1, z2, z3, z4, z5, hrg, oz0, oz1, oz2, oz3, oz4, oz5⟩ := blk_six (i := 3) hbm (by rw [hszm]; decide) honm
      refine os_know 60 (.pointer (some ⟨bm, 0 + 3 * 6, none⟩)) e60 (by simp [undef]) ?_
      refine os_rv (r_ldS Tryd.underlying78 rfl rfl hrg sz78) ⟨Same.refl _ _, ?_, frsh_no⟩
      exact ⟨_, _, _, _, _, _, rfl, (by first | rfl | assumption), (by first | rfl | assumption), (by first | rfl | assumption), (by first | rfl | assumption), (by first | rfl | assumption), (by first | rfl | assumption)⟩
    | 35, _, hoq =>
      obtain rfl : _ = o := Option.some.inj hoq
      have hs0 := hs
      replace hB := hB.tr0 hs
      replace hFr := hFr.of hs (by simp)
      replace hb0 := hb0.tr0 hs
      replace hb1 := hb1.tr0 hs
      replace hb2 := hb2.tr0 hs
      replace hb3 := hb3.tr0 hs
      replace hb4 := hb4.tr0 hs
      replace hb23 := hb23.tr0 hs
      replace hb5 := hb5.tr0 hs
      replace hbm := hbm.tr0 hs
      clear hs
      refine os_wl (fun ops Q K => ?_)
      refine wl_bs (cs := #[_, _, _, _, _, _, _]) [(0, .int _ _), (1, .int _ _), (2, .int _ _), (3, .int _ _), (4, .int _ _), (5, .int _ _), (6, .int _ _)] rfl Tryd.underlying45 sz3 ze3 (by decide) (by decide) (by kernel_rfl) rfl (fun b62 w18 hb62 hs hr => ?_)
      exact K _ _ ⟨hs, ⟨_, rfl, ints_of_blk [1, 0, 1, 1, 3, 2, 4] hb62 (by decide)⟩, fun _ g hg => by cases hg; exact ⟨hr, hb62.lt⟩⟩
    | 36, _, hoq =>
      obtain rfl : _ = o := Option.some.inj hoq
      have hs0 := hs
      replace hB := hB.tr0 hs
      replace hFr := hFr.of hs (by simp)
      replace hb0 := hb0.tr0 hs
      replace hb1 := hb1.tr0 hs
      replace hb2 := hb2.tr0 hs
      replace hb3 := hb3.tr0 hs
      replace hb4 := hb4.tr0 hs
      replace hb23 := hb23.tr0 hs
      replace hb5 := hb5.tr0 hs
      replace hbm := hbm.tr0 hs
      clear hs
      refine os_wl (fun ops Q K => ?_)
      refine wl_bs (cs := #[_, _, _]) [(0, .int _ _), (1, .int _ _), (2, .int _ _)] rfl Tryd.underlying45 sz3 ze3 (by decide) (by decide) (by kernel_rfl) rfl (fun b63 w19 hb63 hs hr => ?_)
      exact K _ _ ⟨hs, ⟨_, rfl, ints_of_blk [8, 4, 2] hb63 (by decide)⟩, fun _ g hg => by cases hg; exact ⟨hr, hb63.lt⟩⟩
    | 37, _, hoq =>
      obtain rfl : _ = o := Option.some.inj hoq
      have hs0 := hs
      replace hB := hB.tr0 hs
      replace hFr := hFr.of hs (by simp)
      replace hb0 := hb0.tr0 hs
      replace hb1 := hb1.tr0 hs
      replace hb2 := hb2.tr0 hs
      replace hb3 := hb3.tr0 hs
      replace hb4 := hb4.tr0 hs
      replace hb23 := hb23.tr0 hs
      replace hb5 := hb5.tr0 hs
      replace hbm := hbm.tr0 hs
      clear hs
      refine os_wl (fun ops Q K => ?_)
      refine wl_bs (cs := #[_]) [(0, .int _ _)] rfl Tryd.underlying45 sz3 ze3 (by decide) (by decide) (by kernel_rfl) rfl (fun b64 w20 hb64 hs hr => ?_)
      exact K _ _ ⟨hs, ⟨_, rfl, ints_of_blk [3] hb64 (by decide)⟩, fun _ g hg => by cases hg; exact ⟨hr, hb64.lt⟩⟩
    | 38, _, hoq =>
      obtain rfl : _ = o := Option.some.inj hoq
      have hs0 := hs
      replace hB := hB.tr0 hs
      replace hFr := hFr.of hs (by simp)
      replace hb0 := hb0.tr0 hs
      replace hb1 := hb1.tr0 hs
      replace hb2 := hb2.tr0 hs
      replace hb3 := hb3.tr0 hs
      replace hb4 := hb4.tr0 hs
      replace hb23 := hb23.tr0 hs
      replace hb5 := hb5.tr0 hs
      replace hbm := hbm.tr0 hs
      clear hs
      refine os_wl (fun ops Q K => ?_)
      refine wl_bs (cs := #[_, _, _]) [(0, .int _ _), (1, .int _ _), (2, .int _ _)] rfl Tryd.underlying45 sz3 ze3 (by decide) (by decide) (by kernel_rfl) rfl (fun b65 w21 hb65 hs hr => ?_)
      exact K _ _ ⟨hs, ⟨_, rfl, ints_of_blk [12, 4, 2] hb65 (by decide)⟩, fun _ g hg => by cases hg; exact ⟨hr, hb65.lt⟩⟩
    | 39, _, hoq =>
      obtain rfl : _ = o := Option.some.inj hoq
      have hs0 := hs
      replace hB := hB.tr0 hs
      replace hFr := hFr.of hs (by simp)
      replace hb0 := hb0.tr0 hs
      replace hb1 := hb1.tr0 hs
      replace hb2 := hb2.tr0 hs
      replace hb3 := hb3.tr0 hs
      replace hb4 := hb4.tr0 hs
      replace hb23 := hb23.tr0 hs
      replace hb5 := hb5.tr0 hs
      replace hbm := hbm.tr0 hs
      clear hs
      refine os_wl (fun ops Q K => ?_)
      refine wl_bs (cs := #[_]) [(0, .int _ _)] rfl Tryd.underlying45 sz3 ze3 (by decide) (by decide) (by kernel_rfl) rfl (fun b66 w22 hb66 hs hr => ?_)
      exact K _ _ ⟨hs, ⟨_, rfl, ints_of_blk [7] hb66 (by decide)⟩, fun _ g hg => by cases hg; exact ⟨hr, hb66.lt⟩⟩
    | 40, _, hoq =>
      obtain rfl : _ = o := Option.some.inj hoq
      have hs0 := hs
      replace hB := hB.tr0 hs
      replace hFr := hFr.of hs (by simp)
      replace hb0 := hb0.tr0 hs
      replace hb1 := hb1.tr0 hs
      replace hb2 := hb2.tr0 hs
      replace hb3 := hb3.tr0 hs
      replace hb4 := hb4.tr0 hs
      replace hb23 := hb23.tr0 hs
      replace hb5 := hb5.tr0 hs
      replace hbm := hbm.tr0 hs
      clear hs
      have d35 : ∃ b, gg 62 = .slice (some ⟨b, 0, none⟩) 7 7 ∧ IntsIn wx (some ⟨b, 0, none⟩) [1, 0, 1, 1, 3, 2, 4] := hd 35 (dep_of (by kernel_rfl))
      obtain ⟨b62, e62, hin62⟩ := d35
      have d36 : ∃ b, gg 63 = .slice (some ⟨b, 0, none⟩) 3 3 ∧ IntsIn wx (some ⟨b, 0, none⟩) [8, 4, 2] := hd 36 (dep_of (by kernel_rfl))
      obtain ⟨b63, e63, hin63⟩ := d36
      have d37 : ∃ b, gg 64 = .slice (some ⟨b, 0, none⟩) 1 1 ∧ IntsIn wx (some ⟨b, 0, none⟩) [3] := hd 37 (dep_of (by kernel_rfl))
      obtain ⟨b64, e64, hin64⟩ := d37
      have d38 : ∃ b, gg 65 = .slice (some ⟨b, 0, none⟩) 3 3 ∧ IntsIn wx (some ⟨b, 0, none⟩) [12, 4, 2] := hd 38 (dep_of (by kernel_rfl))
      obtain ⟨b65, e65, hin65⟩ := d38
      have d39 : ∃ b, gg 66 = .slice (some ⟨b, 0, none⟩) 1 1 ∧ IntsIn wx (some ⟨b, 0, none⟩) [7] := hd 39 (dep_of (by kernel_rfl))
      obtain ⟨b66, e66, hin66⟩ := d39
      refine os_know 62 (.slice (some ⟨b62, 0, none⟩) 7 7) e62 (by simp [undef]) ?_
      refine os_know 63 (.slice (some ⟨b63, 0, none⟩) 3 3) e63 (by simp [undef]) ?_
      refine os_know 64 (.slice (some ⟨b64, 0, none⟩) 1 1) e64 (by simp [undef]) ?_
      refine os_know 65 (.slice (some ⟨b65, 0, none⟩) 3 3) e65 (by simp [undef]) ?_
      refine os_know 66 (.slice (some ⟨b66, 0, none⟩) 1 1) e66 (by simp [undef]) ?_
      refine os_wl (fun ops Q K => ?_)
      refine wl_bs (cs := #[_, _, _, _, _]) [(0, .slice _ _ _), (1, .slice _ _ _), (2, .slice _ _ _), (3, .slice _ _ _), (4, .slice _ _ _)] rfl Tryd.underlying82 sz45 ze45 (by decide) (by decide) (by kernel_rfl) rfl (fun b67 w23 hb67 hs hr => ?_)
      exact K _ _ ⟨hs, ⟨_, rfl, rows_of_blk (rs := [[1, 0, 1, 1, 3, 2, 4], [8, 4, 2], [3], [12, 4, 2], [7]]) hb67 (.cons ⟨_, _, rfl, hin62.mono hs.bel, by decide, by decide⟩ (.cons ⟨_, _, rfl, hin63.mono hs.bel, by decide, by decide⟩ (.cons ⟨_, _, rfl, hin64.mono hs.bel, by decide, by decide⟩ (.cons ⟨_, _, rfl, hin65.mono hs.bel, by decide, by decide⟩ (.cons ⟨_, _, rfl, hin66.mono hs.bel, by decide, by decide⟩ .nil))))) (by decide)⟩, fun _ g hg => by cases hg; exact ⟨hr, hb67.lt⟩⟩
    | 41, _, hoq =>
      obtain rfl : _ = o := Option.some.inj hoq
      have hs0 := hs
      replace hB := hB.tr0 hs
      replace hFr := hFr.of hs (by simp)
      replace hb0 := hb0.tr0 hs
      replace hb1 := hb1.tr0 hs
      replace hb2 := hb2.tr0 hs
      replace hb3 := hb3.tr0 hs
      replace hb4 := hb4.tr0 hs
      replace hb23 := hb23.tr0 hs
      replace hb5 := hb5.tr0 hs
      replace hbm := hbm.tr0 hs
      clear hs
      have d40 : ∃ b, gg 67 = .slice (some ⟨b, 0, none⟩) 5 5 ∧ RowsIn wx (some ⟨b, 0, none⟩) [[1, 0, 1, 1, 3, 2, 4], [8, 4, 2], [3], [12, 4, 2], [7]] := hd 40 (dep_of (by kernel_rfl))
      obtain ⟨b67, e67, hrw67⟩ := d40
      refine os_know 67 (.slice (some ⟨b67, 0, none⟩) 5 5) e67 (by simp [undef]) ?_
      refine os_cl fn28 (graphOf_any _ _ [[1, 0, 1, 1, 3, 2, 4], [8, 4, 2], [3], [12, 4, 2], [7]] wx hrw67) rfl (fun e' w2 hr => ?_)
      obtain ⟨⟨q68_0, rfl, hq68_0⟩, hs⟩ := hr
      exact ⟨_, rfl, Same.of_bel hs, ⟨_, rfl, (by first | rfl | assumption)⟩, frsh_no⟩
    | 42, _, hoq =>
      obtain rfl : _ = o := Option.some.inj hoq
      have hs0 := hs
      replace hB := hB.tr0 hs
      replace hFr := hFr.of hs (by simp)
      replace hb0 := hb0.tr0 hs
      replace hb1 := hb1.tr0 hs
      replace hb2 := hb2.tr0 hs
      replace hb3 := hb3.tr0 hs
      replace hb4 := hb4.tr0 hs
      replace hb23 := hb23.tr0 hs
      replace hb5 := hb5.tr0 hs
      replace hbm := hbm.tr0 hs
      clear hs
      have d34 : ∃ x0 x1 x2 x3 x4 x5, gg 61 = .agg #[x0, x1, x2, x3, x4, x5] ∧ x0.oneCell' = true ∧ x1.oneCell' = true ∧ x2.oneCell' = true ∧ x3.oneCell' = true ∧ x4.oneCell' = true ∧ x5.oneCell' = true := hd 34 (dep_of (by kernel_rfl))
      obtain ⟨q61_0, q61_1, q61_2, q61_3, q61_4, q61_5, e61, hq61_0, hq61_1, hq61_2, hq61_3, hq61_4, hq61_5⟩ := d34
      have d41 : ∃ x0, gg 68 = .agg #[x0] ∧ x0.oneCell' = true := hd 41 (dep_of (by kernel_rfl))
      obtain ⟨q68_0, e68, hq68_0⟩ := d41
      refine os_know 61 (.agg #[q61_0, q61_1, q61_2, q61_3, q61_4, q61_5]) e61 (by simp [undef]) ?_
      refine os_know 68 (.agg #[q68_0]) e68 (by simp [undef]) ?_
      refine os_rv (r_bd5 (v0 := .string _) (v1 := .int _ _) (v2 := .int _ _) (v3 := .agg _) (v4 := .agg _) (fun v0 v1 v2 v3 v4 => #[v0, (cellOf v4 0), v1, v2, (cellOf v3 0), (cellOf v3 1), (cellOf v3 2), (cellOf v3 3), (cellOf v3 4), (cellOf v3 5)]) rfl rfl rfl rfl rfl (by kernel_rfl)) ⟨Same.refl _ _, ?_, frsh_no⟩
      exact ⟨_, _, _, _, _, _, _, _, _, _, rfl, (by first | rfl | assumption), (by first | rfl | assumption), (by first | rfl | assumption), (by first | rfl | assumption), (by first | rfl | assumption), (by first | rfl | assumption), (by first | rfl | assumption), (by first | rfl | assumption), (by first | rfl | assumption), (by first | rfl | assumption)⟩
    | 43, _, hoq =>
      obtain rfl : _ = o := Option.some.inj hoq
      have hs0 := hs
      replace hB := hB.tr0 hs
      replace hFr := hFr.of hs (by simp)
      replace hb0 := hb0.tr0 hs
      replace hb1 := hb1.tr0 hs
      replace hb2 := hb2.tr0 hs
      replace hb3 := hb3.tr0 hs
      replace hb4 := hb4.tr0 hs
      replace hb23 := hb23.tr0 hs
      replace hb5 := hb5.tr0 hs
      replace hbm := hbm.tr0 hs
      clear hs
      refine os_rv (r_mv (v := .slice _ _ _) rfl) ⟨Same.refl _ _, ?_, frsh_no⟩
      exact rfl
    | 44, _, hoq =>
      obtain rfl : _ = o := Option.some.inj hoq
      have hs0 := hs
      replace hB := hB.tr0 hs
      replace hFr := hFr.of hs (by simp)
      replace hb0 := hb0.tr0 hs
      replace hb1 := hb1.tr0 hs
      replace hb2 := hb2.tr0 hs
      replace hb3 := hb3.tr0 hs
      replace hb4 := hb4.tr0 hs
      replace hb23 := hb23.tr0 hs
      replace hb5 := hb5.tr0 hs
      replace hbm := hbm.tr0 hs
      clear hs
      have d43 : gg 70 = .slice (some ⟨bm, 0, none⟩) 6 6 := hd 43 (dep_of (by kernel_rfl))
      have e70 := d43
      refine os_know 70 (.slice (some ⟨bm, 0, none⟩) 6 6) e70 (by simp [undef]) ?_
      refine os_rv (r_ia (i := 4) Tryd.underlying75 sz78 rfl rfl (by decide) rfl) ⟨Same.refl _ _, ?_, frsh_no⟩
      exact rfl
    | 45, _, hoq =>
      obtain rfl : _ = o := Option.some.inj hoq
      have hs0 := hs
      replace hB := hB.tr0 hs
      replace hFr := hFr.of hs (by simp)
      replace hb0 := hb0.tr0 hs
      replace hb1 := hb1.tr0 hs
      replace hb2 := hb2.tr0 hs
      replace hb3 := hb3.tr0 hs
      replace hb4 := hb4.tr0 hs
      replace hb23 := hb23.tr0 hs
      replace hb5 := hb5.tr0 hs
      replace hbm := hbm.tr0 hs
      clear hs
      have d44 : gg 71 = .pointer (some ⟨bm, 0 + 4 * 6, none⟩) := hd 44 (dep_of (by kernel_rfl))
      have e71 := d44
      obtain ⟨z0, z1, z2, z3, z4, z5, hrg, oz0, oz1, oz2, oz3, oz4, oz5⟩ := blk_six (i := 4) hbm (by rw [hszm]; decide) honm
      refine os_know 71 (.pointer (some ⟨bm, 0 + 4 * 6, none⟩)) e71 (by simp [undef]) ?_
      refine os_rv (r_ldS Tryd.underlying78 rfl rfl hrg sz78) ⟨Same.refl _ _, ?_, frsh_no⟩
      exact ⟨_, _, _, _, _, _, rfl, (by first | rfl | assumption), (by first | rfl | assumption), (by first | rfl | assumption), (by first | rfl | assumption), (by first | rfl | assumption), (by first | rfl | assumption)⟩
    | 46, _, hoq =>
      obtain rfl : _ = o := Option.some.inj hoq
      have hs0 := hs
      replace hB := hB.tr0 hs
      replace hFr := hFr.of hs (by simp)
      replace hb0 := hb0.tr0 hs
      replace hb1 := hb1.tr0 hs
      replace hb2 := hb2.tr0 hs
      replace hb3 := hb3.tr0 hs
      replace hb4 := hb4.tr0 hs
      replace hb23 := hb23.tr0 hs
      replace hb5 := hb5.tr0 hs
      replace hbm := hbm.tr0 hs
      clear hs
      refine os_wl (fun ops Q K => ?_)
      refine wl_bs (cs := #[_, _, _, _, _, _, _]) [(0, .int _ _), (1, .int _ _), (2, .int _ _), (3, .int _ _), (4, .int _ _), (5, .int _ _), (6, .int _ _)] rfl Tryd.underlying45 sz3 ze3 (by decide) (by decide) (by kernel_rfl) rfl (fun b73 w24 hb73 hs hr => ?_)
      exact K _ _ ⟨hs, ⟨_, rfl, ints_of_blk [1, 0, 1, 1, 3, 2, 4] hb73 (by decide)⟩, fun _ g hg => by cases hg; exact ⟨hr, hb73.lt⟩⟩
    | 47, _, hoq =>
      obtain rfl : _ = o := Option.some.inj hoq
      have hs0 := hs
      replace hB := hB.tr0 hs
      replace hFr := hFr.of hs (by simp)
      replace hb0 := hb0.tr0 hs
      replace hb1 := hb1.tr0 hs
      replace hb2 := hb2.tr0 hs
      replace hb3 := hb3.tr0 hs
      replace hb4 := hb4.tr0 hs
      replace hb23 := hb23.tr0 hs
      replace hb5 := hb5.tr0 hs
      replace hbm := hbm.tr0 hs
      clear hs
      refine os_wl (fun ops Q K => ?_)
      refine wl_bs (cs := #[_, _, _]) [(0, .int _ _), (1, .int _ _), (2, .int _ _)] rfl Tryd.underlying45 sz3 ze3 (by decide) (by decide) (by kernel_rfl) rfl (fun b74 w25 hb74 hs hr => ?_)
      exact K _ _ ⟨hs, ⟨_, rfl, ints_of_blk [8, 4, 2] hb74 (by decide)⟩, fun _ g hg => by cases hg; exact ⟨hr, hb74.lt⟩⟩
    | 48, _, hoq =>
      obtain rfl : _ = o := Option.some.inj hoq
      have hs0 := hs
      replace hB := hB.tr0 hs
      replace hFr := hFr.of hs (by simp)
      replace hb0 := hb0.tr0 hs
      replace hb1 := hb1.tr0 hs
      replace hb2 := hb2.tr0 hs
      replace hb3 := hb3.tr0 hs
      replace hb4 := hb4.tr0 hs
      replace hb23 := hb23.tr0 hs
      replace hb5 := hb5.tr0 hs
      replace hbm := hbm.tr0 hs
      clear hs
      refine os_wl (fun ops Q K => ?_)
      refine wl_bs (cs := #[_]) [(0, .int _ _)] rfl Tryd.underlying45 sz3 ze3 (by decide) (by decide) (by kernel_rfl) rfl (fun b75 w26 hb75 hs hr => ?_)
      exact K _ _ ⟨hs, ⟨_, rfl, ints_of_blk [3] hb75 (by decide)⟩, fun _ g hg => by cases hg; exact ⟨hr, hb75.lt⟩⟩
    | 49, _, hoq =>
      obtain rfl : _ = o := Option.some.inj hoq
      have hs0 := hs
      replace hB := hB.tr0 hs
      replace hFr := hFr.of hs (by simp)
      replace hb0 := hb0.tr0 hs
      replace hb1 := hb1.tr0 hs
      replace hb2 := hb2.tr0 hs
      replace hb3 := hb3.tr0 hs
      replace hb4 := hb4.tr0 hs
      replace hb23 := hb23.tr0 hs
      replace hb5 := hb5.tr0 hs
      replace hbm := hbm.tr0 hs
      clear hs
      refine os_wl (fun ops Q K => ?_)
      refine wl_bs (cs := #[_]) [(0, .int _ _)] rfl Tryd.underlying45 sz3 ze3 (by decide) (by decide) (by kernel_rfl) rfl (fun b76 w27 hb76 hs hr => ?_)
      exact K _ _ ⟨hs, ⟨_, rfl, ints_of_blk [13] hb76 (by decide)⟩, fun _ g hg => by cases hg; exact ⟨hr, hb76.lt⟩⟩
    | 50, _, hoq =>
      obtain rfl : _ = o := Option.some.inj hoq
      have hs0 := hs
      replace hB := hB.tr0 hs
      replace hFr := hFr.of hs (by simp)
      replace hb0 := hb0.tr0 hs
      replace hb1 := hb1.tr0 hs
      replace hb2 := hb2.tr0 hs
      replace hb3 := hb3.tr0 hs
      replace hb4 := hb4.tr0 hs
      replace hb23 := hb23.tr0 hs
      replace hb5 := hb5.tr0 hs
      replace hbm := hbm.tr0 hs
      clear hs
      refine os_wl (fun ops Q K => ?_)
      refine wl_bs (cs := #[_, _, _]) [(0, .int _ _), (1, .int _ _), (2, .int _ _)] rfl Tryd.underlying45 sz3 ze3 (by decide) (by decide) (by kernel_rfl) rfl (fun b77 w28 hb77 hs hr => ?_)
      exact K _ _ ⟨hs, ⟨_, rfl, ints_of_blk [8, 4, 2] hb77 (by decide)⟩, fun _ g hg => by cases hg; exact ⟨hr, hb77.lt⟩⟩
    | 51, _, hoq =>
      obtain rfl : _ = o := Option.some.inj hoq
      have hs0 := hs
      replace hB := hB.tr0 hs
      replace hFr := hFr.of hs (by simp)
      replace hb0 := hb0.tr0 hs
      replace hb1 := hb1.tr0 hs
      replace hb2 := hb2.tr0 hs
      replace hb3 := hb3.tr0 hs
      replace hb4 := hb4.tr0 hs
      replace hb23 := hb23.tr0 hs
      replace hb5 := hb5.tr0 hs
      replace hbm := hbm.tr0 hs
      clear hs
      have d46 : ∃ b, gg 73 = .slice (some ⟨b, 0, none⟩) 7 7 ∧ IntsIn wx (some ⟨b, 0, none⟩) [1, 0, 1, 1, 3, 2, 4] := hd 46 (dep_of (by kernel_rfl))
      obtain ⟨b73, e73, hin73⟩ := d46
      have d47 : ∃ b, gg 74 = .slice (some ⟨b, 0, none⟩) 3 3 ∧ IntsIn wx (some ⟨b, 0, none⟩) [8, 4, 2] := hd 47 (dep_of (by kernel_rfl))
      obtain ⟨b74, e74, hin74⟩ := d47
      have d48 : ∃ b, gg 75 = .slice (some ⟨b, 0, none⟩) 1 1 ∧ IntsIn wx (some ⟨b, 0, none⟩) [3] := hd 48 (dep_of (by kernel_rfl))
      obtain ⟨b75, e75, hin75⟩ := d48
      have d49 : ∃ b, gg 76 = .slice (some ⟨b, 0, none⟩) 1 1 ∧ IntsIn wx (some ⟨b, 0, none⟩) [13] := hd 49 (dep_of (by kernel_rfl))
      obtain ⟨b76, e76, hin76⟩ := d49
      have d50 : ∃ b, gg 77 = .slice (some ⟨b, 0, none⟩) 3 3 ∧ IntsIn wx (some ⟨b, 0, none⟩) [8, 4, 2] := hd 50 (dep_of (by kernel_rfl))
      obtain ⟨b77, e77, hin77⟩ := d50
      refine os_know 73 (.slice (some ⟨b73, 0, none⟩) 7 7) e73 (by simp [undef]) ?_
      refine os_know 74 (.slice (some ⟨b74, 0, none⟩) 3 3) e74 (by simp [undef]) ?_
      refine os_know 75 (.slice (some ⟨b75, 0, none⟩) 1 1) e75 (by simp [undef]) ?_
      refine os_know 76 (.slice (some ⟨b76, 0, none⟩) 1 1) e76 (by simp [undef]) ?_
      refine os_know 77 (.slice (some ⟨b77, 0, none⟩) 3 3) e77 (by simp [undef]) ?_
      refine os_wl (fun ops Q K => ?_)
      refine wl_bs (cs := #[_, _, _, _, _]) [(0, .slice _ _ _), (1, .slice _ _ _), (2, .slice _ _ _), (3, .slice _ _ _), (4, .slice _ _ _)] rfl Tryd.underlying82 sz45 ze45 (by decide) (by decide) (by kernel_rfl) rfl (fun b78 w29 hb78 hs hr => ?_)
      exact K _ _ ⟨hs, ⟨_, rfl, rows_of_blk (rs := [[1, 0, 1, 1, 3, 2, 4], [8, 4, 2], [3], [13], [8, 4, 2]]) hb78 (.cons ⟨_, _, rfl, hin73.mono hs.bel, by decide, by decide⟩ (.cons ⟨_, _, rfl, hin74.mono hs.bel, by decide, by decide⟩ (.cons ⟨_, _, rfl, hin75.mono hs.bel, by decide, by decide⟩ (.cons ⟨_, _, rfl, hin76.mono hs.bel, by decide, by decide⟩ (.cons ⟨_, _, rfl, hin77.mono hs.bel, by decide, by decide⟩ .nil))))) (by decide)⟩, fun _ g hg => by cases hg; exact ⟨hr, hb78.lt⟩⟩
    | 52, _, hoq =>
      obtain rfl : _ = o := Option.some.inj hoq
      have hs0 := hs
      replace hB := hB.tr0 hs
      replace hFr := hFr.of hs (by simp)
      replace hb0 := hb0.tr0 hs
      replace hb1 := hb1.tr0 hs
      replace hb2 := hb2.tr0 hs
      replace hb3 := hb3.tr0 hs
      replace hb4 := hb4.tr0 hs
      replace hb23 := hb23.tr0 hs
      replace hb5 := hb5.tr0 hs
      replace hbm := hbm.tr0 hs
      clear hs
      have d51 : ∃ b, gg 78 = .slice (some ⟨b, 0, none⟩) 5 5 ∧ RowsIn wx (some ⟨b, 0, none⟩) [[1, 0, 1, 1, 3, 2, 4], [8, 4, 2], [3], [13], [8, 4, 2]] := hd 51 (dep_of (by kernel_rfl))
      obtain ⟨b78, e78, hrw78⟩ := d51
      refine os_know 78 (.slice (some ⟨b78, 0, none⟩) 5 5) e78 (by simp [undef]) ?_
      refine os_cl fn28 (graphOf_any _ _ [[1, 0, 1, 1, 3, 2, 4], [8, 4, 2], [3], [13], [8, 4, 2]] wx hrw78) rfl (fun e' w2 hr => ?_)
      obtain ⟨⟨q79_0, rfl, hq79_0⟩, hs⟩ := hr
      exact ⟨_, rfl, Same.of_bel hs, ⟨_, rfl, (by first | rfl | assumption)⟩, frsh_no⟩
    | 53, _, hoq =>
      obtain rfl : _ = o := Option.some.inj hoq
      have hs0 := hs
      replace hB := hB.tr0 hs
      replace hFr := hFr.of hs (by simp)
      replace hb0 := hb0.tr0 hs
      replace hb1 := hb1.tr0 hs
      replace hb2 := hb2.tr0 hs
      replace hb3 := hb3.tr0 hs
      replace hb4 := hb4.tr0 hs
      replace hb23 := hb23.tr0 hs
      replace hb5 := hb5.tr0 hs
      replace hbm := hbm.tr0 hs
      clear hs
      have d45 : ∃ x0 x1 x2 x3 x4 x5, gg 72 = .agg #[x0, x1, x2, x3, x4, x5] ∧ x0.oneCell' = true ∧ x1.oneCell' = true ∧ x2.oneCell' = true ∧ x3.oneCell' = true ∧ x4.oneCell' = true ∧ x5.oneCell' = true := hd 45 (dep_of (by kernel_rfl))
      obtain ⟨q72_0, q72_1, q72_2, q72_3, q72_4, q72_5, e72, hq72_0, hq72_1, hq72_2, hq72_3, hq72_4, hq72_5⟩ := d45
      have d52 : ∃ x0, gg 79 = .agg #[x0] ∧ x0.oneCell' = true := hd 52 (dep_of (by kernel_rfl))
      obtain ⟨q79_0, e79, hq79_0⟩ := d52
      refine os_know 72 (.agg #[q72_0, q72_1, q72_2, q72_3, q72_4, q72_5]) e72 (by simp [undef]) ?_
      refine os_know 79 (.agg #[q79_0]) e79 (by simp [undef]) ?_
      refine os_rv (r_bd5 (v0 := .string _) (v1 := .int _ _) (v2 := .int _ _) (v3 := .agg _) (v4 := .agg _) (fun v0 v1 v2 v3 v4 => #[v0, (cellOf v4 0), v1, v2, (cellOf v3 0), (cellOf v3 1), (cellOf v3 2), (cellOf v3 3), (cellOf v3 4), (cellOf v3 5)]) rfl rfl rfl rfl rfl (by kernel_rfl)) ⟨Same.refl _ _, ?_, frsh_no⟩
      exact ⟨_, _, _, _, _, _, _, _, _, _, rfl, (by first | rfl | assumption), (by first | rfl | assumption), (by first | rfl | assumption), (by first | rfl | assumption), (by first | rfl | assumption), (by first | rfl | assumption), (by first | rfl | assumption), (by first | rfl | assumption), (by first | rfl | assumption), (by first | rfl | assumption)⟩
    | 54, _, hoq =>
      obtain rfl : _ = o := Option.some.inj hoq
      have hs0 := hs
      replace hB := hB.tr0 hs
      replace hFr := hFr.of hs (by simp)
      replace hb0 := hb0.tr0 hs
      replace hb1 := hb1.tr0 hs
      replace hb2 := hb2.tr0 hs
      replace hb3 := hb3.tr0 hs
      replace hb4 := hb4.tr0 hs
      replace hb23 := hb23.tr0 hs
      replace hb5 := hb5.tr0 hs
      replace hbm := hbm.tr0 hs
      clear hs
      refine os_rv (r_mv (v := .slice _ _ _) rfl) ⟨Same.refl _ _, ?_, frsh_no⟩
      exact rfl
    | 55, _, hoq =>
      obtain rfl : _ = o := Option.some.inj hoq
      have hs0 := hs
      replace hB := hB.tr0 hs
      replace hFr := hFr.of hs (by simp)
      replace hb0 := hb0.tr0 hs
      replace hb1 := hb1.tr0 hs
      replace hb2 := hb2.tr0 hs
      replace hb3 := hb3.tr0 hs
      replace hb4 := hb4.tr0 hs
      replace hb23 := hb23.tr0 hs
      replace hb5 := hb5.tr0 hs
      replace hbm := hbm.tr0 hs
      clear hs
      have d54 : gg 81 = .slice (some ⟨bm, 0, none⟩) 6 6 := hd 54 (dep_of (by kernel_rfl))
      have e81 := d54
      refine os_know 81 (.slice (some ⟨bm, 0, none⟩) 6 6) e81 (by simp [undef]) ?_
      refine os_rv (r_ia (i := 5) Tryd.underlying75 sz78 rfl rfl (by decide) rfl) ⟨Same.refl _ _, ?_, frsh_no⟩
      exact rfl
    | 56, _, hoq =>
      obtain rfl : _ = o := Option.some.inj hoq
      have hs0 := hs
      replace hB := hB.tr0 hs
      replace hFr := hFr.of hs (by simp)
      replace hb0 := hb0.tr0 hs
      replace hb1 := hb1.tr0 hs
      replace hb2 := hb2.tr0 hs
      replace hb3 := hb3.tr0 hs
      replace hb4 := hb4.tr0 hs
      replace hb23 := hb23.tr0 hs
      replace hb5 := hb5.tr0 hs
      replace hbm := hbm.tr0 hs
      clear hs
      have d55 : gg 82 = .pointer (some ⟨bm, 0 + 5 * 6, none⟩) := hd 55 (dep_of (by kernel_rfl))
      have e82 := d55
      obtain ⟨z0, z1, z2, z3, z4, z5, hrg, oz0, oz1, oz2, oz3, oz4, oz5⟩ := blk_six (i := 5) hbm (by rw [hszm]; decide) honm
      refine os_know 82 (.pointer (some ⟨bm, 0 + 5 * 6, none⟩)) e82 (by simp [undef]) ?_
      refine os_rv (r_ldS Tryd.underlying78 rfl rfl hrg sz78) ⟨Same.refl _ _, ?_, frsh_no⟩
      exact ⟨_, _, _, _, _, _, rfl, (by first | rfl | assumption), (by first | rfl | assumption), (by first | rfl | assumption), (by first | rfl | assumption), (by first | rfl | assumption), (by first | rfl | assumption)⟩
    | 57, _, hoq =>
      obtain rfl : _ = o := Option.some.inj hoq
      have hs0 := hs
      replace hB := hB.tr0 hs
      replace hFr := hFr.of hs (by simp)
      replace hb0 := hb0.tr0 hs
      replace hb1 := hb1.tr0 hs
      replace hb2 := hb2.tr0 hs
      replace hb3 := hb3.tr0 hs
      replace hb4 := hb4.tr0 hs
      replace hb23 := hb23.tr0 hs
      replace hb5 := hb5.tr0 hs
      replace hbm := hbm.tr0 hs
      clear hs
      refine os_wl (fun ops Q K => ?_)
      refine wl_bs (cs := #[_, _, _, _, _, _, _, _, _]) [(0, .int _ _), (1, .int _ _), (2, .int _ _), (3, .int _ _), (4, .int _ _), (5, .int _ _), (6, .int _ _), (7, .int _ _), (8, .int _ _)] rfl Tryd.underlying45 sz3 ze3 (by decide) (by decide) (by kernel_rfl) rfl (fun b84 w30 hb84 hs hr => ?_)
      exact K _ _ ⟨hs, ⟨_, rfl, ints_of_blk [1, 0, 1, 1, 3, 2, 4, 3, 5] hb84 (by decide)⟩, fun _ g hg => by cases hg; exact ⟨hr, hb84.lt⟩⟩
    | 58, _, hoq =>
      obtain rfl : _ = o := Option.some.inj hoq
      have hs0 := hs
      replace hB := hB.tr0 hs
      replace hFr := hFr.of hs (by simp)
      replace hb0 := hb0.tr0 hs
      replace hb1 := hb1.tr0 hs
      replace hb2 := hb2.tr0 hs
      replace hb3 := hb3.tr0 hs
      replace hb4 := hb4.tr0 hs
      replace hb23 := hb23.tr0 hs
      replace hb5 := hb5.tr0 hs
      replace hbm := hbm.tr0 hs
      clear hs
      refine os_wl (fun ops Q K => ?_)
      refine wl_bs (cs := #[_, _, _]) [(0, .int _ _), (1, .int _ _), (2, .int _ _)] rfl Tryd.underlying45 sz3 ze3 (by decide) (by decide) (by kernel_rfl) rfl (fun b85 w31 hb85 hs hr => ?_)
      exact K _ _ ⟨hs, ⟨_, rfl, ints_of_blk [7, 4, 2] hb85 (by decide)⟩, fun _ g hg => by cases hg; exact ⟨hr, hb85.lt⟩⟩
    | 59, _, hoq =>
      obtain rfl : _ = o := Option.some.inj hoq
      have hs0 := hs
      replace hB := hB.tr0 hs
      replace hFr := hFr.of hs (by simp)
      replace hb0 := hb0.tr0 hs
      replace hb1 := hb1.tr0 hs
      replace hb2 := hb2.tr0 hs
      replace hb3 := hb3.tr0 hs
      replace hb4 := hb4.tr0 hs
      replace hb23 := hb23.tr0 hs
      replace hb5 := hb5.tr0 hs
      replace hbm := hbm.tr0 hs
      clear hs
      refine os_wl (fun ops Q K => ?_)
      refine wl_bs (cs := #[_]) [(0, .int _ _)] rfl Tryd.underlying45 sz3 ze3 (by decide) (by decide) (by kernel_rfl) rfl (fun b86 w32 hb86 hs hr => ?_)
      exact K _ _ ⟨hs, ⟨_, rfl, ints_of_blk [5] hb86 (by decide)⟩, fun _ g hg => by cases hg; exact ⟨hr, hb86.lt⟩⟩
    | 60, _, hoq =>
      obtain rfl : _ = o := Option.some.inj hoq
      have hs0 := hs
      replace hB := hB.tr0 hs
      replace hFr := hFr.of hs (by simp)
      replace hb0 := hb0.tr0 hs
      replace hb1 := hb1.tr0 hs
      replace hb2 := hb2.tr0 hs
      replace hb3 := hb3.tr0 hs
      replace hb4 := hb4.tr0 hs
      replace hb23 := hb23.tr0 hs
      replace hb5 := hb5.tr0 hs
      replace hbm := hbm.tr0 hs
      clear hs
      refine os_wl (fun ops Q K => ?_)
      refine wl_bs (cs := #[_]) [(0, .int _ _)] rfl Tryd.underlying45 sz3 ze3 (by decide) (by decide) (by kernel_rfl) rfl (fun b87 w33 hb87 hs hr => ?_)
      exact K _ _ ⟨hs, ⟨_, rfl, ints_of_blk [7] hb87 (by decide)⟩, fun _ g hg => by cases hg; exact ⟨hr, hb87.lt⟩⟩
    | 61, _, hoq =>
      obtain rfl : _ = o := Option.some.inj hoq
      have hs0 := hs
      replace hB := hB.tr0 hs
      replace hFr := hFr.of hs (by simp)
      replace hb0 := hb0.tr0 hs
      replace hb1 := hb1.tr0 hs
      replace hb2 := hb2.tr0 hs
      replace hb3 := hb3.tr0 hs
      replace hb4 := hb4.tr0 hs
      replace hb23 := hb23.tr0 hs
      replace hb5 := hb5.tr0 hs
      replace hbm := hbm.tr0 hs
      clear hs
      refine os_wl (fun ops Q K => ?_)
      refine wl_bs (cs := #[_]) [(0, .int _ _)] rfl Tryd.underlying45 sz3 ze3 (by decide) (by decide) (by kernel_rfl) rfl (fun b88 w34 hb88 hs hr => ?_)
      exact K _ _ ⟨hs, ⟨_, rfl, ints_of_blk [14] hb88 (by decide)⟩, fun _ g hg => by cases hg; exact ⟨hr, hb88.lt⟩⟩
    | 62, _, hoq =>
      obtain rfl : _ = o := Option.some.inj hoq
      have hs0 := hs
      replace hB := hB.tr0 hs
      replace hFr := hFr.of hs (by simp)
      replace hb0 := hb0.tr0 hs
      replace hb1 := hb1.tr0 hs
      replace hb2 := hb2.tr0 hs
      replace hb3 := hb3.tr0 hs
      replace hb4 := hb4.tr0 hs
      replace hb23 := hb23.tr0 hs
      replace hb5 := hb5.tr0 hs
      replace hbm := hbm.tr0 hs
      clear hs
      refine os_wl (fun ops Q K => ?_)
      refine wl_bs (cs := #[_]) [(0, .int _ _)] rfl Tryd.underlying45 sz3 ze3 (by decide) (by decide) (by kernel_rfl) rfl (fun b89 w35 hb89 hs hr => ?_)
      exact K _ _ ⟨hs, ⟨_, rfl, ints_of_blk [7] hb89 (by decide)⟩, fun _ g hg => by cases hg; exact ⟨hr, hb89.lt⟩⟩
    | 63, _, hoq =>
      obtain rfl : _ = o := Option.some.inj hoq
      have hs0 := hs
      replace hB := hB.tr0 hs
      replace hFr := hFr.of hs (by simp)
      replace hb0 := hb0.tr0 hs
      replace hb1 := hb1.tr0 hs
      replace hb2 := hb2.tr0 hs
      replace hb3 := hb3.tr0 hs
      replace hb4 := hb4.tr0 hs
      replace hb23 := hb23.tr0 hs
      replace hb5 := hb5.tr0 hs
      replace hbm := hbm.tr0 hs
      clear hs
      have d57 : ∃ b, gg 84 = .slice (some ⟨b, 0, none⟩) 9 9 ∧ IntsIn wx (some ⟨b, 0, none⟩) [1, 0, 1, 1, 3, 2, 4, 3, 5] := hd 57 (dep_of (by kernel_rfl))
      obtain ⟨b84, e84, hin84⟩ := d57
      have d58 : ∃ b, gg 85 = .slice (some ⟨b, 0, none⟩) 3 3 ∧ IntsIn wx (some ⟨b, 0, none⟩) [7, 4, 2] := hd 58 (dep_of (by kernel_rfl))
      obtain ⟨b85, e85, hin85⟩ := d58
      have d59 : ∃ b, gg 86 = .slice (some ⟨b, 0, none⟩) 1 1 ∧ IntsIn wx (some ⟨b, 0, none⟩) [5] := hd 59 (dep_of (by kernel_rfl))
      obtain ⟨b86, e86, hin86⟩ := d59
      have d60 : ∃ b, gg 87 = .slice (some ⟨b, 0, none⟩) 1 1 ∧ IntsIn wx (some ⟨b, 0, none⟩) [7] := hd 60 (dep_of (by kernel_rfl))
      obtain ⟨b87, e87, hin87⟩ := d60
      have d61 : ∃ b, gg 88 = .slice (some ⟨b, 0, none⟩) 1 1 ∧ IntsIn wx (some ⟨b, 0, none⟩) [14] := hd 61 (dep_of (by kernel_rfl))
      obtain ⟨b88, e88, hin88⟩ := d61
      have d62 : ∃ b, gg 89 = .slice (some ⟨b, 0, none⟩) 1 1 ∧ IntsIn wx (some ⟨b, 0, none⟩) [7] := hd 62 (dep_of (by kernel_rfl))
      obtain ⟨b89, e89, hin89⟩ := d62
      refine os_know 84 (.slice (some ⟨b84, 0, none⟩) 9 9) e84 (by simp [undef]) ?_
      refine os_know 85 (.slice (some ⟨b85, 0, none⟩) 3 3) e85 (by simp [undef]) ?_
      refine os_know 86 (.slice (some ⟨b86, 0, none⟩) 1 1) e86 (by simp [undef]) ?_
      refine os_know 87 (.slice (some ⟨b87, 0, none⟩) 1 1) e87 (by simp [undef]) ?_
      refine os_know 88 (.slice (some ⟨b88, 0, none⟩) 1 1) e88 (by simp [undef]) ?_
      refine os_know 89 (.slice (some ⟨b89, 0, none⟩) 1 1) e89 (by simp [undef]) ?_
      refine os_wl (fun ops Q K => ?_)
      refine wl_bs (cs := #[_, _, _, _, _, _]) [(0, .slice _ _ _), (1, .slice _ _ _), (2, .slice _ _ _), (3, .slice _ _ _), (4, .slice _ _ _), (5, .slice _ _ _)] rfl Tryd.underlying82 sz45 ze45 (by decide) (by decide) (by kernel_rfl) rfl (fun b90 w36 hb90 hs hr => ?_)
      exact K _ _ ⟨hs, ⟨_, rfl, rows_of_blk (rs := [[1, 0, 1, 1, 3, 2, 4, 3, 5], [7, 4, 2], [5], [7], [14], [7]]) hb90 (.cons ⟨_, _, rfl, hin84.mono hs.bel, by decide, by decide⟩ (.cons ⟨_, _, rfl, hin85.mono hs.bel, by decide, by decide⟩ (.cons ⟨_, _, rfl, hin86.mono hs.bel, by decide, by decide⟩ (.cons ⟨_, _, rfl, hin87.mono hs.bel, by decide, by decide⟩ (.cons ⟨_, _, rfl, hin88.mono hs.bel, by decide, by decide⟩ (.cons ⟨_, _, rfl, hin89.mono hs.bel, by decide, by decide⟩ .nil)))))) (by decide)⟩, fun _ g hg => by cases hg; exact ⟨hr, hb90.lt⟩⟩
    | 64, _, hoq =>
      obtain rfl : _ = o := Option.some.inj hoq
      have hs0 := hs
      replace hB := hB.tr0 hs
      replace hFr := hFr.of hs (by simp)
      replace hb0 := hb0.tr0 hs
      replace hb1 := hb1.tr0 hs
      replace hb2 := hb2.tr0 hs
      replace hb3 := hb3.tr0 hs
      replace hb4 := hb4.tr0 hs
      replace hb23 := hb23.tr0 hs
      replace hb5 := hb5.tr0 hs
      replace hbm := hbm.tr0 hs
      clear hs
      have d63 : ∃ b, gg 90 = .slice (some ⟨b, 0, none⟩) 6 6 ∧ RowsIn wx (some ⟨b, 0, none⟩) [[1, 0, 1, 1, 3, 2, 4, 3, 5], [7, 4, 2], [5], [7], [14], [7]] := hd 63 (dep_of (by kernel_rfl))
      obtain ⟨b90, e90, hrw90⟩ := d63
      refine os_know 90 (.slice (some ⟨b90, 0, none⟩) 6 6) e90 (by simp [undef]) ?_
      refine os_cl fn28 (graphOf_any _ _ [[1, 0, 1, 1, 3, 2, 4, 3, 5], [7, 4, 2], [5], [7], [14], [7]] wx hrw90) rfl (fun e' w2 hr => ?_)
      obtain ⟨⟨q91_0, rfl, hq91_0⟩, hs⟩ := hr
      exact ⟨_, rfl, Same.of_bel hs, ⟨_, rfl, (by first | rfl | assumption)⟩, frsh_no⟩
    | 65, _, hoq =>
      obtain rfl : _ = o := Option.some.inj hoq
      have hs0 := hs
      replace hB := hB.tr0 hs
      replace hFr := hFr.of hs (by simp)
      replace hb0 := hb0.tr0 hs
      replace hb1 := hb1.tr0 hs
      replace hb2 := hb2.tr0 hs
      replace hb3 := hb3.tr0 hs
      replace hb4 := hb4.tr0 hs
      replace hb23 := hb23.tr0 hs
      replace hb5 := hb5.tr0 hs
      replace hbm := hbm.tr0 hs
      clear hs
      have d56 : ∃ x0 x1 x2 x3 x4 x5, gg 83 = .agg #[x0, x1, x2, x3, x4, x5] ∧ x0.oneCell' = true ∧ x1.oneCell' = true ∧ x2.oneCell' = true ∧ x3.oneCell' = true ∧ x4.oneCell' = true ∧ x5.oneCell' = true := hd 56 (dep_of (by kernel_rfl))
      obtain ⟨q83_0, q83_1, q83_2, q83_3, q83_4, q83_5, e83, hq83_0, hq83_1, hq83_2, hq83_3, hq83_4, hq83_5⟩ := d56
      have d64 : ∃ x0, gg 91 = .agg #[x0] ∧ x0.oneCell' = true := hd 64 (dep_of (by kernel_rfl))
      obtain ⟨q91_0, e91, hq91_0⟩ := d64
      refine os_know 83 (.agg #[q83_0, q83_1, q83_2, q83_3, q83_4, q83_5]) e83 (by simp [undef]) ?_
      refine os_know 91 (.agg #[q91_0]) e91 (by simp [undef]) ?_
      refine os_rv (r_bd5 (v0 := .string _) (v1 := .int _ _) (v2 := .int _ _) (v3 := .agg _) (v4 := .agg _) (fun v0 v1 v2 v3 v4 => #[v0, (cellOf v4 0), v1, v2, (cellOf v3 0), (cellOf v3 1), (cellOf v3 2), (cellOf v3 3), (cellOf v3 4), (cellOf v3 5)]) rfl rfl rfl rfl rfl (by kernel_rfl)) ⟨Same.refl _ _, ?_, frsh_no⟩
      exact ⟨_, _, _, _, _, _, _, _, _, _, rfl, (by first | rfl | assumption), (by first | rfl | assumption), (by first | rfl | assumption), (by first | rfl | assumption), (by first | rfl | assumption), (by first | rfl | assumption), (by first | rfl | assumption), (by first | rfl | assumption), (by first | rfl | assumption), (by first | rfl | assumption)⟩
    | 66, _, hoq =>
      obtain rfl : _ = o := Option.some.inj hoq
      have hs0 := hs
      replace hB := hB.tr0 hs
      replace hFr := hFr.of hs (by simp)
      replace hb0 := hb0.tr0 hs
      replace hb1 := hb1.tr0 hs
      replace hb2 := hb2.tr0 hs
      replace hb3 := hb3.tr0 hs
      replace hb4 := hb4.tr0 hs
      replace hb23 := hb23.tr0 hs
      replace hb5 := hb5.tr0 hs
      replace hbm := hbm.tr0 hs
      clear hs
      have d10 : ∃ x0 x1 x2 x3 x4 x5 x6 x7 x8 x9, gg 37 = .agg #[x0, x1, x2, x3, x4, x5, x6, x7, x8, x9] ∧ x0.oneCell' = true ∧ x1.oneCell' = true ∧ x2.oneCell' = true ∧ x3.oneCell' = true ∧ x4.oneCell' = true ∧ x5.oneCell' = true ∧ x6.oneCell' = true ∧ x7.oneCell' = true ∧ x8.oneCell' = true ∧ x9.oneCell' = true := hd 10 (dep_of (by kernel_rfl))
      obtain ⟨q37_0, q37_1, q37_2, q37_3, q37_4, q37_5, q37_6, q37_7, q37_8, q37_9, e37, hq37_0, hq37_1, hq37_2, hq37_3, hq37_4, hq37_5, hq37_6, hq37_7, hq37_8, hq37_9⟩ := d10
      have d21 : ∃ x0 x1 x2 x3 x4 x5 x6 x7 x8 x9, gg 48 = .agg #[x0, x1, x2, x3, x4, x5, x6, x7, x8, x9] ∧ x0.oneCell' = true ∧ x1.oneCell' = true ∧ x2.oneCell' = true ∧ x3.oneCell' = true ∧ x4.oneCell' = true ∧ x5.oneCell' = true ∧ x6.oneCell' = true ∧ x7.oneCell' = true ∧ x8.oneCell' = true ∧ x9.oneCell' = true := hd 21 (dep_of (by kernel_rfl))
      obtain ⟨q48_0, q48_1, q48_2, q48_3, q48_4, q48_5, q48_6, q48_7, q48_8, q48_9, e48, hq48_0, hq48_1, hq48_2, hq48_3, hq48_4, hq48_5, hq48_6, hq48_7, hq48_8, hq48_9⟩ := d21
      have d31 : ∃ x0 x1 x2 x3 x4 x5 x6 x7 x8 x9, gg 58 = .agg #[x0, x1, x2, x3, x4, x5, x6, x7, x8, x9] ∧ x0.oneCell' = true ∧ x1.oneCell' = true ∧ x2.oneCell' = true ∧ x3.oneCell' = true ∧ x4.oneCell' = true ∧ x5.oneCell' = true ∧ x6.oneCell' = true ∧ x7.oneCell' = true ∧ x8.oneCell' = true ∧ x9.oneCell' = true := hd 31 (dep_of (by kernel_rfl))
      obtain ⟨q58_0, q58_1, q58_2, q58_3, q58_4, q58_5, q58_6, q58_7, q58_8, q58_9, e58, hq58_0, hq58_1, hq58_2, hq58_3, hq58_4, hq58_5, hq58_6, hq58_7, hq58_8, hq58_9⟩ := d31
      have d42 : ∃ x0 x1 x2 x3 x4 x5 x6 x7 x8 x9, gg 69 = .agg #[x0, x1, x2, x3, x4, x5, x6, x7, x8, x9] ∧ x0.oneCell' = true ∧ x1.oneCell' = true ∧ x2.oneCell' = true ∧ x3.oneCell' = true ∧ x4.oneCell' = true ∧ x5.oneCell' = true ∧ x6.oneCell' = true ∧ x7.oneCell' = true ∧ x8.oneCell' = true ∧ x9.oneCell' = true := hd 42 (dep_of (by kernel_rfl))
      obtain ⟨q69_0, q69_1, q69_2, q69_3, q69_4, q69_5, q69_6, q69_7, q69_8, q69_9, e69, hq69_0, hq69_1, hq69_2, hq69_3, hq69_4, hq69_5, hq69_6, hq69_7, hq69_8, hq69_9⟩ := d42
      have d53 : ∃ x0 x1 x2 x3 x4 x5 x6 x7 x8 x9, gg 80 = .agg #[x0, x1, x2, x3, x4, x5, x6, x7, x8, x9] ∧ x0.oneCell' = true ∧ x1.oneCell' = true ∧ x2.oneCell' = true ∧ x3.oneCell' = true ∧ x4.oneCell' = true ∧ x5.oneCell' = true ∧ x6.oneCell' = true ∧ x7.oneCell' = true ∧ x8.oneCell' = true ∧ x9.oneCell' = true := hd 53 (dep_of (by kernel_rfl))
      obtain ⟨q80_0, q80_1, q80_2, q80_3, q80_4, q80_5, q80_6, q80_7, q80_8, q80_9, e80, hq80_0, hq80_1, hq80_2, hq80_3, hq80_4, hq80_5, hq80_6, hq80_7, hq80_8, hq80_9⟩ := d53
      have d65 : ∃ x0 x1 x2 x3 x4 x5 x6 x7 x8 x9, gg 92 = .agg #[x0, x1, x2, x3, x4, x5, x6, x7, x8, x9] ∧ x0.oneCell' = true ∧ x1.oneCell' = true ∧ x2.oneCell' = true ∧ x3.oneCell' = true ∧ x4.oneCell' = true ∧ x5.oneCell' = true ∧ x6.oneCell' = true ∧ x7.oneCell' = true ∧ x8.oneCell' = true ∧ x9.oneCell' = true := hd 65 (dep_of (by kernel_rfl))
      obtain ⟨q92_0, q92_1, q92_2, q92_3, q92_4, q92_5, q92_6, q92_7, q92_8, q92_9, e92, hq92_0, hq92_1, hq92_2, hq92_3, hq92_4, hq92_5, hq92_6, hq92_7, hq92_8, hq92_9⟩ := d65
      refine os_know 37 (.agg #[q37_0, q37_1, q37_2, q37_3, q37_4, q37_5, q37_6, q37_7, q37_8, q37_9]) e37 (by simp [undef]) ?_
      refine os_know 48 (.agg #[q48_0, q48_1, q48_2, q48_3, q48_4, q48_5, q48_6, q48_7, q48_8, q48_9]) e48 (by simp [undef]) ?_
      refine os_know 58 (.agg #[q58_0, q58_1, q58_2, q58_3, q58_4, q58_5, q58_6, q58_7, q58_8, q58_9]) e58 (by simp [undef]) ?_
      refine os_know 69 (.agg #[q69_0, q69_1, q69_2, q69_3, q69_4, q69_5, q69_6, q69_7, q69_8, q69_9]) e69 (by simp [undef]) ?_
      refine os_know 80 (.agg #[q80_0, q80_1, q80_2, q80_3, q80_4, q80_5, q80_6, q80_7, q80_8, q80_9]) e80 (by simp [undef]) ?_
      refine os_know 92 (.agg #[q92_0, q92_1, q92_2, q92_3, q92_4, q92_5, q92_6, q92_7, q92_8, q92_9]) e92 (by simp [undef]) ?_
      refine os_wl (fun ops Q K => ?_)
      refine wl_bs (cs := #[_, _, _, _, _, _, _, _, _, _, _, _, _, _, _, _, _, _, _, _, _, _, _, _, _, _, _, _, _, _, _, _, _, _, _, _, _, _, _, _, _, _, _, _, _, _, _, _, _, _, _, _, _, _, _, _, _, _, _, _]) [(0, .agg _), (1, .agg _), (2, .agg _), (3, .agg _), (4, .agg _), (5, .agg _)] rfl Tryd.underlying30 sz81 ze81 (by decide) (by decide) (by kernel_rfl) rfl (fun b93 w37 hb93 hs hr => ?_)
      exact K _ _ ⟨hs, ⟨_, rfl⟩, fun _ g hg => by cases hg; exact ⟨hr, hb93.lt⟩⟩
    | _ + 67, hix, _ => exact absurd hix (by omega)
  · intro gg w38 hs hR hdis
    have hs0 := hs
    replace hB := hB.tr0 hs
    replace hFr := hFr.of hs (by simp)
    replace hb0 := hb0.tr0 hs
    replace hb1 := hb1.tr0 hs
    replace hb2 := hb2.tr0 hs
    replace hb3 := hb3.tr0 hs
    replace hb4 := hb4.tr0 hs
    replace hb23 := hb23.tr0 hs
    replace hb5 := hb5.tr0 hs
    replace hbm := hbm.tr0 hs
    clear hs
    have d66 : ∃ b, gg 93 = .slice (some ⟨b, 0, none⟩) 6 6 := hR 66 (by decide)
    obtain ⟨b93, e93⟩ := d66
    refine wl_know 93 (.slice (some ⟨b93, 0, none⟩) 6 6) e93 (by simp [undef]) ?_
    refine wl (r_fa Tryd.underlying36 sz30 (by decide) rfl rfl rfl) ?_
    refine wl_st1 (v := .slice _ _ _) hb5 rfl rfl sz30 (by first | decide | simp) rfl rfl (fun w39 hq hs => ?_)
    replace hB := hB.tr1 hs lo5
    replace hFr := hFr.of hs (fun g hg => by rw [List.mem_singleton.1 hg]; omega)
    replace hb0 := hb0.tr1 hs (by omega)
    replace hb1 := hb1.tr1 hs (by omega)
    replace hb2 := hb2.tr1 hs (by omega)
    replace hb3 := hb3.tr1 hs (by omega)
    replace hb4 := hb4.tr1 hs (by omega)
    replace hb23 := hb23.tr1 hs (by omega)
    replace hbm := hbm.tr1 hs (by omega)
    clear hs
    replace hb5 := hq
    refine x_nil ?_
    refine e_R ⟨(by repeat (first | exact ag_refl | exact ag_ovr' | refine ag_upd rfl ?_ | refine ag_sub rfl ?_ | refine ag_kn (by assumption) ?_)), ?_⟩
    exact ⟨hB, hFr, hb0, hb1, hb2, hb3, hb4, hb23, _, hb5⟩
end Go.Proofs.YthhkbhapfcfdjaaDoor
