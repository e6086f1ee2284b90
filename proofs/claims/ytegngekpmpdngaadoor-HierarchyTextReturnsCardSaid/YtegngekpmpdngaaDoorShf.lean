/- The text of a valid hierarchy: its lines, and that they are read back as they were. No program in sight. What these functions of the program compute, at every world: (*strings.Builder).copyCheck, (*strings.Builder).copyCheck. What these functions of the program compute, at every world: (*strings.Builder).WriteString, (*strings.Builder).WriteByte. What the kit's shelf says of the library functions of this program, laid at its numbers. -/
import Derived.Test.YtegngekpmpdngaaDoorHtx
import Derived.Test.YtegngekpmpdngaaDoorHLaw
import Derived.Test.YtegngekpmpdngaaDoorU
import Derived.Test.YtegngekpmpdngaaDoorNIeq
import Derived.Test.YtegngekpmpdngaaDoorEng2
import Derived.Shelf.Strings.Builder1
import Derived.Shelf.Strconv.Itoa3
import Derived.Test.YtegngekpmpdngaaDoorProg
namespace Go.Proofs.YtegngekpmpdngaaDoor
open Go.RowKit
structure HV (l : List Ty) (fs : List Ft) : Prop where
  le : l.length ≤ 60
  pos : 0 < l.length
  few : fs.length ≤ 40
  ty : ∀ k (hk : k < l.length), isName (l[k]).name = true ∧ seen ((l.take k).map (·.name)) (l[k]).name = false ∧ parFault k (-1) (l[k]).par = 0
  ft : ∀ k (hk : k < fs.length), isName (fs[k]).name = true ∧ ¬ ftBad l.length fs[k]
theorem hv_of {l : List Ty} {fs : List Ft} (h : (hierFault l fs).1 = 0) : HV l fs := by
  unfold hierFault at h
  by_cases h4 : 40 < fs.length
  · rw [if_pos h4] at h; cases h
  rw [if_neg h4] at h
  by_cases ht : (typesFault l).1 ≠ 0
  · rw [if_pos ht] at h; exact absurd h ht
  rw [if_neg ht] at h
  by_cases hu : (unmetF l).1 ≠ 0
  · rw [if_pos hu] at h; exact absurd h hu
  rw [if_neg hu] at h
  have ht0 := Decidable.not_not.1 ht
  have hl := types_len ht0
  refine ⟨by omega, by omega, by omega, fun k hk => ?_, fun k hk => ?_⟩
  · obtain ⟨h1, h2, _, h3⟩ := tyFault_ok hk (types_ok ht0 hk)
    exact ⟨h1, h2, h3⟩
  · have h1 := firstF_zero h k (Nat.zero_le _) om
    cases hn : isName (fs[k]).name with
    | false => rw [ft10 l.length fs k hk hn] at h1; cases h1
    | true =>
      cases hs : seen ((fs.take k).map (·.name)) (fs[k]).name with
      | true => rw [ft7 l.length fs k hk hn hs] at h1; cases h1
      | false =>
        refine ⟨rfl, fun hb => ?_⟩
        rw [ft3 l.length fs k hk hn hs hb] at h1; cases h1
theorem par_few {i : Int} : ∀ {ps : List Int} {last : Int}, parFault i last ps = 0 → last < i → (ps.length : Int) ≤ i - 1 - last
  | [], last, _, hl => by simp only [List.length_nil]; omega
  | q :: ps, last, h, hl => by
    unfold parFault at h
    by_cases h1 : q < 0 ∨ i ≤ q
    · rw [if_pos h1] at h; cases h
    rw [if_neg h1] at h
    by_cases h2 : q ≤ last
    · rw [if_pos h2] at h; cases h
    rw [if_neg h2] at h
    have := par_few h om
    rw [List.length_cons]; omega
theorem HV.par {l : List Ty} {fs : List Ft} (h : HV l fs) {k : Nat} (hk : k < l.length) : (l[k]).par.length ≤ k ∧ ∀ p ∈ (l[k]).par, 0 ≤ p ∧ p < (k : Int) := by
  have h1 := (h.ty k hk).2.2
  have := par_few h1 om
  exact ⟨by omega, parFault_ok h1⟩
theorem HV.feat {l : List Ty} {fs : List Ft} (h : HV l fs) {k : Nat} (hk : k < fs.length) : (0 ≤ (fs[k]).of ∧ (fs[k]).of < l.length) ∧ 0 ≤ (fs[k]).val ∧ (fs[k]).val < l.length := by
  have h1 := (h.ft k hk).2
  unfold ftBad at h1
  omega
def nmI (l : List Ty) (p : Int) : List UInt8 := bl (l.getD p.toNat ⟨⟨#[]⟩, []⟩).name
theorem nmI_at {l : List Ty} {p : Int} {n : Nat} (hp : p = (n : Int)) (hn : n < l.length) : nmI l p = bl (l[n]).name := by
  subst hp
  unfold nmI
  rw [Int.toNat_natCast]
  simp [List.getD, hn]
def lineB (p : List UInt8) (qs : List (List UInt8)) : List UInt8 := p ++ qs.flatMap (fun q => 32 :: q)
theorem lineB_snoc (p : List UInt8) (qs : List (List UInt8)) (q : List UInt8) : lineB p (qs ++ [q]) = lineB p qs ++ 32 :: q := by simp [lineB]
theorem lineB_len {n : Nat} {p : List UInt8} (hp : p.length ≤ 4) : ∀ {qs : List (List UInt8)}, (∀ q ∈ qs, q.length ≤ n) → (lineB p qs).length ≤ 4 + (n + 1) * qs.length
  | [], _ => by simp [lineB]; exact hp
  | q :: qs, h => by
    have ih := lineB_len hp (qs := qs) (fun x hx => h x (List.mem_cons_of_mem _ hx))
    have h1 := h q (List.mem_cons_self ..)
    unfold lineB at ih ⊢
    simp only [List.length_append, List.flatMap_cons, List.length_cons, List.cons_append] at ih ⊢
    rw [Nat.mul_add]
    omega
theorem split_line {p : List UInt8} : ∀ {qs : List (List UInt8)}, ¬ (32 : UInt8) ∈ p → (∀ q ∈ qs, ¬ (32 : UInt8) ∈ q) → splitL 32 (lineB p qs) = p :: qs
  | [], hp, _ => by unfold lineB; rw [List.flatMap_nil, List.append_nil, splitL_self hp]
  | q :: qs, hp, h => by
    have ih := split_line (p := q) (qs := qs) (h q (List.mem_cons_self ..)) (fun x hx => h x (List.mem_cons_of_mem _ hx))
    have e : lineB p (q :: qs) = p ++ 32 :: lineB q qs := by simp [lineB]
    rw [e, splitL_app hp, ih]
theorem line_no {c : UInt8} {p : List UInt8} {qs : List (List UInt8)} (hc : c ≠ 32) (hp : ¬ c ∈ p) (h : ∀ q ∈ qs, ¬ c ∈ q) : ¬ c ∈ lineB p qs := by
  unfold lineB
  rw [List.mem_append, List.mem_flatMap]
  rintro (h1 | ⟨q, hq, h1⟩)
  · exact hp h1
  · rcases List.mem_cons.1 h1 with e | h1
    · exact hc e
    · exact h q hq h1
def TYb : List UInt8 := [116, 121, 112, 101]
def FEb : List UInt8 := [102, 101, 97, 116]
def tyW (l : List Ty) (t : Ty) : List (List UInt8) := bl t.name :: t.par.map (nmI l)
def fdW (l : List Ty) (x : Ft) : List (List UInt8) := [bl x.name, nmI l x.of, nmI l x.val]
def tyL (l : List Ty) (t : Ty) : List UInt8 := lineB TYb (tyW l t)
def fdL (l : List Ty) (x : Ft) : List UInt8 := lineB FEb (fdW l x)
def nlB (ls : List (List UInt8)) : List UInt8 := ls.flatMap (fun x => x ++ [10])
theorem nlB_snoc (ls : List (List UInt8)) (x : List UInt8) : nlB (ls ++ [x]) = nlB ls ++ (x ++ [10]) := by simp [nlB]
def hlines (l : List Ty) (fs : List Ft) : List (List UInt8) := l.map (tyL l) ++ fs.map (fdL l)
def htx (l : List Ty) (fs : List Ft) : List UInt8 := nlB (hlines l fs)
def tyX (l : List Ty) (k : Nat) : List UInt8 := nlB ((l.take k).map (tyL l))
def ftX (l : List Ty) (fs : List Ft) (k : Nat) : List UInt8 := tyX l l.length ++ nlB ((fs.take k).map (fdL l))
theorem tyX_succ {l : List Ty} {k : Nat} (hk : k < l.length) : tyX l (k + 1) = tyX l k ++ (tyL l l[k] ++ [10]) := by
  unfold tyX
  rw [List.take_succ_eq_append_getElem hk, List.map_append, List.map_cons, List.map_nil, nlB_snoc]
theorem ftX_zero (l : List Ty) (fs : List Ft) : ftX l fs 0 = tyX l l.length := List.append_nil _
theorem ftX_succ {l : List Ty} {fs : List Ft} {k : Nat} (hk : k < fs.length) : ftX l fs (k + 1) = ftX l fs k ++ (fdL l fs[k] ++ [10]) := by
  unfold ftX
  rw [List.take_succ_eq_append_getElem hk, List.map_append, List.map_cons, List.map_nil, nlB_snoc, List.append_assoc]
theorem ftX_all (l : List Ty) (fs : List Ft) : ftX l fs fs.length = htx l fs := by
  unfold ftX tyX htx hlines nlB
  rw [List.take_length, List.take_length, List.flatMap_append]
theorem nm_len {s : ByteArray} (h : isName s = true) : (bl s).length ≤ 30 := by
  unfold isName at h
  simp only [Bool.and_eq_true, decide_eq_true_eq] at h
  rw [bl_size]
  exact h.1.1
theorem nm_ne {s : ByteArray} (h : isName s = true) : bl s ≠ [] := fun e => by
  unfold isName at h
  simp only [Bool.and_eq_true] at h
  have h2 := h.1.2
  rw [show s.data.toList = [] from e] at h2
  cases h2
theorem nm_no {s : ByteArray} {c : UInt8} (h : isName s = true) (hc : nameCh c = false) : ¬ c ∈ bl s := fun hm => by
  unfold isName at h
  simp only [Bool.and_eq_true, List.all_eq_true] at h
  rw [h.2 c hm] at hc
  cases hc
section laws
variable {l : List Ty} {fs : List Ft}
theorem HV.nmL (h : HV l fs) (p : Int) : (nmI l p).length ≤ 30 := by
  unfold nmI
  by_cases hp : p.toNat < l.length
  · rw [show l.getD p.toNat ⟨⟨#[]⟩, []⟩ = l[p.toNat] by simp [List.getD, hp]]
    exact nm_len (h.ty _ hp).1
  · rw [show l.getD p.toNat ⟨⟨#[]⟩, []⟩ = ⟨⟨#[]⟩, []⟩ by simp [List.getD, List.getElem?_eq_none (Nat.le_of_not_lt hp)]]
    exact Nat.zero_le _
theorem HV.tyC (h : HV l fs) {k : Nat} (hk : k < l.length) (j : Nat) : (lineB TYb (bl (l[k]).name :: ((l[k]).par.take j).map (nmI l))).length ≤ 1895 := by
  have h1 := lineB_len (n := 30) (p := TYb) dE (qs := bl (l[k]).name :: ((l[k]).par.take j).map (nmI l)) (fun q hq => by
    rcases List.mem_cons.1 hq with e | hq
    · rw [e]; exact nm_len (h.ty k hk).1
    · obtain ⟨p, _, rfl⟩ := List.mem_map.1 hq
      exact h.nmL p)
  have h2 := (h.par hk).1
  have h3 := h.le
  rw [List.length_cons, List.length_map, List.length_take] at h1
  omega
theorem HV.tyXl (h : HV l fs) : ∀ k, k ≤ l.length → (tyX l k).length ≤ 1896 * k
  | 0, _ => Nat.le_refl _
  | k + 1, hk => by
    have ih := h.tyXl k om
    have h1 := h.tyC (k := k) om (l[k]).par.length
    rw [List.take_length] at h1
    have e : tyL l l[k] = lineB TYb (bl (l[k]).name :: (l[k]).par.map (nmI l)) := rfl
    rw [tyX_succ om, List.length_append, List.length_append, e]
    simp only [List.length_cons, List.length_nil]
    omega
theorem HV.fdC (h : HV l fs) {k : Nat} (hk : k < fs.length) : (fdL l fs[k]).length ≤ 97 := by
  have h1 := lineB_len (n := 30) (p := FEb) dE (qs := fdW l fs[k]) (fun q hq => by
    unfold fdW at hq
    rcases List.mem_cons.1 hq with e | hq
    · rw [e]; exact nm_len (h.ft k hk).1
    · rcases List.mem_cons.1 hq with e | hq
      · rw [e]; exact h.nmL _
      · rw [List.mem_singleton.1 hq]; exact h.nmL _)
  exact h1
theorem HV.ftXl (h : HV l fs) : ∀ k, k ≤ fs.length → (ftX l fs k).length ≤ 113760 + 98 * k
  | 0, _ => by
    rw [ftX_zero]
    have := h.tyXl l.length (Nat.le_refl _)
    have := h.le
    omega
  | k + 1, hk => by
    have ih := h.ftXl k om
    have h1 := h.fdC (k := k) om
    rw [ftX_succ om, List.length_append, List.length_append]
    simp only [List.length_cons, List.length_nil]
    omega
def mkS (p : List UInt8) : ByteArray := ⟨p.toArray⟩
theorem split_nl : ∀ {ls : List (List UInt8)}, (∀ x ∈ ls, ¬ (10 : UInt8) ∈ x) → splitL 10 (nlB ls) = ls ++ [[]]
  | [], _ => rfl
  | x :: xs, h => by
    have ih := split_nl (ls := xs) (fun y hy => h y (List.mem_cons_of_mem _ hy))
    have e : nlB (x :: xs) = x ++ 10 :: nlB xs := by simp [nlB]
    rw [e, splitL_app (h x (List.mem_cons_self ..)), ih]
    rfl
theorem HV.nmN (h : HV l fs) {p : Int} (hp : 0 ≤ p ∧ p < l.length) {c : UInt8} (hc : nameCh c = false) : ¬ c ∈ nmI l p := by
  rw [nmI_at (n := p.toNat) om om]
  exact nm_no (h.ty _ om).1 hc
theorem HV.nmE (h : HV l fs) {p : Int} (hp : 0 ≤ p ∧ p < l.length) : nmI l p ≠ [] := by
  rw [nmI_at (n := p.toNat) om om]
  exact nm_ne (h.ty _ om).1
theorem HV.tyWn (h : HV l fs) {k : Nat} (hk : k < l.length) {c : UInt8} (hc : nameCh c = false) : ∀ q ∈ tyW l l[k], ¬ c ∈ q := fun q hq => by
  rcases List.mem_cons.1 hq with e | hq
  · rw [e]; exact nm_no (h.ty k hk).1 hc
  · obtain ⟨p, hp, rfl⟩ := List.mem_map.1 hq
    have := (h.par hk).2 p hp
    exact h.nmN om hc
theorem HV.fdWn (h : HV l fs) {k : Nat} (hk : k < fs.length) {c : UInt8} (hc : nameCh c = false) : ∀ q ∈ fdW l fs[k], ¬ c ∈ q := fun q hq => by
  have hf := h.feat hk
  unfold fdW at hq
  rcases List.mem_cons.1 hq with e | hq
  · rw [e]; exact nm_no (h.ft k hk).1 hc
  · rcases List.mem_cons.1 hq with e | hq
    · rw [e]; exact h.nmN hf.1 hc
    · rw [List.mem_singleton.1 hq]; exact h.nmN hf.2 hc
theorem HV.lines_no (h : HV l fs) : ∀ x ∈ hlines l fs, ¬ (10 : UInt8) ∈ x := fun x hx => by
  rcases List.mem_append.1 hx with hx | hx
  · obtain ⟨t, ht, rfl⟩ := List.mem_map.1 hx
    obtain ⟨k, hk, rfl⟩ := List.mem_iff_getElem.1 ht
    exact line_no dE dE (h.tyWn hk dE)
  · obtain ⟨t, ht, rfl⟩ := List.mem_map.1 hx
    obtain ⟨k, hk, rfl⟩ := List.mem_iff_getElem.1 ht
    exact line_no dE dE (h.fdWn hk dE)
theorem sp_mk {c : UInt8} {p : List UInt8} {qs : List (List UInt8)} (h : splitL c p = qs) : sp c (mkS p) = qs.map mkS := by
  unfold sp
  rw [show bl (mkS p) = p from rfl, h]
  rfl
theorem HV.sp_text (h : HV l fs) : sp 10 (mkS (htx l fs)) = (hlines l fs).map mkS ++ [⟨#[]⟩] := by
  rw [show htx l fs = nlB (hlines l fs) from rfl, sp_mk (split_nl h.lines_no), List.map_append]
  rfl
theorem mkS_bl (s : ByteArray) : mkS (bl s) = s := bl_ext rfl
theorem mkS_ne {p : List UInt8} (h : p ≠ []) : ¬ mkS p = ⟨#[]⟩ := fun e => h (by have := congrArg bl e; exact this)
theorem seen_no {xs : List ByteArray} {s : ByteArray} (h : ∀ x ∈ xs, ¬ x = s) : seen xs s = false := by
  unfold seen
  rw [List.any_eq_false]
  intro x hx
  simpa using h x hx
theorem seen_not {xs : List ByteArray} {s : ByteArray} (h : seen xs s = false) : ∀ x ∈ xs, ¬ x = s := fun x hx => by
  unfold seen at h
  rw [List.any_eq_false] at h
  simpa using h x hx
theorem fe_ty : ¬ mkS FEb = TYPE := by decide
theorem HV.fnd_at (h : HV l fs) {k p : Nat} (hk : k ≤ l.length) (hp : p < k) : fnd (l.take k) (l[p]'om).name = (p : Int) := by
  refine Go.Proofs.YtegngekpmpdngaaDoor.fnd_at (k := p) (by rw [List.length_take]; omega) (by rw [List.getElem_take]) (fun j hj hjp => ?_)
  rw [List.getElem_take]
  have h1 := (h.ty p om).2.1
  refine seen_not h1 _ (List.mem_map.2 ⟨l[j], ?_, rfl⟩)
  rw [List.mem_iff_getElem]
  exact ⟨j, by rw [List.length_take]; omega, by rw [List.getElem_take]⟩
theorem HV.ats_at (h : HV l fs) {k : Nat} (hk : k ≤ l.length) : ∀ {ps : List Int}, (∀ p ∈ ps, 0 ≤ p ∧ p < (k : Int)) → ats (l.take k) ((ps.map (nmI l)).map mkS) = some ps
  | [], _ => rfl
  | p :: ps, hp => by
    have ih := h.ats_at hk (ps := ps) (fun q hq => hp q (List.mem_cons_of_mem _ hq))
    have h1 := hp p (List.mem_cons_self ..)
    have h2 : fnd (l.take k) (mkS (nmI l p)) = p := by
      rw [nmI_at (n := p.toNat) om om, mkS_bl, h.fnd_at hk om]
      omega
    show (if fnd (l.take k) (mkS (nmI l p)) < 0 then none else (ats (l.take k) ((ps.map (nmI l)).map mkS)).map (fun r => fnd (l.take k) (mkS (nmI l p)) :: r)) = _
    rw [h2, if_neg om, ih]
    rfl
theorem HV.step_ty (h : HV l fs) {k : Nat} (hk : k < l.length) : stepL (l.take k) [] (sp 32 (mkS (tyL l l[k]))) = .inr (l.take (k + 1), []) := by
  have hs : sp 32 (mkS (tyL l l[k])) = mkS TYb :: mkS (bl (l[k]).name) :: ((l[k]).par.map (nmI l)).map mkS := by
    rw [show tyL l l[k] = lineB TYb (tyW l l[k]) from rfl, sp_mk (split_line dE (h.tyWn hk dE))]
    rfl
  have hp := (h.par hk).2
  have hok : okB (sp 32 (mkS (tyL l l[k]))) 0 = true := by
    rw [hs]
    unfold okB
    rw [seen_no (fun x hx => by
      rcases List.mem_cons.1 hx with e | hx
      · rw [e]; exact mkS_ne dE
      · rcases List.mem_cons.1 hx with e | hx
        · rw [e]; exact mkS_ne (nm_ne (h.ty k hk).1)
        · obtain ⟨q, hq, rfl⟩ := List.mem_map.1 hx
          obtain ⟨p, hpm, rfl⟩ := List.mem_map.1 hq
          have := hp p hpm
          exact mkS_ne (h.nmE om)), decide_eq_true (show wd (mkS TYb :: _ :: _) 0 = TYPE from rfl), decide_eq_true (show 1 < (mkS TYb :: _ :: _).length by simp)]
    rfl
  rw [stepL_ty (r := (l[k]).par) hok (by rw [hs]; exact h.ats_at (Nat.le_of_lt hk) hp) (by rw [hs]; rfl), List.take_succ_eq_append_getElem hk]
  have e : (⟨wd (sp 32 (mkS (tyL l l[k]))) 1, (l[k]).par⟩ : Ty) = l[k] := by
    rw [hs]
    show (⟨mkS (bl (l[k]).name), (l[k]).par⟩ : Ty) = l[k]
    rw [mkS_bl]
  rw [e]
theorem HV.step_ft (h : HV l fs) {k : Nat} (hk : k < fs.length) : stepL l (fs.take k) (sp 32 (mkS (fdL l fs[k]))) = .inr (l, fs.take (k + 1)) := by
  have hs : sp 32 (mkS (fdL l fs[k])) = [mkS FEb, mkS (bl (fs[k]).name), mkS (nmI l (fs[k]).of), mkS (nmI l (fs[k]).val)] := by
    rw [show fdL l fs[k] = lineB FEb (fdW l fs[k]) from rfl, sp_mk (split_line dE (h.fdWn hk dE))]
    rfl
  have hf := h.feat hk
  have hok : okB (sp 32 (mkS (fdL l fs[k]))) (fs.take k).length = true := by
    rw [hs]
    unfold okB
    rw [seen_no (fun x hx => by
      rcases List.mem_cons.1 hx with e | hx
      · rw [e]; exact mkS_ne dE
      · rcases List.mem_cons.1 hx with e | hx
        · rw [e]; exact mkS_ne (nm_ne (h.ft k hk).1)
        · rcases List.mem_cons.1 hx with e | hx
          · rw [e]; exact mkS_ne (h.nmE hf.1)
          · rw [List.mem_singleton.1 hx]; exact mkS_ne (h.nmE hf.2)), decide_eq_true (show wd (mkS FEb :: _) 0 = FEAT from rfl), decide_eq_true (show [mkS FEb, mkS (bl (fs[k]).name), mkS (nmI l (fs[k]).of), mkS (nmI l (fs[k]).val)].length = 4 from rfl)]
    simp
  have ha := h.ats_at (k := l.length) (Nat.le_refl _) (ps := [(fs[k]).of, (fs[k]).val]) (fun p hp => by
    rcases List.mem_cons.1 hp with e | hp
    · rw [e]; exact hf.1
    · rw [List.mem_singleton.1 hp]; exact hf.2)
  rw [List.take_length] at ha
  rw [stepL_ft (r := [(fs[k]).of, (fs[k]).val]) hok (by rw [hs]; exact ha) (by rw [hs]; exact fe_ty), List.take_succ_eq_append_getElem hk]
  have e : (⟨wd (sp 32 (mkS (fdL l fs[k]))) 1, [(fs[k]).of, (fs[k]).val].getD 0 0, [(fs[k]).of, (fs[k]).val].getD 1 0⟩ : Ft) = fs[k] := by
    rw [hs]
    show (⟨mkS (bl (fs[k]).name), (fs[k]).of, (fs[k]).val⟩ : Ft) = fs[k]
    rw [mkS_bl]
  rw [e]
theorem cont_step {a : List Ty} {b : List Ft} {n : Nat} {y : ByteArray} {ys : List ByteArray} {p : List Ty × List Ft} (hy : ys ≠ []) (h : stepL a b (sp 32 y) = .inr p) : contP a b n (y :: ys) = contP p.1 p.2 (n + 1) ys := by
  cases ys with
  | nil => exact absurd rfl hy
  | cons z zs => rw [contP_cons, h]
theorem HV.cont_ft (h : HV l fs) : ∀ m k n, k + m = fs.length → contP l (fs.take k) n ((fs.drop k).map (fun x => mkS (fdL l x)) ++ [⟨#[]⟩]) = finP l fs
  | 0, k, n, hm => by
    rw [List.drop_of_length_le om, List.take_of_length_le om]
    show (if (⟨#[]⟩ : ByteArray) = ⟨#[]⟩ then finP l fs else _) = _
    rw [if_pos rfl]
  | m + 1, k, n, hm => by
    rw [List.drop_eq_getElem_cons (by omega : k < fs.length), List.map_cons, List.cons_append, cont_step (by simp) (h.step_ft om)]
    exact h.cont_ft m (k + 1) (n + 1) om
theorem HV.cont_ty (h : HV l fs) {ys : List ByteArray} (hy : ys ≠ []) : ∀ m k n, k + m = l.length → contP (l.take k) [] n ((l.drop k).map (fun x => mkS (tyL l x)) ++ ys) = contP l [] (n + m) ys
  | 0, k, n, hm => by
    rw [List.drop_of_length_le om, List.take_of_length_le om]
    rfl
  | m + 1, k, n, hm => by
    rw [List.drop_eq_getElem_cons (by omega : k < l.length), List.map_cons, List.cons_append, cont_step (by simp [hy]) (h.step_ty om)]
    have := h.cont_ty hy m (k + 1) (n + 1) om
    rw [show n + 1 + m = n + (m + 1) by omega] at this
    exact this
theorem prs_text (h0 : (hierFault l fs).1 = 0) (hs : (htx l fs).length ≤ 4000) : prs (mkS (htx l fs)) = ((l, fs), (0, 0)) := by
  have h := hv_of h0
  have e1 := h.cont_ty (ys := fs.map (fun x => mkS (fdL l x)) ++ [⟨#[]⟩]) (by simp) l.length 0 0 om
  have e2 := h.cont_ft fs.length 0 (0 + l.length) om
  have hsz : (mkS (htx l fs)).size = (htx l fs).length := by rw [← bl_size]; rfl
  unfold prs
  rw [if_neg om, h.sp_text]
  unfold hlines
  rw [List.map_append, List.map_map, List.map_map, List.append_assoc]
  simp only [List.drop_zero, List.take_zero] at e1 e2
  refine e1.trans (e2.trans ?_)
  unfold finP
  rw [if_pos h0]
end laws
end Go.Proofs.YtegngekpmpdngaaDoor
namespace Go.Proofs.YtegngekpmpdngaaDoor
open Go.RowKit
theorem own_neB {w : World} {base b sz k c : Nat} {e t : TypeId} {A : Option Addr} {xs : List Value} {cs : Array Value} (h : Own w base e sz A k c xs) (hb : Blk w b t cs) (hne : e ≠ t) : ∀ g ∈ aL A, g ≠ b := fun g hg e1 => by
  obtain ⟨c2, h2⟩ := h.typ g hg
  subst e1
  exact hne (blk_type h2 hb)
theorem sz128 : (Tryd.prog.info? 128).map (·.size) = some 1 := by kernel_rfl
theorem ck_fresh {w : World} {bB : Nat} {s : Value} (hbB : Blk w bB 131 #[.pointer none, s]) : Calls Tryd.prog 106 #[.pointer (some ⟨bB, 0, none⟩)] w fun e w' => e = .returned (.tuple #[]) ∧ Blk w' bB 131 #[.pointer (some ⟨bB, 0, none⟩), s] ∧ Same [bB] w w' := by
 have hS : SameQ [bB] w w := Same.refl _ _
 refine enter Tryd.func106 Tryd.ntmps106 rfl (Nat.le_of_ble_eq_true rfl) (c_seq (c_region (wl (r_mv (v := .pointer (some _)) rfl) (wl (r_nc rfl) (wl (r_fa U131 sz128 dE rfl rfl rfl) ?_)))))
 refine wl (r_ld1 (v := .pointer none) U128 rfl rfl (hbB.cell rfl)) (wl (r_peqN U128 rfl rfl) (x_nil (e_S (c_yes rfl (c_region ?_)))))
 refine wl (r_mv (v := .pointer (some _)) rfl) (wl (r_mv (v := .pointer (some _)) rfl) (wl (r_cvUp U128 Tryd.underlying159 (sz := 2) kR dE hbB (Nat.zero_lt_succ 1) rfl) (wl (r_ext (args := [.pointer (some ⟨bB, 0, none⟩)]) (run_noEsc (P := Tryd.prog) Tryd.func114 kR kR kR kR) rfl) (wl (r_cvDn (u := 131) Tryd.underlying159 U128 kR hbB kR rfl) (wl (r_nc rfl) ?_)))))
 refine wl (r_fa U131 sz128 dE rfl rfl rfl) ?_
 refine wl_st1 (v := .pointer (some _)) hbB rfl rfl sz128 (by first | decide | simp) rfl rfl (fun w1 hq hs => ?_)
 replace hS := SameQ.trans hS hs (by simp)
 clear hs
 replace hbB := hq
 refine x_nil (fin0 (.inr rfl) rfl  ?_)
 exact ⟨rfl, hbB, hS⟩
theorem ck_used {w : World} {bB : Nat} {s : Value} (hbB : Blk w bB 131 #[.pointer (some ⟨bB, 0, none⟩), s]) : Calls Tryd.prog 106 #[.pointer (some ⟨bB, 0, none⟩)] w fun e w' => e = .returned (.tuple #[]) ∧ Blk w' bB 131 #[.pointer (some ⟨bB, 0, none⟩), s] ∧ Same [bB] w w' := by
 have hS : SameQ [bB] w w := Same.refl _ _
 refine enter Tryd.func106 Tryd.ntmps106 rfl (Nat.le_of_ble_eq_true rfl) (c_seq (c_region (wl (r_mv (v := .pointer (some _)) rfl) (wl (r_nc rfl) (wl (r_fa U131 sz128 dE rfl rfl rfl) ?_)))))
 refine wl (r_ld1 (v := .pointer (some _)) U128 rfl rfl (hbB.cell rfl)) (wl (r_peqS U128 rfl rfl) (x_nil (e_S (c_no rfl (c_seq ?_)))))
 refine c_region (wl (r_mv (v := .pointer (some _)) rfl) (wl (r_nc rfl) (wl (r_fa U131 sz128 dE rfl rfl rfl) (wl (r_ld1 (v := .pointer (some _)) U128 rfl rfl (hbB.cell rfl)) (wl (r_mv (v := .pointer (some _)) rfl) ?_)))))
 refine wl (r_pneS U128 kR rfl rfl) (x_nil (e_S (c_no rfl (c_skip (fin0 (.inr rfl) rfl  ?_)))))
 exact ⟨rfl, hbB, hS⟩
theorem ck_any {w : World} {bB : Nat} {p s : Value} (hp : p = .pointer none ∨ p = .pointer (some ⟨bB, 0, none⟩)) (hbB : Blk w bB 131 #[p, s]) : Calls Tryd.prog 106 #[.pointer (some ⟨bB, 0, none⟩)] w fun e w' => e = .returned (.tuple #[]) ∧ Blk w' bB 131 #[.pointer (some ⟨bB, 0, none⟩), s] ∧ Same [bB] w w' := by
  rcases hp with rfl | rfl
  · exact ck_fresh hbB
  · exact ck_used hbB
end Go.Proofs.YtegngekpmpdngaaDoor
namespace Go.Proofs.YtegngekpmpdngaaDoor
open Go.RowKit
theorem fn106 : callable Tryd.prog 106 = true := by kernel_rfl
theorem in5 : (Tryd.prog.info? 5).map (fun i => (i.zero, i.size, i.bytes)) = some (some (.int .u8 0), 1, 1) := by kernel_rfl
theorem sz129 : (Tryd.prog.info? 129).map (·.size) = some 1 := by kernel_rfl
theorem sz5_BWs : (Tryd.prog.info? 5).map (·.size) = some 1 := by kernel_rfl
theorem ze5 : (Tryd.prog.info? 5).map (·.zero) = some (some (.int .u8 0)) := by kernel_rfl
theorem ws_any {w : World} {B bB : Nat} {bs : List Value} {s : ByteArray} (h : BldI w B bB bs) (hlen : bs.length + s.size ≤ 140737488355328) (hBw : B ≤ w.heap.size) : Calls Tryd.prog 89 #[.pointer (some ⟨bB, 0, none⟩), .string s] w fun e w' => e = .returned (.tuple #[.int .i64 s.size, .nilIface]) ∧ BldI w' B bB (bs ++ Lib.strCells s) ∧ KB B bB w w' := by
 obtain ⟨hBb, p, A, cap, hp, hbB, ho⟩ := h
 have hK : KB B bB w w := KB.refl _ _ _
 have hAo : ∀ g ∈ aL A, B ≤ g ∧ ∃ cs, Blk w g 5 cs := fun g hg => ⟨(ho.lt g hg).1, ho.typ g hg⟩
 have hzB := hBw
 refine enter Tryd.func89 Tryd.ntmps89 rfl (Nat.le_of_ble_eq_true rfl) (c_seq (c_region (waI rfl (wl (r_as (v := _) rfl) (x_nil ?_)))))
 refine e_S (c_seq (c_region (wl (r_mv (v := .pointer (some _)) rfl) ?_)))
 refine wl_cl fn106 (ck_any hp hbB) rfl (fun e' w1 hr => ?_)
 obtain ⟨rfl, hbB2, hs⟩ := hr
 replace ho := ho.tr1 hs (own_neB ho hbB dE)
 replace hK := hK.st hs (fun g hg => .inl (List.mem_singleton.1 hg))
 replace hzB := nLT hzB (Same.size hs)
 replace hbB := hbB2
 clear hs
 refine ⟨_, rfl, ?_⟩
 refine x_nil (e_S (c_seq (c_region (wl (r_mv (v := .pointer (some _)) rfl) (wl (r_mv (v := .pointer (some _)) rfl) ?_)))))
 refine wl (r_nc rfl) (wl (r_fa U131 sz129 dE rfl rfl rfl) (wl (r_ld1 (v := .slice _ _ _) U129 rfl rfl (hbB.cell rfl)) (wl (r_mv (v := .string _) rfl) ?_)))
 have or_ho_bB := own_neB ho hbB dE
 refine wl_appS U129 U9 kR ho rfl rfl hlen hzB (fun A2 cap2 w2 ho2 hs => ?_)
 replace hbB := hbB.tr hs (fun hx => or_ho_bB bB hx rfl)
 replace hK := hK.st hs (fun g hg => .inr (.inr (hAo g hg)))
 replace hzB := nLT hzB (Same.size hs)
 clear ho
 have ho := ho2
 clear ho2
 replace hs := Same.refl [] w2
 replace hbB := hbB.tr0 hs
 replace ho := ho.tr0 hs
 replace hK := hK.st hs (by simp)
 replace hzB := nLT hzB (Same.size hs)
 clear hs
 refine wl (r_nc rfl) (wl (r_fa U131 sz129 dE rfl rfl rfl) ?_)
 refine wl_st1 (v := .slice _ _ _) hbB rfl rfl sz129 (by first | decide | simp) rfl rfl (fun w3 hq hs => ?_)
 replace ho := ho.tr1 hs (fun g hg => by first | exact own_neB ho hbB dE g hg | (have := or_ho_bB g hg; omega))
 replace hK := hK.st hs (fun g hg => .inl (List.mem_singleton.1 hg))
 replace hzB := nLT hzB (Same.size hs)
 clear hs
 replace hbB := hq
 refine x_nil (e_S (c_seq (c_region (wl (r_mv (v := .string _) rfl) (wl (r_lenS U9 rfl) ?_)))))
 refine waI rfl (wl (r_as (v := _) rfl) (x_nil (e_S (c_ret (fin2 (.inl rfl) rfl rfl rfl ?_)))))
 exact ⟨rfl, ⟨hBb, _, A2, cap2, .inr rfl, by rw [List.length_append, Lib.strCells_length]; exact hbB, by rw [List.length_append, Lib.strCells_length]; exact ho⟩, hK⟩
theorem wb_any {w : World} {B bB : Nat} {bs : List Value} {c : Int} (h : BldI w B bB bs) (hlen : bs.length + 1 ≤ 140737488355328) (hBw : B ≤ w.heap.size) : Calls Tryd.prog 90 #[.pointer (some ⟨bB, 0, none⟩), .int .u8 c] w fun e w' => e = .returned .nilIface ∧ BldI w' B bB (bs ++ [.int .u8 c]) ∧ KB B bB w w' := by
 obtain ⟨hBb, p, A, cap, hp, hbB, ho⟩ := h
 have hK : KB B bB w w := KB.refl _ _ _
 have hAo : ∀ g ∈ aL A, B ≤ g ∧ ∃ cs, Blk w g 5 cs := fun g hg => ⟨(ho.lt g hg).1, ho.typ g hg⟩
 have hzB := hBw
 refine enter Tryd.func90 Tryd.ntmps90 rfl (Nat.le_of_ble_eq_true rfl) (c_seq (c_region (wl (r_as (v := _) rfl) (x_nil (e_S ?_)))))
 refine c_seq (c_region (wl (r_mv (v := .pointer (some _)) rfl) ?_))
 refine wl_cl fn106 (ck_any hp hbB) rfl (fun e' w1 hr => ?_)
 obtain ⟨rfl, hbB2, hs⟩ := hr
 replace ho := ho.tr1 hs (own_neB ho hbB dE)
 replace hK := hK.st hs (fun g hg => .inl (List.mem_singleton.1 hg))
 replace hzB := nLT hzB (Same.size hs)
 replace hbB := hbB2
 clear hs
 refine ⟨_, rfl, ?_⟩
 refine x_nil (e_S (c_seq ?_))
 have or_ho_bB := own_neB ho hbB dE
 have ltB := hbB.lt
 refine c_region (wl (r_mv (v := .pointer (some _)) rfl) (wl (r_mv (v := .pointer (some _)) rfl) (wl (r_nc rfl) (wl (r_fa U131 sz129 dE rfl rfl rfl) (wl (r_ld1 (v := .slice _ _ _) U129 rfl rfl (hbB.cell rfl)) ?_)))))
 refine wmI rfl ?_
 refine wl_bs (cs := #[_]) [(0, .int _ _)] rfl U129 sz5_BWs ze5 dE dE kR rfl (fun b13 w2 hb13 hs hr => ?_)
 have or_bB_b13 : bB < b13 := nLL hbB.lt hr
 have or_ho_b13 := (fun g hg => nLL (ho.lt g hg).2 hr)
 have or_hK_b13 := (nLT hK.size hr)
 have or_hzB_b13 := (nLT hzB hr)
 replace hbB := hbB.tr0 hs
 replace ho := ho.tr0 hs
 replace hK := hK.st hs (by simp)
 replace hzB := nLT hzB (Same.size hs)
 clear hs
 refine wl_app U129 in5 rfl dE ho hb13 rfl rfl rfl oneA dE om om hzB (fun g14 cap14 w3 ho14 hs hg => ?_)
 have ne_ho14_bB : g14 ≠ bB := fun e => by
  have hl := hbB.lt
  rcases hg with hg | hg
  · have h1 := ho.lt g14 (by rw [hg]; exact List.mem_singleton.2 rfl)
    (try have := or_ho_bB g14 (by rw [hg]; exact List.mem_singleton.2 rfl)); omega
  · omega
 replace hbB := hbB.tr hs (fun hx => by have := (ho.lt _ hx).1; (try have := or_ho_bB _ hx); omega)
 replace hK := hK.st hs (fun g hg => .inr (.inr (hAo g hg)))
 replace hzB := nLT hzB (Same.size hs)
 have hA2 := hg
 refine wl (r_nc rfl) (wl (r_fa U131 sz129 dE rfl rfl rfl) ?_)
 refine wl_st1 (v := .slice _ _ _) hbB rfl rfl sz129 (by first | decide | simp) rfl rfl (fun w4 hq hs => ?_)
 replace hK := hK.st hs (fun g hg => .inl (List.mem_singleton.1 hg))
 replace hzB := nLT hzB (Same.size hs)
 replace ho14 := ho14.tr1 hs (fun g hg => by have := (ho14.lt g hg).1; (try have := or_ho14_bB g hg); (try simp only [aL] at hg); (try simp only [List.mem_singleton] at hg); omega)
 clear hs
 replace hbB := hq
 refine x_nil (e_S (c_seq (c_region (wl (r_as (v := _) rfl) (x_nil ?_)))))
 refine e_S (c_ret (fin1 (.inl rfl) rfl rfl ?_))
 exact ⟨rfl, ⟨hBb, _, some ⟨g14, 0, none⟩, cap14, .inr rfl, by rw [List.length_append]; exact hbB, by rw [List.length_append]; exact ho14⟩, hK⟩
end Go.Proofs.YtegngekpmpdngaaDoor
namespace Go.Proofs.YtegngekpmpdngaaDoor
open Go.Shelf
def sh_lays169_ren : Go.Shelf.Ren := ⟨fun | 169 => 91 | n => n, fun | 70 => 128 | 9 => 9 | 0 => 0 | 72 => 131 | 37 => 129 | 127 => 150 | 3 => 3 | 5 => 5 | n => n, fun | n => n⟩
theorem sh_lays169 : Go.Proofs.Lays.n169 Tryd.prog sh_lays169_ren := {
  mixed := by kernel_rfl
  f169 := Tryd.func91.trans (congrArg some (by kernel_rfl))
  t0 := Tryd.underlying0
  a0 := Tryd.isAgg0
  z0 := Tryd.sizeOf0
  v0 := Tryd.zeroValue0
  t3 := U3
  a3 := Tryd.isAgg3
  z3 := Tryd.sizeOf3
  v3 := Tryd.zeroValue3
  t9 := U9
  a9 := Tryd.isAgg9
  z9 := Tryd.sizeOf9
  v9 := Tryd.zeroValue9
  t37 := U129
  a37 := Tryd.isAgg129
  z37 := Tryd.sizeOf129
  v37 := Tryd.zeroValue129
  t70 := U128
  a70 := Tryd.isAgg128
  z70 := Tryd.sizeOf128
  v70 := Tryd.zeroValue128
  t72 := U131
  a72 := Tryd.isAgg131
  z72 := Tryd.sizeOf131
  v72 := Tryd.zeroValue131
  t127 := Tryd.underlying150
  a127 := Tryd.isAgg150
  z127 := Tryd.sizeOf150
  v127 := Tryd.zeroValue150 }
theorem sh_Builder_Extra_169 : Builder.Extra Tryd.prog sh_lays169_ren := {
  sizeBuilder := by kernel_rfl
  liesBuilder := by kernel_rfl
  t5 := U5
  a5 := Tryd.isAgg5
  z5 := Tryd.sizeOf5
  v5 := Tryd.zeroValue5
  infoByte := by kernel_rfl
  cellsByte := by kernel_rfl
  sizeByte := by kernel_rfl
  neB5 := by decide }
open Go.RowKit in
theorem sh_Builder_String_any (B b : Nat) (l : List UInt8) (w : World) (h : Lib.IsBuilder 131 5 B b (Lib.byteCells l) w) (hBw : B ≤ w.heap.size) :
    Calls Tryd.prog 91 #[.pointer (some ⟨b, 0, none⟩)] w fun e w' => e = .returned (.string ⟨l.toArray⟩) ∧ Below B w w' := Any.Builder_String_any sh_lays169 sh_Builder_Extra_169 B b l w h hBw
end Go.Proofs.YtegngekpmpdngaaDoor
