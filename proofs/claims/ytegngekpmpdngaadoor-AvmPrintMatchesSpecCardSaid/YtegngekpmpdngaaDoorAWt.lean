/- What these functions of the program compute, at every world: glosswright/glosswrightref4.written. -/
import Derived.Test.YtegngekpmpdngaaDoorU
import Derived.Test.YtegngekpmpdngaaDoorAWr
import Derived.Test.YtegngekpmpdngaaDoorEng2
import Derived.Test.YtegngekpmpdngaaDoorShf
import Derived.Lib.AppendZerosOnto
namespace Go.Proofs.YtegngekpmpdngaaDoor
open Go.RowKit
theorem own_neR {w : World} {base b sz k c : Nat} {e t : TypeId} {A : Option Addr} {xs : List Value} {cs : Array Value} (h : Own w base e sz A k c xs) (hb : Blk w b t cs) (hne : e ≠ t) : ∀ g ∈ aL A, g ≠ b := own_neB h hb hne
theorem ret_str {p q : ByteArray} (h : bl p = bl q) : Ending.returned (Value.string p) = .returned (.string q) := by rw [bl_ext h]
theorem fn66 : callable Tryd.prog 66 = true := by kernel_rfl
set_option maxRecDepth 100000 in
set_option maxHeartbeats 4000000 in
theorem wrt_step {w0 : World} {A B G : Option Addr} {c d cg bt bs : Nat} {l : List Ty} {fs : List Ft} {g : List Nd} (hT : TypesIn w0 A l) (hF : FeatsIn w0 B fs) (hG : NodesIn w0 G g) (hva : GV l fs g) (hW : GW l fs g) (hbtg0 : Blk w0 bt 3 (row g.length (fun x => .int .i64 ((tgs g x : Nat) : Int)))) (ls : w0.heap.size ≤ bs) {mf : Nat} {sn : Nat → Bool} {pr : Nat → Nat} {t : Nat} {w : World} (hl : lackN g.length sn < mf + 1) (ht : t < g.length) (hwi : WI g sn pr t) (hB : Bel w0 w) (hbs : Blk w bs 4 (row g.length (fun x => .bool (sn x)))) (IH : ∀ (sn2 : Nat → Bool) (pr2 : Nat → Nat) (u : Nat) (w2 : World), lackN g.length sn2 < mf → u < g.length → WI g sn2 pr2 u → Bel w0 w2 → Blk w2 bs 4 (row g.length (fun x => .bool (sn2 x))) → Calls Tryd.prog 66 #[.agg #[.slice A l.length c, .slice B fs.length d], .agg #[.slice G g.length cg], .slice (some ⟨bt, 0, none⟩) g.length g.length, .slice (some ⟨bs, 0, none⟩) g.length g.length, .int .i64 (u : Nat)] w2 fun e w' => e = .returned (.string ⟨(wN l fs g mf sn2 u).1.toArray⟩) ∧ Blk w' bs 4 (row g.length (fun x => .bool ((wN l fs g mf sn2 u).2 x))) ∧ Same [bs] w2 w') : Calls Tryd.prog 66 #[.agg #[.slice A l.length c, .slice B fs.length d], .agg #[.slice G g.length cg], .slice (some ⟨bt, 0, none⟩) g.length g.length, .slice (some ⟨bs, 0, none⟩) g.length g.length, .int .i64 (t : Nat)] w fun e w' => e = .returned (.string ⟨(wN l fs g (mf + 1) sn t).1.toArray⟩) ∧ Blk w' bs 4 (row g.length (fun x => .bool ((wN l fs g (mf + 1) sn t).2 x))) ∧ Same [bs] w w' := by
 have hS : SameQ [bs] w w := Same.refl _ _
 have h60 := hW.le
 have htg := tgs_le g t
 have hszB := Bel.size hB
 have ltt := hbtg0.lt
 have hbtg := hbtg0.bel hB
 obtain ⟨nb, no, LA, lc, rfl, hnb, hnr, hln⟩ := hG.at_ (Below.refl _ _ : Bel w0 w0) ht
 have hmx := hln.1
 unfold maxI at hmx
 obtain ⟨tn, htn, htnl⟩ : ∃ z : Nat, (g[t]'ht).ty = (z : Int) ∧ z < l.length := by
   have h := hva.gok.ty t ht
   exact ⟨(g[t]'ht).ty.toNat, by omega, by omega⟩
 rw [htn] at hnr
 obtain ⟨tb, to, A', cp, rfl, htb, htr, _⟩ := hT.at_ (Below.refl _ _ : Bel w0 w0) htnl
 have hnmB : nmB l g t = bl (l[tn]'htnl).name := by
   unfold nmB bl
   rw [nd_eq ht, htn]
   simp [List.getD, htnl]
 have hnml := hW.nm t
 rw [hnmB] at hnml
 have hfew := hW.few t
 rw [nd_eq ht] at hfew
 have hpre := preB_le (t := tgs g t) om
 have htgl := tagB_le (t := tgs g t) om
 have hdl := digs_le (t := tgs g t) om
 have hst : ∀ hs : sn t = false, lackN g.length (setB sn t) < lackN g.length sn := fun hs => lack_set ht hs
 have hlk := lack_le g.length sn
 refine enter Tryd.func66 Tryd.ntmps66 rfl (Nat.le_of_ble_eq_true rfl) (c_seq (c_region ?_))
 refine wl_bx (v := .agg #[_, _]) (cs := #[_, _]) rfl rfl (fun b5 w1 hb5 hs hr => ?_)
 have or_bt_b5 : bt < b5 := nLL hbtg.lt hr
 have or_bs_b5 : bs < b5 := nLL hbs.lt hr
 have or_hS_b5 := (nLT (Same.size hS) hr)
 have lo5 := nLT (Bel.size hB) hr
 replace hB := hB.tr0 hs
 replace hbtg := hbtg.tr0 hs
 replace hbs := hbs.tr0 hs
 replace hS := SameQ.trans hS hs (by simp)
 clear hs
 clear hr
 refine wl_bx (v := .agg #[_]) (cs := #[_]) rfl rfl (fun b6 w2 hb6 hs hr => ?_)
 have or_bt_b6 : bt < b6 := nLL hbtg.lt hr
 have or_bs_b6 : bs < b6 := nLL hbs.lt hr
 have or_hS_b6 := (nLT (Same.size hS) hr)
 have or_b5_b6 : b5 < b6 := nLL hb5.lt hr
 have lo6 := nLT (Bel.size hB) hr
 replace hB := hB.tr0 hs
 replace hbtg := hbtg.tr0 hs
 replace hbs := hbs.tr0 hs
 replace hS := SameQ.trans hS hs (by simp)
 replace hb5 := hb5.tr0 hs
 clear hs
 clear hr
 refine wl (r_as (v := .string _) rfl) (x_nil (e_S (c_seq (c_region (wl (r_as (v := .string _) rfl) ?_)))))
 refine x_nil (e_S (c_seq (c_seq (c_region (wmS rfl ?_)))))
 refine wmI rfl (wl (r_ia (i := t) U43 sz3_GLoose rfl rfl ht rfl) (wl (r_ld1 (v := .int _ _) U3 rfl rfl (hbtg.cell (row_get ht))) (wl (r_gtr rfl rfl) (x_nil (e_S ?_)))))
 refine c_ifd rfl (fun c18 => ?_) (fun c18 => ?_)
 ·
  have htg0 : 0 < tgs g t := by omega
  refine c_seq (c_region (wmS rfl (wmI rfl (wl (r_ia (i := t) U43 sz3_GLoose rfl rfl ht rfl) (wl (r_ld1 (v := .int _ _) U3 rfl rfl (hbtg.cell (row_get ht))) ?_)))))
  refine wl_cl fn93 (sh_strconv_Itoa_small (tgs g t) om _) rfl (fun e' w3 hr => ?_)
  obtain ⟨rfl, rfl⟩ := hr
  refine ⟨_, rfl, ?_⟩
  refine wl (r_addS rfl rfl (add_ok (a := 1) (b := 2) (Nat.le_refl _) hdl dE)) (wl (r_as (v := .string _) rfl) (x_nil (e_S (c_seq (c_seq ?_)))))
  refine c_region (wmS rfl (wmI rfl (wl (r_ia (i := t) U82 sz4_GLoose rfl rfl ht rfl) (wl (r_ld1 (v := .bool _) U4 rfl rfl (hbs.cell (row_get ht))) (x_nil ?_)))))
  refine e_S ?_
  refine c_if rfl (fun c28 => ?_) (fun c28 => ?_)
  ·
   have hst1 : sn t = true := c28
   refine c_seq (c_region (wl (r_mv (v := .string _) rfl) (wl (r_as (v := .string _) rfl) (x_nil (e_S ?_)))))
   refine c_ret (e_Sr (e_Sr (fin1 (.inl rfl) rfl rfl ?_)))
   exact ⟨by rw [wN_old htg0 hst1]; exact ret_str (by rw [bl_app]; rfl), by rw [wN_old htg0 hst1]; exact hbs, hS⟩
  have hs : sn t = false := c28
  have hSq : bl ((⟨#[35]⟩ : ByteArray) ++ (⟨(Lib.decDigits (tgs g t)).toArray⟩ : ByteArray) ++ (⟨#[32]⟩ : ByteArray)) = preB (tgs g t) := by
    rw [bl_app, bl_app]
    unfold preB
    rw [if_pos htg0]
    rfl
  have hSl : (bl ((⟨#[35]⟩ : ByteArray) ++ (⟨(Lib.decDigits (tgs g t)).toArray⟩ : ByteArray) ++ (⟨#[32]⟩ : ByteArray))).length ≤ 4 := by rw [hSq]; exact hpre
  refine c_skip (e_S (c_region (wl (r_mv (v := .string _) rfl) (wl (r_addS rfl rfl (add_ok (a := 3) (b := 1) (by rw [bl_app, List.length_append]; exact Nat.add_le_add (Nat.le_refl 1) hdl) (Nat.le_refl _) dE)) (wl (r_as (v := .string _) rfl) ?_)))))
  refine x_nil (e_S (c_seq (c_region (wmS rfl (wmI rfl ?_)))))
  refine wl (r_ia (i := t) U82 sz4_GLoose rfl rfl ht rfl) ?_
  refine wl_st1 (v := .bool _) hbs rfl rfl sz4_GLoose (by rw [row_size]; omega) rfl row_set (fun w4 hq hs => ?_)
  replace hB := hB.tr1 hs ls
  replace hbtg := hbtg.tr1 hs om
  replace hS := Same.freshL hS hs (fun g hg => by rw [List.mem_singleton.1 hg]; first | exact .inl (List.mem_singleton.2 rfl) | exact .inr or_hS_bs)
  replace hb5 := hb5.tr1 hs om
  replace hb6 := hb6.tr1 hs om
  clear hs
  replace hbs := hq
  rw [row_setB] at hbs
  have hLI := (wN_both hW mf).2 sn pr t hl ht hwi hs
  have hst1 := hst hs
  refine x_nil (e_S (c_seq ?_))
  refine c_still kR kR (fun w5 hs => ?_)
  replace hB := hB.tr0 hs
  replace hbtg := hbtg.tr0 hs
  replace hbs := hbs.tr0 hs
  replace hS := SameQ.trans hS hs (by simp)
  replace hb5 := hb5.tr0 hs
  replace hb6 := hb6.tr0 hs
  clear hs
  refine ws (r_mv (v := .string _) rfl) (ws (r_fa U25 sz22_GLoose dE rfl rfl rfl) (ws (r_ld1 (v := .slice _ _ _) U22 rfl rfl (hb5.cell rfl)) (ws (r_fa U28 sz26 dE rfl rfl rfl) (ws (r_ld1 (v := .slice _ _ _) U26 rfl rfl (hb6.cell rfl)) (ws (r_mv (v := .int _ _) rfl) ?_)))))
  refine ws (r_ia (i := t) U26 sz33 rfl rfl ht rfl) (ws (r_fa U33 sz3_GLoose dE rfl rfl rfl) (ws (r_ld1 (v := .int _ _) U3 rfl rfl (hB.cell hnb (hnr 0 _ rfl))) (ws (r_ia (i := tn) U22 sz77_AWr rfl rfl htnl rfl) (ws (r_fa U77 sz9_AWr dE rfl rfl rfl) (ws (r_ld1 (v := .string _) U9 rfl rfl (hB.cell htb (htr 0 _ rfl))) ?_)))))
  refine ws (r_addS rfl rfl (add_ok (a := 4) (b := 30) hSl hnml dE)) (ws (r_as (v := .string _) rfl) (s_nil (e_S (c_seq (c_seq ?_)))))
  refine c_region (wl (r_fa U28 sz26 dE rfl rfl rfl) (wl (r_ld1 (v := .slice _ _ _) U26 rfl rfl (hb6.cell rfl)) (wmI rfl (wl (r_ia (i := t) U26 sz33 rfl rfl ht rfl) (wl (r_fa U33 sz31 dE rfl rfl rfl) ?_)))))
  refine wl (r_ld1 (v := .slice _ _ _) U31 rfl rfl (hB.cell hnb (hnr 1 _ rfl))) (wl (r_len U31 rfl) (wmI rfl (x_nil (e_S (c_block ?_)))))
  refine c_loopS [11, 12, 13, 55, 56, 57, 58, 59, 60, 61, 62, 63, 64, 65, 66, 67, 68, 69, 70, 71, 72, 73, 74, 75, 76, 77, 78, 79, 80, 81, 82, 83, 84] (fun mm g1 w' => ∃ (j : Nat) (S : ByteArray), j ≤ (g[t]'ht).ln.length ∧ mm = (g[t]'ht).ln.length - j ∧ g1 55 = .int .i64 j ∧ g1 11 = .string S ∧ bl S = preB (tgs g t) ++ nmB l g t ++ (wL fs g (wN l fs g mf) t j (setB sn t)).1 ∧ Bel w0 w' ∧ Blk w' bt 3 (row g.length (fun x => .int .i64 ((tgs g x : Nat) : Int))) ∧ Blk w' b5 25 #[.slice (some ⟨tb, to, none⟩) l.length c, .slice B fs.length d] ∧ Blk w' b6 28 #[.slice (some ⟨nb, no, none⟩) g.length cg] ∧ Blk w' bs 4 (row g.length (fun x => .bool ((wL fs g (wN l fs g mf) t j (setB sn t)).2 x))) ∧ SameQ [bs] w w') ((g[t]'ht).ln.length) ?_ (fun m g10 w6 hI => ?_)
  ·
   exact ⟨0, _, Nat.zero_le _, rfl, rfl, rfl, by rw [bl_app, hSq, ← hnmB, show (wL fs g (wN l fs g mf) t 0 (setB sn t)).1 = [] from rfl, List.append_nil], hB, hbtg, hb5, hb6, hbs, hS⟩
  obtain ⟨j, S, hj, hmj, h55, h11, hSb, hB, hbtg, hb5, hb6, hbs, hS⟩ := hI
  have hle0 := (hLI j (by rw [nd_eq ht]; exact hj)).le
  have hSlen : (bl S).length ≤ 500000 := by rw [hSb]; simp only [List.length_append]; rw [hnmB]; omega
  refine c_know 55 (.int .i64 j) h55 nu (c_know 11 (.string S) h11 nu (c_seq (c_region (wl (r_lss rfl rfl) (x_nil ?_)))))
  refine e_S (c_seq ?_)
  refine c_ifd rfl (fun c56 => ?_) (fun c56 => ?_)
  ·
   have hjl : j < (g[t]'ht).ln.length := by omega
   have hjn : j < (nd g t).ln.length := by rw [nd_eq ht]; exact hjl
   obtain ⟨lb, lof, rfl, hlb, hlr⟩ := hln.at_ (Below.refl _ _ : Bel w0 w0) hjl
   have hlx : lnAt g t j = ((g[t]'ht).ln[j]'hjl) := by unfold lnAt; rw [nd_eq ht]; simp [List.getD, hjl]
   have hgl := hva.gok.ln t ht _ (List.getElem_mem hjl)
   obtain ⟨fi, hfi, hfl⟩ : ∃ z : Nat, ((g[t]'ht).ln[j]'hjl).1 = (z : Int) ∧ z < fs.length := ⟨(((g[t]'ht).ln[j]'hjl).1).toNat, by omega, by omega⟩
   obtain ⟨u, hu, hul⟩ : ∃ z : Nat, ((g[t]'ht).ln[j]'hjl).2 = (z : Int) ∧ z < g.length := ⟨(((g[t]'ht).ln[j]'hjl).2).toNat, by omega, by omega⟩
   obtain ⟨fb, fo, rfl, hfb, hfr2⟩ := hF.at_ (Below.refl _ _ : Bel w0 w0) hfl
   have hftB : ftB fs (lnAt g t j).1 = bl (fs[fi]'hfl).name := by
     unfold ftB bl ftAt
     rw [hlx, hfi]
     simp [List.getD, hfl]
   have hfn := hW.ft t j
   rw [hftB] at hfn
   have hun : (lnAt g t j).2.toNat = u := by rw [hlx, hu]; rfl
   obtain ⟨pr1, hw1, _, _, hl1⟩ := (hLI j om).child ht hs hjn
   rw [hun] at hw1
   have hl2 := hl1 hl
   have hq1 : (wL fs g (wN l fs g mf) t (j + 1) (setB sn t)).1 = (wL fs g (wN l fs g mf) t j (setB sn t)).1 ++ (sepB j ++ ftB fs (lnAt g t j).1 ++ [61] ++ (wN l fs g mf (wL fs g (wN l fs g mf) t j (setB sn t)).2 u).1) := by rw [← hun]; rfl
   have hq2 : (wL fs g (wN l fs g mf) t (j + 1) (setB sn t)).2 = (wN l fs g mf (wL fs g (wN l fs g mf) t j (setB sn t)).2 u).2 := by rw [← hun]; rfl
   have hqb := ((wN_both hW mf).1 _ pr1 u hl2 hul hw1).le
   have hlk2 := lack_le g.length (wL fs g (wN l fs g mf) t j (setB sn t)).2
   obtain ⟨Q, hQ⟩ : ∃ z, z = wN l fs g mf (wL fs g (wN l fs g mf) t j (setB sn t)).2 u := ⟨_, rfl⟩
   rw [← hQ] at hq1 hq2 hqb
   have hQl : (bl (⟨Q.1.toArray⟩ : ByteArray)).length ≤ 200000 := by rw [bl_mk]; omega
   have hnf : (bl ((fs[fi]'hfl).name ++ (⟨#[61]⟩ : ByteArray))).length ≤ 31 := by rw [bl_app, List.length_append]; exact Nat.add_le_add hfn (Nat.le_refl 1)
   refine c_skip (e_S (c_seq (c_block (c_seq (c_region ?_)))))
   refine wmI rfl (wl (r_ia (i := j) U31 sz30 rfl rfl om rfl) (wl (r_ldS U30 rfl rfl (hB.range hlb hlr) sz30) ?_))
   refine wl_al (cs := #[.int .i64 0, .int .i64 0]) ze30 rfl (fun b13 w7 hb13 hs hr => ?_)
   have or_bt_b13 : bt < b13 := nLL hbtg.lt hr
   have or_bs_b13 : bs < b13 := nLL hbs.lt hr
   have or_b5_b13 : b5 < b13 := nLL hb5.lt hr
   have or_b6_b13 : b6 < b13 := nLL hb6.lt hr
   have or_hS_b13 := (nLT (Same.size hS) hr)
   have lo13 := nLT (Bel.size hB) hr
   replace hB := hB.tr0 hs
   replace hbtg := hbtg.tr0 hs
   replace hbs := hbs.tr0 hs
   replace hb5 := hb5.tr0 hs
   replace hb6 := hb6.tr0 hs
   replace hS := SameQ.trans hS hs (by simp)
   clear hs
   clear hr
   refine waI rfl ?_
   refine wl_stW hb13 rfl rfl sz30 rfl oneA (fun w8 hq hs => ?_)
   replace hB := hB.tr1 hs lo13
   replace hbtg := hbtg.tr1 hs om
   replace hbs := hbs.tr1 hs om
   replace hb5 := hb5.tr1 hs om
   replace hb6 := hb6.tr1 hs om
   replace hS := Same.freshL hS hs (fun g hg => by rw [List.mem_singleton.1 hg]; first | exact .inl (List.mem_singleton.2 rfl) | exact .inr or_hS_b13)
   clear hs
   replace hb13 := hq
   refine x_nil (e_S (c_seq (c_seq (c_region (wmI rfl ?_)))))
   refine wl (r_eql rfl rfl) (x_nil (e_S ?_))
   refine c_ifd rfl (fun c61 => ?_) (fun c61 => ?_)
   ·
    obtain ⟨S1, hS1⟩ : ∃ z : ByteArray, z = S ++ (⟨#[40]⟩ : ByteArray) := ⟨_, rfl⟩
    have hS1b : bl S1 = bl S ++ sepB j := by rw [hS1, bl_app]; have e : j = 0 := by omega
                                             rw [e]; rfl
    refine c_region (wl (r_mv (v := .string _) rfl) (wl (r_addS rfl rfl (add_ok (a := 500000) (b := 1) hSlen (Nat.le_refl _) dE)) (wl (r_as (v := .string _) rfl) (x_nil (e_S ?_)))))
    rw [hfi, hu] at hb13
    have hos : Own w8 bs 4 1 (some ⟨bs, 0, none⟩) g.length g.length (row g.length (fun x => .bool ((wL fs g (wN l fs g mf) t j (setB sn t)).2 x))).toList := own_blk hbs (Nat.le_refl _) (by rw [row_size, Nat.mul_one]) om
    have or_hos_b5 := own_neR hos hb5 dE
    have or_hos_b6 := own_neR hos hb6 dE
    have or_hos_b13 := own_neR hos hb13 dE
    have or_hos_bt := own_neR hos hbtg dE
    have hS1l : (bl S1).length ≤ 500002 := by
      have h4 : (sepB j).length ≤ 2 := by unfold sepB; split <;> simp
      rw [hS1b, List.length_append]; omega
    have hQS : (bl ((fs[fi]'hfl).name ++ (⟨#[61]⟩ : ByteArray) ++ (⟨Q.1.toArray⟩ : ByteArray))).length ≤ 200031 := by rw [bl_app, List.length_append]; omega
    have hbs0 := hbs
    refine c_monoSO 18 [66, 67, 68, 69, 70, 71, 72, 73, 74, 75, 76, 77, 78, 79, 80, 81, 82, 83] (aL (some (⟨bs, 0, none⟩ : Addr))) 15 (fun ix v wv => match ix with | 0 => v = .string S1 | 1 => v = .pointer (some ⟨b5, 0 + 1, none⟩) | 2 => v = .slice (some ⟨fb, fo, none⟩) fs.length d | 3 => v = .pointer (some ⟨b13, 0, none⟩) | 4 => v = .int .i64 ((fi : Nat) : Int) | 5 => v = .pointer (some ⟨fb, fo + fi * 3, none⟩) | 6 => v = .pointer (some ⟨fb, fo + fi * 3 + 0, none⟩) | 7 => v = .string (fs[fi]'hfl).name | 8 => v = .string ((fs[fi]'hfl).name ++ (⟨#[61]⟩ : ByteArray)) | 9 => v = .agg #[.slice (some ⟨tb, to, none⟩) l.length c, .slice (some ⟨fb, fo, none⟩) fs.length d] | 10 => v = .agg #[.slice (some ⟨nb, no, none⟩) g.length cg] | 11 => v = .slice (some ⟨bt, 0, none⟩) g.length g.length | 12 => v = .slice (some ⟨bs, 0, none⟩) g.length g.length | 13 => v = .pointer (some ⟨b13, 0 + 1, none⟩) | 14 => v = .int .i64 ((u : Nat) : Int) | 15 => v = .string ⟨Q.1.toArray⟩ ∧ Blk wv bs 4 (row g.length (fun x => .bool (Q.2 x))) | 16 => v = .string ((fs[fi]'hfl).name ++ (⟨#[61]⟩ : ByteArray) ++ (⟨Q.1.toArray⟩ : ByteArray)) | 17 => v = .string (S1 ++ ((fs[fi]'hfl).name ++ (⟨#[61]⟩ : ByteArray) ++ (⟨Q.1.toArray⟩ : ByteArray))) | _ => True) (fun _ => True) kR kR ?_ (fun _ _ _ _ => trivial) ?_ ?_ dE ?_
    ·
     intro ix v wv wv2 h hs
     match ix, h with
     | 0, h => exact h
     | 1, h => exact h
     | 2, h => exact h
     | 3, h => exact h
     | 4, h => exact h
     | 5, h => exact h
     | 6, h => exact h
     | 7, h => exact h
     | 8, h => exact h
     | 9, h => exact h
     | 10, h => exact h
     | 11, h => exact h
     | 12, h => exact h
     | 13, h => exact h
     | 14, h => exact h
     | 15, h =>
      obtain ⟨e81, hbs⟩ := (show v = .string ⟨Q.1.toArray⟩ ∧ Blk wv bs 4 (row g.length (fun x => .bool (Q.2 x))) from h)
      exact ⟨e81, hbs.tr0 hs⟩
     | 16, h => exact h
     | 17, h => exact h
     | _ + 18, h => exact trivial
    ·
     intro ix o hix hne hoq gg wx hs hd
     match ix, hix, hne, hoq with
     | 0, _, _, hoq =>
      obtain rfl := sI hoq
      have hs0 := hs
      refine os_rv (r_mv (v := .string _) rfl) ⟨Same.refl _ _, ?_⟩
      exact (by first | rfl | exact congrArg Value.string hS1.symm)
     | 1, _, _, hoq =>
      obtain rfl := sI hoq
      have hs0 := hs
      replace hb5 := hb5.tr hs (fun hx => by have := (hos.lt _ hx).1; (try have := or_hos_b5 _ hx); omega)
      refine os_rv (r_fa U25 sz23_GLoose dE rfl rfl rfl) ⟨Same.refl _ _, ?_⟩
      exact rfl
     | 2, _, _, hoq =>
      obtain rfl := sI hoq
      have hs0 := hs
      replace hb5 := hb5.tr hs (fun hx => by have := (hos.lt _ hx).1; (try have := or_hos_b5 _ hx); omega)
      have d1 : gg 67 = .pointer (some ⟨b5, 0 + 1, none⟩) := hd 1 (dep_of kR)
      have e67 := d1
      refine os_know 67 (.pointer (some ⟨b5, 0 + 1, none⟩)) e67 nu ?_
      refine os_rv (r_ld1 (v := .slice _ _ _) U23 rfl rfl (hb5.cell rfl)) ⟨Same.refl _ _, ?_⟩
      exact rfl
     | 3, _, _, hoq =>
      obtain rfl := sI hoq
      have hs0 := hs
      replace hb13 := hb13.tr hs (fun hx => by have := (hos.lt _ hx).1; (try have := or_hos_b13 _ hx); omega)
      refine os_rv (r_fa U30 sz3_GLoose dE rfl rfl rfl) ⟨Same.refl _ _, ?_⟩
      exact rfl
     | 4, _, _, hoq =>
      obtain rfl := sI hoq
      have hs0 := hs
      replace hb13 := hb13.tr hs (fun hx => by have := (hos.lt _ hx).1; (try have := or_hos_b13 _ hx); omega)
      have d3 : gg 69 = .pointer (some ⟨b13, 0, none⟩) := hd 3 (dep_of kR)
      have e69 := d3
      refine os_know 69 (.pointer (some ⟨b13, 0, none⟩)) e69 nu ?_
      refine os_rv (r_ld1 (v := .int _ _) U3 rfl rfl (hb13.cell rfl)) ⟨Same.refl _ _, ?_⟩
      exact rfl
     | 5, _, _, hoq =>
      obtain rfl := sI hoq
      have hs0 := hs
      have d2 : gg 68 = .slice (some ⟨fb, fo, none⟩) fs.length d := hd 2 (dep_of kR)
      have e68 := d2
      have d4 : gg 70 = .int .i64 ((fi : Nat) : Int) := hd 4 (dep_of kR)
      have e70 := d4
      refine os_know 68 (.slice (some ⟨fb, fo, none⟩) fs.length d) e68 nu (os_know 70 (.int .i64 ((fi : Nat) : Int)) e70 nu ?_)
      refine os_rv (r_ia (i := fi) U23 sz63_GVal rfl rfl hfl rfl) ⟨Same.refl _ _, ?_⟩
      exact rfl
     | 6, _, _, hoq =>
      obtain rfl := sI hoq
      have hs0 := hs
      have d5 : gg 71 = .pointer (some ⟨fb, fo + fi * 3, none⟩) := hd 5 (dep_of kR)
      have e71 := d5
      refine os_know 71 (.pointer (some ⟨fb, fo + fi * 3, none⟩)) e71 nu ?_
      refine os_rv (r_fa U63 sz9_AWr dE rfl rfl rfl) ⟨Same.refl _ _, ?_⟩
      exact rfl
     | 7, _, _, hoq =>
      obtain rfl := sI hoq
      have hs0 := hs
      replace hB := hB.tr hs (fun g hg => nLT ls (hos.lt g hg).1)
      have d6 : gg 72 = .pointer (some ⟨fb, fo + fi * 3 + 0, none⟩) := hd 6 (dep_of kR)
      have e72 := d6
      refine os_know 72 (.pointer (some ⟨fb, fo + fi * 3 + 0, none⟩)) e72 nu ?_
      refine os_rv (r_ld1 (v := .string _) U9 rfl rfl (hB.cell hfb (hfr2 0 _ rfl))) ⟨Same.refl _ _, ?_⟩
      exact rfl
     | 8, _, _, hoq =>
      obtain rfl := sI hoq
      have hs0 := hs
      have d7 : gg 73 = .string (fs[fi]'hfl).name := hd 7 (dep_of kR)
      have e73 := d7
      refine os_know 73 (.string (fs[fi]'hfl).name) e73 nu ?_
      refine os_rv (r_addS rfl rfl (add_ok (a := 30) (b := 1) hfn (Nat.le_refl _) dE)) ⟨Same.refl _ _, ?_⟩
      exact rfl
     | 9, _, _, hoq =>
      obtain rfl := sI hoq
      have hs0 := hs
      replace hb5 := hb5.tr hs (fun hx => by have := (hos.lt _ hx).1; (try have := or_hos_b5 _ hx); omega)
      refine os_rv (r_ldS U25 rfl rfl hb5.range0 sz25) ⟨Same.refl _ _, ?_⟩
      exact rfl
     | 10, _, _, hoq =>
      obtain rfl := sI hoq
      have hs0 := hs
      replace hb6 := hb6.tr hs (fun hx => by have := (hos.lt _ hx).1; (try have := or_hos_b6 _ hx); omega)
      refine os_rv (r_ldS U28 rfl rfl hb6.range0 sz28) ⟨Same.refl _ _, ?_⟩
      exact rfl
     | 11, _, _, hoq =>
      obtain rfl := sI hoq
      have hs0 := hs
      refine os_rv (r_mv (v := .slice _ _ _) rfl) ⟨Same.refl _ _, ?_⟩
      exact rfl
     | 12, _, _, hoq =>
      obtain rfl := sI hoq
      have hs0 := hs
      refine os_rv (r_mv (v := .slice _ _ _) rfl) ⟨Same.refl _ _, ?_⟩
      exact rfl
     | 13, _, _, hoq =>
      obtain rfl := sI hoq
      have hs0 := hs
      replace hb13 := hb13.tr hs (fun hx => by have := (hos.lt _ hx).1; (try have := or_hos_b13 _ hx); omega)
      refine os_rv (r_fa U30 sz3_GLoose dE rfl rfl rfl) ⟨Same.refl _ _, ?_⟩
      exact rfl
     | 14, _, _, hoq =>
      obtain rfl := sI hoq
      have hs0 := hs
      replace hb13 := hb13.tr hs (fun hx => by have := (hos.lt _ hx).1; (try have := or_hos_b13 _ hx); omega)
      have d13 : gg 79 = .pointer (some ⟨b13, 0 + 1, none⟩) := hd 13 (dep_of kR)
      have e79 := d13
      refine os_know 79 (.pointer (some ⟨b13, 0 + 1, none⟩)) e79 nu ?_
      refine os_rv (r_ld1 (v := .int _ _) U3 rfl rfl (hb13.cell rfl)) ⟨Same.refl _ _, ?_⟩
      exact rfl
     | 15, _, hne, _ => exact absurd rfl hne
     | 16, _, _, hoq =>
      obtain rfl := sI hoq
      have hs0 := hs
      have d8 : gg 74 = .string ((fs[fi]'hfl).name ++ (⟨#[61]⟩ : ByteArray)) := hd 8 (dep_of kR)
      have e74 := d8
      have d15 : gg 81 = .string ⟨Q.1.toArray⟩ ∧ Blk wx bs 4 (row g.length (fun x => .bool (Q.2 x))) := hd 15 (dep_of kR)
      obtain ⟨e81, hbs⟩ := d15
      refine os_know 74 (.string ((fs[fi]'hfl).name ++ (⟨#[61]⟩ : ByteArray))) e74 nu (os_know 81 (.string (⟨Q.1.toArray⟩ : ByteArray)) e81 nu ?_)
      refine os_rv (r_addS rfl rfl (add_ok (a := 31) (b := 200000) hnf hQl dE)) ⟨Same.refl _ _, ?_⟩
      exact rfl
     | 17, _, _, hoq =>
      obtain rfl := sI hoq
      have hs0 := hs
      have d0 : gg 66 = .string S1 := hd 0 (dep_of kR)
      have e66 := d0
      have d16 : gg 82 = .string ((fs[fi]'hfl).name ++ (⟨#[61]⟩ : ByteArray) ++ (⟨Q.1.toArray⟩ : ByteArray)) := hd 16 (dep_of kR)
      have e82 := d16
      refine os_know 66 (.string S1) e66 nu (os_know 82 (.string ((fs[fi]'hfl).name ++ (⟨#[61]⟩ : ByteArray) ++ (⟨Q.1.toArray⟩ : ByteArray))) e82 nu ?_)
      refine os_rv (r_addS rfl rfl (add_ok (a := 500002) (b := 200031) hS1l hQS dE)) ⟨Same.refl _ _, ?_⟩
      exact rfl
     | _ + 18, hix, _, _ => exact absurd hix om
    ·
     intro o hoq gg wx hs hd
     obtain rfl := sI hoq
     have hs0 := hs
     replace hB := hB.tr0 hs
     replace hbtg := hbtg.tr0 hs
     replace hb5 := hb5.tr0 hs
     replace hb6 := hb6.tr0 hs
     replace hS := SameQ.trans hS hs (by simp)
     replace hb13 := hb13.tr0 hs
     replace hos := hos.tr0 hs
     replace hbs0 := hbs0.tr0 hs
     clear hs
     have d9 : gg 75 = .agg #[.slice (some ⟨tb, to, none⟩) l.length c, .slice (some ⟨fb, fo, none⟩) fs.length d] := hd 9 (dep_of kR)
     have e75 := d9
     have d10 : gg 76 = .agg #[.slice (some ⟨nb, no, none⟩) g.length cg] := hd 10 (dep_of kR)
     have e76 := d10
     have d11 : gg 77 = .slice (some ⟨bt, 0, none⟩) g.length g.length := hd 11 (dep_of kR)
     have e77 := d11
     have d12 : gg 78 = .slice (some ⟨bs, 0, none⟩) g.length g.length := hd 12 (dep_of kR)
     have e78 := d12
     have d14 : gg 80 = .int .i64 ((u : Nat) : Int) := hd 14 (dep_of kR)
     have e80 := d14
     refine os_know 75 (.agg #[.slice (some ⟨tb, to, none⟩) l.length c, .slice (some ⟨fb, fo, none⟩) fs.length d]) e75 nu (os_know 76 (.agg #[.slice (some ⟨nb, no, none⟩) g.length cg]) e76 nu (os_know 77 (.slice (some ⟨bt, 0, none⟩) g.length g.length) e77 nu (os_know 78 (.slice (some ⟨bs, 0, none⟩) g.length g.length) e78 nu (os_know 80 (.int .i64 ((u : Nat) : Int)) e80 nu ?_))))
     refine os_cl fn66 (IH (wL fs g (wN l fs g mf) t j (setB sn t)).2 pr1 u wx hl2 hul hw1 hB hbs0) rfl (fun e' w2 hr => ?_)
     obtain ⟨rfl, hbs2, hs2⟩ := hr
     refine ⟨_, rfl, hs2, ⟨by rw [hQ], by rw [hQ]; exact hbs2⟩, trivial, fun kx v hne h => ?_⟩
     match kx, hne, h with
     | 0, _, h => exact h
     | 1, _, h => exact h
     | 2, _, h => exact h
     | 3, _, h => exact h
     | 4, _, h => exact h
     | 5, _, h => exact h
     | 6, _, h => exact h
     | 7, _, h => exact h
     | 8, _, h => exact h
     | 9, _, h => exact h
     | 10, _, h => exact h
     | 11, _, h => exact h
     | 12, _, h => exact h
     | 13, _, h => exact h
     | 14, _, h => exact h
     | 15, hne, _ => exact absurd rfl hne
     | 16, _, h => exact h
     | 17, _, h => exact h
     | _ + 18, _, _ => exact trivial
    intro gg w9 hs _ hR
    have hs0 := hs
    replace hB := hB.tr hs (fun g hg => nLT ls (hos.lt g hg).1)
    replace hbtg := hbtg.tr hs (fun hx => by have := (hos.lt _ hx).1; (try have := or_hos_bt _ hx); omega)
    replace hb5 := hb5.tr hs (fun hx => by have := (hos.lt _ hx).1; (try have := or_hos_b5 _ hx); omega)
    replace hb6 := hb6.tr hs (fun hx => by have := (hos.lt _ hx).1; (try have := or_hos_b6 _ hx); omega)
    replace hS := Same.freshL hS hs (fun g hg => .inl hg)
    replace hb13 := hb13.tr hs (fun hx => by have := (hos.lt _ hx).1; (try have := or_hos_b13 _ hx); omega)
    replace hbs0 := trivial
    have d15 : gg 81 = .string ⟨Q.1.toArray⟩ ∧ Blk w9 bs 4 (row g.length (fun x => .bool (Q.2 x))) := hR 15 dE
    obtain ⟨e81, hbs⟩ := d15
    have d17 : gg 83 = .string (S1 ++ ((fs[fi]'hfl).name ++ (⟨#[61]⟩ : ByteArray) ++ (⟨Q.1.toArray⟩ : ByteArray))) := hR 17 dE
    have e83 := d17
    rw [← hq2] at hbs
    have hS9 : bl (S1 ++ ((fs[fi]'hfl).name ++ (⟨#[61]⟩ : ByteArray) ++ (⟨Q.1.toArray⟩ : ByteArray))) = preB (tgs g t) ++ nmB l g t ++ (wL fs g (wN l fs g mf) t (j + 1) (setB sn t)).1 := by
      rw [bl_app, bl_app, bl_app, hS1b, hSb, hq1, hftB, bl_mk]
      simp only [List.append_assoc]
      rfl
    refine wl_know 81 (.string (⟨Q.1.toArray⟩ : ByteArray)) e81 nu (wl_know 83 (.string (S1 ++ ((fs[fi]'hfl).name ++ (⟨#[61]⟩ : ByteArray) ++ (⟨Q.1.toArray⟩ : ByteArray)))) e83 nu (wl (r_as (v := .string _) rfl) (x_nil (e_B (e_S ?_)))))
    refine c_region (wl (r_add rfl rfl rfl om) (wmI rfl (x_nil (e_LS ((g[t]'ht).ln.length - (j + 1)) om agA ?_))))
    exact ⟨j + 1, _, by omega, rfl, rfl, rfl, hS9, hB, hbtg, hb5, hb6, hbs, hS⟩
   obtain ⟨S1, hS1⟩ : ∃ z : ByteArray, z = S ++ (⟨#[44, 32]⟩ : ByteArray) := ⟨_, rfl⟩
   have hS1b : bl S1 = bl S ++ sepB j := by rw [hS1, bl_app]; unfold sepB; rw [if_neg om]; rfl
   refine c_region (wl (r_mv (v := .string _) rfl) (wl (r_addS rfl rfl (add_ok (a := 500000) (b := 2) hSlen (Nat.le_refl _) dE)) (wl (r_as (v := .string _) rfl) (x_nil (e_S ?_)))))
   rw [hfi, hu] at hb13
   have hos : Own w8 bs 4 1 (some ⟨bs, 0, none⟩) g.length g.length (row g.length (fun x => .bool ((wL fs g (wN l fs g mf) t j (setB sn t)).2 x))).toList := own_blk hbs (Nat.le_refl _) (by rw [row_size, Nat.mul_one]) om
   have or_hos_b5 := own_neR hos hb5 dE
   have or_hos_b6 := own_neR hos hb6 dE
   have or_hos_b13 := own_neR hos hb13 dE
   have or_hos_bt := own_neR hos hbtg dE
   have hS1l : (bl S1).length ≤ 500002 := by
     have h4 : (sepB j).length ≤ 2 := by unfold sepB; split <;> simp
     rw [hS1b, List.length_append]; omega
   have hQS : (bl ((fs[fi]'hfl).name ++ (⟨#[61]⟩ : ByteArray) ++ (⟨Q.1.toArray⟩ : ByteArray))).length ≤ 200031 := by rw [bl_app, List.length_append]; omega
   have hbs0 := hbs
   refine c_monoSO 18 [66, 67, 68, 69, 70, 71, 72, 73, 74, 75, 76, 77, 78, 79, 80, 81, 82, 83] (aL (some (⟨bs, 0, none⟩ : Addr))) 15 (fun ix v wv => match ix with | 0 => v = .string S1 | 1 => v = .pointer (some ⟨b5, 0 + 1, none⟩) | 2 => v = .slice (some ⟨fb, fo, none⟩) fs.length d | 3 => v = .pointer (some ⟨b13, 0, none⟩) | 4 => v = .int .i64 ((fi : Nat) : Int) | 5 => v = .pointer (some ⟨fb, fo + fi * 3, none⟩) | 6 => v = .pointer (some ⟨fb, fo + fi * 3 + 0, none⟩) | 7 => v = .string (fs[fi]'hfl).name | 8 => v = .string ((fs[fi]'hfl).name ++ (⟨#[61]⟩ : ByteArray)) | 9 => v = .agg #[.slice (some ⟨tb, to, none⟩) l.length c, .slice (some ⟨fb, fo, none⟩) fs.length d] | 10 => v = .agg #[.slice (some ⟨nb, no, none⟩) g.length cg] | 11 => v = .slice (some ⟨bt, 0, none⟩) g.length g.length | 12 => v = .slice (some ⟨bs, 0, none⟩) g.length g.length | 13 => v = .pointer (some ⟨b13, 0 + 1, none⟩) | 14 => v = .int .i64 ((u : Nat) : Int) | 15 => v = .string ⟨Q.1.toArray⟩ ∧ Blk wv bs 4 (row g.length (fun x => .bool (Q.2 x))) | 16 => v = .string ((fs[fi]'hfl).name ++ (⟨#[61]⟩ : ByteArray) ++ (⟨Q.1.toArray⟩ : ByteArray)) | 17 => v = .string (S1 ++ ((fs[fi]'hfl).name ++ (⟨#[61]⟩ : ByteArray) ++ (⟨Q.1.toArray⟩ : ByteArray))) | _ => True) (fun _ => True) kR kR ?_ (fun _ _ _ _ => trivial) ?_ ?_ dE ?_
   ·
    intro ix v wv wv2 h hs
    match ix, h with
    | 0, h => exact h
    | 1, h => exact h
    | 2, h => exact h
    | 3, h => exact h
    | 4, h => exact h
    | 5, h => exact h
    | 6, h => exact h
    | 7, h => exact h
    | 8, h => exact h
    | 9, h => exact h
    | 10, h => exact h
    | 11, h => exact h
    | 12, h => exact h
    | 13, h => exact h
    | 14, h => exact h
    | 15, h =>
     obtain ⟨e81, hbs⟩ := (show v = .string ⟨Q.1.toArray⟩ ∧ Blk wv bs 4 (row g.length (fun x => .bool (Q.2 x))) from h)
     exact ⟨e81, hbs.tr0 hs⟩
    | 16, h => exact h
    | 17, h => exact h
    | _ + 18, h => exact trivial
   ·
    intro ix o hix hne hoq gg wx hs hd
    match ix, hix, hne, hoq with
    | 0, _, _, hoq =>
     obtain rfl := sI hoq
     have hs0 := hs
     refine os_rv (r_mv (v := .string _) rfl) ⟨Same.refl _ _, ?_⟩
     exact (by first | rfl | exact congrArg Value.string hS1.symm)
    | 1, _, _, hoq =>
     obtain rfl := sI hoq
     have hs0 := hs
     replace hb5 := hb5.tr hs (fun hx => by have := (hos.lt _ hx).1; (try have := or_hos_b5 _ hx); omega)
     refine os_rv (r_fa U25 sz23_GLoose dE rfl rfl rfl) ⟨Same.refl _ _, ?_⟩
     exact rfl
    | 2, _, _, hoq =>
     obtain rfl := sI hoq
     have hs0 := hs
     replace hb5 := hb5.tr hs (fun hx => by have := (hos.lt _ hx).1; (try have := or_hos_b5 _ hx); omega)
     have d1 : gg 67 = .pointer (some ⟨b5, 0 + 1, none⟩) := hd 1 (dep_of kR)
     have e67 := d1
     refine os_know 67 (.pointer (some ⟨b5, 0 + 1, none⟩)) e67 nu ?_
     refine os_rv (r_ld1 (v := .slice _ _ _) U23 rfl rfl (hb5.cell rfl)) ⟨Same.refl _ _, ?_⟩
     exact rfl
    | 3, _, _, hoq =>
     obtain rfl := sI hoq
     have hs0 := hs
     replace hb13 := hb13.tr hs (fun hx => by have := (hos.lt _ hx).1; (try have := or_hos_b13 _ hx); omega)
     refine os_rv (r_fa U30 sz3_GLoose dE rfl rfl rfl) ⟨Same.refl _ _, ?_⟩
     exact rfl
    | 4, _, _, hoq =>
     obtain rfl := sI hoq
     have hs0 := hs
     replace hb13 := hb13.tr hs (fun hx => by have := (hos.lt _ hx).1; (try have := or_hos_b13 _ hx); omega)
     have d3 : gg 69 = .pointer (some ⟨b13, 0, none⟩) := hd 3 (dep_of kR)
     have e69 := d3
     refine os_know 69 (.pointer (some ⟨b13, 0, none⟩)) e69 nu ?_
     refine os_rv (r_ld1 (v := .int _ _) U3 rfl rfl (hb13.cell rfl)) ⟨Same.refl _ _, ?_⟩
     exact rfl
    | 5, _, _, hoq =>
     obtain rfl := sI hoq
     have hs0 := hs
     have d2 : gg 68 = .slice (some ⟨fb, fo, none⟩) fs.length d := hd 2 (dep_of kR)
     have e68 := d2
     have d4 : gg 70 = .int .i64 ((fi : Nat) : Int) := hd 4 (dep_of kR)
     have e70 := d4
     refine os_know 68 (.slice (some ⟨fb, fo, none⟩) fs.length d) e68 nu (os_know 70 (.int .i64 ((fi : Nat) : Int)) e70 nu ?_)
     refine os_rv (r_ia (i := fi) U23 sz63_GVal rfl rfl hfl rfl) ⟨Same.refl _ _, ?_⟩
     exact rfl
    | 6, _, _, hoq =>
     obtain rfl := sI hoq
     have hs0 := hs
     have d5 : gg 71 = .pointer (some ⟨fb, fo + fi * 3, none⟩) := hd 5 (dep_of kR)
     have e71 := d5
     refine os_know 71 (.pointer (some ⟨fb, fo + fi * 3, none⟩)) e71 nu ?_
     refine os_rv (r_fa U63 sz9_AWr dE rfl rfl rfl) ⟨Same.refl _ _, ?_⟩
     exact rfl
    | 7, _, _, hoq =>
     obtain rfl := sI hoq
     have hs0 := hs
     replace hB := hB.tr hs (fun g hg => nLT ls (hos.lt g hg).1)
     have d6 : gg 72 = .pointer (some ⟨fb, fo + fi * 3 + 0, none⟩) := hd 6 (dep_of kR)
     have e72 := d6
     refine os_know 72 (.pointer (some ⟨fb, fo + fi * 3 + 0, none⟩)) e72 nu ?_
     refine os_rv (r_ld1 (v := .string _) U9 rfl rfl (hB.cell hfb (hfr2 0 _ rfl))) ⟨Same.refl _ _, ?_⟩
     exact rfl
    | 8, _, _, hoq =>
     obtain rfl := sI hoq
     have hs0 := hs
     have d7 : gg 73 = .string (fs[fi]'hfl).name := hd 7 (dep_of kR)
     have e73 := d7
     refine os_know 73 (.string (fs[fi]'hfl).name) e73 nu ?_
     refine os_rv (r_addS rfl rfl (add_ok (a := 30) (b := 1) hfn (Nat.le_refl _) dE)) ⟨Same.refl _ _, ?_⟩
     exact rfl
    | 9, _, _, hoq =>
     obtain rfl := sI hoq
     have hs0 := hs
     replace hb5 := hb5.tr hs (fun hx => by have := (hos.lt _ hx).1; (try have := or_hos_b5 _ hx); omega)
     refine os_rv (r_ldS U25 rfl rfl hb5.range0 sz25) ⟨Same.refl _ _, ?_⟩
     exact rfl
    | 10, _, _, hoq =>
     obtain rfl := sI hoq
     have hs0 := hs
     replace hb6 := hb6.tr hs (fun hx => by have := (hos.lt _ hx).1; (try have := or_hos_b6 _ hx); omega)
     refine os_rv (r_ldS U28 rfl rfl hb6.range0 sz28) ⟨Same.refl _ _, ?_⟩
     exact rfl
    | 11, _, _, hoq =>
     obtain rfl := sI hoq
     have hs0 := hs
     refine os_rv (r_mv (v := .slice _ _ _) rfl) ⟨Same.refl _ _, ?_⟩
     exact rfl
    | 12, _, _, hoq =>
     obtain rfl := sI hoq
     have hs0 := hs
     refine os_rv (r_mv (v := .slice _ _ _) rfl) ⟨Same.refl _ _, ?_⟩
     exact rfl
    | 13, _, _, hoq =>
     obtain rfl := sI hoq
     have hs0 := hs
     replace hb13 := hb13.tr hs (fun hx => by have := (hos.lt _ hx).1; (try have := or_hos_b13 _ hx); omega)
     refine os_rv (r_fa U30 sz3_GLoose dE rfl rfl rfl) ⟨Same.refl _ _, ?_⟩
     exact rfl
    | 14, _, _, hoq =>
     obtain rfl := sI hoq
     have hs0 := hs
     replace hb13 := hb13.tr hs (fun hx => by have := (hos.lt _ hx).1; (try have := or_hos_b13 _ hx); omega)
     have d13 : gg 79 = .pointer (some ⟨b13, 0 + 1, none⟩) := hd 13 (dep_of kR)
     have e79 := d13
     refine os_know 79 (.pointer (some ⟨b13, 0 + 1, none⟩)) e79 nu ?_
     refine os_rv (r_ld1 (v := .int _ _) U3 rfl rfl (hb13.cell rfl)) ⟨Same.refl _ _, ?_⟩
     exact rfl
    | 15, _, hne, _ => exact absurd rfl hne
    | 16, _, _, hoq =>
     obtain rfl := sI hoq
     have hs0 := hs
     have d8 : gg 74 = .string ((fs[fi]'hfl).name ++ (⟨#[61]⟩ : ByteArray)) := hd 8 (dep_of kR)
     have e74 := d8
     have d15 : gg 81 = .string ⟨Q.1.toArray⟩ ∧ Blk wx bs 4 (row g.length (fun x => .bool (Q.2 x))) := hd 15 (dep_of kR)
     obtain ⟨e81, hbs⟩ := d15
     refine os_know 74 (.string ((fs[fi]'hfl).name ++ (⟨#[61]⟩ : ByteArray))) e74 nu (os_know 81 (.string (⟨Q.1.toArray⟩ : ByteArray)) e81 nu ?_)
     refine os_rv (r_addS rfl rfl (add_ok (a := 31) (b := 200000) hnf hQl dE)) ⟨Same.refl _ _, ?_⟩
     exact rfl
    | 17, _, _, hoq =>
     obtain rfl := sI hoq
     have hs0 := hs
     have d0 : gg 66 = .string S1 := hd 0 (dep_of kR)
     have e66 := d0
     have d16 : gg 82 = .string ((fs[fi]'hfl).name ++ (⟨#[61]⟩ : ByteArray) ++ (⟨Q.1.toArray⟩ : ByteArray)) := hd 16 (dep_of kR)
     have e82 := d16
     refine os_know 66 (.string S1) e66 nu (os_know 82 (.string ((fs[fi]'hfl).name ++ (⟨#[61]⟩ : ByteArray) ++ (⟨Q.1.toArray⟩ : ByteArray))) e82 nu ?_)
     refine os_rv (r_addS rfl rfl (add_ok (a := 500002) (b := 200031) hS1l hQS dE)) ⟨Same.refl _ _, ?_⟩
     exact rfl
    | _ + 18, hix, _, _ => exact absurd hix om
   ·
    intro o hoq gg wx hs hd
    obtain rfl := sI hoq
    have hs0 := hs
    replace hB := hB.tr0 hs
    replace hbtg := hbtg.tr0 hs
    replace hb5 := hb5.tr0 hs
    replace hb6 := hb6.tr0 hs
    replace hS := SameQ.trans hS hs (by simp)
    replace hb13 := hb13.tr0 hs
    replace hos := hos.tr0 hs
    replace hbs0 := hbs0.tr0 hs
    clear hs
    have d9 : gg 75 = .agg #[.slice (some ⟨tb, to, none⟩) l.length c, .slice (some ⟨fb, fo, none⟩) fs.length d] := hd 9 (dep_of kR)
    have e75 := d9
    have d10 : gg 76 = .agg #[.slice (some ⟨nb, no, none⟩) g.length cg] := hd 10 (dep_of kR)
    have e76 := d10
    have d11 : gg 77 = .slice (some ⟨bt, 0, none⟩) g.length g.length := hd 11 (dep_of kR)
    have e77 := d11
    have d12 : gg 78 = .slice (some ⟨bs, 0, none⟩) g.length g.length := hd 12 (dep_of kR)
    have e78 := d12
    have d14 : gg 80 = .int .i64 ((u : Nat) : Int) := hd 14 (dep_of kR)
    have e80 := d14
    refine os_know 75 (.agg #[.slice (some ⟨tb, to, none⟩) l.length c, .slice (some ⟨fb, fo, none⟩) fs.length d]) e75 nu (os_know 76 (.agg #[.slice (some ⟨nb, no, none⟩) g.length cg]) e76 nu (os_know 77 (.slice (some ⟨bt, 0, none⟩) g.length g.length) e77 nu (os_know 78 (.slice (some ⟨bs, 0, none⟩) g.length g.length) e78 nu (os_know 80 (.int .i64 ((u : Nat) : Int)) e80 nu ?_))))
    refine os_cl fn66 (IH (wL fs g (wN l fs g mf) t j (setB sn t)).2 pr1 u wx hl2 hul hw1 hB hbs0) rfl (fun e' w2 hr => ?_)
    obtain ⟨rfl, hbs2, hs2⟩ := hr
    refine ⟨_, rfl, hs2, ⟨by rw [hQ], by rw [hQ]; exact hbs2⟩, trivial, fun kx v hne h => ?_⟩
    match kx, hne, h with
    | 0, _, h => exact h
    | 1, _, h => exact h
    | 2, _, h => exact h
    | 3, _, h => exact h
    | 4, _, h => exact h
    | 5, _, h => exact h
    | 6, _, h => exact h
    | 7, _, h => exact h
    | 8, _, h => exact h
    | 9, _, h => exact h
    | 10, _, h => exact h
    | 11, _, h => exact h
    | 12, _, h => exact h
    | 13, _, h => exact h
    | 14, _, h => exact h
    | 15, hne, _ => exact absurd rfl hne
    | 16, _, h => exact h
    | 17, _, h => exact h
    | _ + 18, _, _ => exact trivial
   intro gg w10 hs _ hR
   have hs0 := hs
   replace hB := hB.tr hs (fun g hg => nLT ls (hos.lt g hg).1)
   replace hbtg := hbtg.tr hs (fun hx => by have := (hos.lt _ hx).1; (try have := or_hos_bt _ hx); omega)
   replace hb5 := hb5.tr hs (fun hx => by have := (hos.lt _ hx).1; (try have := or_hos_b5 _ hx); omega)
   replace hb6 := hb6.tr hs (fun hx => by have := (hos.lt _ hx).1; (try have := or_hos_b6 _ hx); omega)
   replace hS := Same.freshL hS hs (fun g hg => .inl hg)
   replace hb13 := hb13.tr hs (fun hx => by have := (hos.lt _ hx).1; (try have := or_hos_b13 _ hx); omega)
   replace hbs0 := trivial
   have d15 : gg 81 = .string ⟨Q.1.toArray⟩ ∧ Blk w10 bs 4 (row g.length (fun x => .bool (Q.2 x))) := hR 15 dE
   obtain ⟨e81, hbs⟩ := d15
   have d17 : gg 83 = .string (S1 ++ ((fs[fi]'hfl).name ++ (⟨#[61]⟩ : ByteArray) ++ (⟨Q.1.toArray⟩ : ByteArray))) := hR 17 dE
   have e83 := d17
   rw [← hq2] at hbs
   have hS9 : bl (S1 ++ ((fs[fi]'hfl).name ++ (⟨#[61]⟩ : ByteArray) ++ (⟨Q.1.toArray⟩ : ByteArray))) = preB (tgs g t) ++ nmB l g t ++ (wL fs g (wN l fs g mf) t (j + 1) (setB sn t)).1 := by
     rw [bl_app, bl_app, bl_app, hS1b, hSb, hq1, hftB, bl_mk]
     simp only [List.append_assoc]
     rfl
   refine wl_know 81 (.string (⟨Q.1.toArray⟩ : ByteArray)) e81 nu (wl_know 83 (.string (S1 ++ ((fs[fi]'hfl).name ++ (⟨#[61]⟩ : ByteArray) ++ (⟨Q.1.toArray⟩ : ByteArray)))) e83 nu (wl (r_as (v := .string _) rfl) (x_nil (e_B (e_S ?_)))))
   refine c_region (wl (r_add rfl rfl rfl om) (wmI rfl (x_nil (e_LS ((g[t]'ht).ln.length - (j + 1)) om agA ?_))))
   exact ⟨j + 1, _, by omega, rfl, rfl, rfl, hS9, hB, hbtg, hb5, hb6, hbs, hS⟩
  have hjx : j = (g[t]'ht).ln.length := by omega
  refine c_exit (e_Sx (e_LSx (e_Bx (e_S (c_seq ?_)))))
  refine c_seq (c_region (wl (r_fa U28 sz26 dE rfl rfl rfl) (wl (r_ld1 (v := .slice _ _ _) U26 rfl rfl (hb6.cell rfl)) (wmI rfl (wl (r_ia (i := t) U26 sz33 rfl rfl ht rfl) ?_)))))
  refine wl (r_fa U33 sz31 dE rfl rfl rfl) (wl (r_ld1 (v := .slice _ _ _) U31 rfl rfl (hB.cell hnb (hnr 1 _ rfl))) (wl (r_len U31 rfl) (wl (r_gtr rfl rfl) (x_nil (e_S ?_)))))
  refine c_ifd rfl (fun c92 => ?_) (fun c92 => ?_)
  ·
   have hn0 : cloB j = [41] := by unfold cloB; rw [if_pos om]
   refine c_region (wl (r_mv (v := .string _) rfl) (wl (r_addS rfl rfl (add_ok (a := 500000) (b := 1) hSlen (Nat.le_refl _) dE)) (wl (r_as (v := .string _) rfl) (x_nil (e_S ?_)))))
   refine c_seq (c_region (wl (r_mv (v := .string _) rfl) (wl (r_as (v := .string _) rfl) (x_nil (e_S ?_)))))
   refine c_ret (fin1 (.inl rfl) rfl rfl ?_)
   have hje : (nd g t).ln.length = j := by rw [nd_eq ht, hjx]
   refine ⟨?_, by rw [wN_new hs, hje]; exact hbs, hS⟩
   rw [wN_new hs, hje, hn0]
   first
     | exact ret_str (p := S ++ (⟨#[41]⟩ : ByteArray)) (by rw [bl_app, hSb]; rfl)
     | exact ret_str (p := S) (by rw [hSb]; simp only [bl_mk, List.append_nil])
  have hn0 : cloB j = [] := by unfold cloB; rw [if_neg om]
  refine c_skip (e_S (c_seq (c_region (wl (r_mv (v := .string _) rfl) (wl (r_as (v := .string _) rfl) ?_)))))
  refine x_nil (e_S (c_ret (fin1 (.inl rfl) rfl rfl ?_)))
  have hje : (nd g t).ln.length = j := by rw [nd_eq ht, hjx]
  refine ⟨?_, by rw [wN_new hs, hje]; exact hbs, hS⟩
  rw [wN_new hs, hje, hn0]
  first
    | exact ret_str (p := S ++ (⟨#[41]⟩ : ByteArray)) (by rw [bl_app, hSb]; rfl)
    | exact ret_str (p := S) (by rw [hSb]; simp only [bl_mk, List.append_nil])
 have hs : sn t = false := by
   cases hq : sn t with
   | false => rfl
   | true => exact absurd (hwi.tg hq) om
 have hSl : (bl (⟨#[]⟩ : ByteArray)).length ≤ 4 := Nat.zero_le _
 have hSq : bl (⟨#[]⟩ : ByteArray) = preB (tgs g t) := by unfold preB; rw [if_neg om]; rfl
 refine c_skip (e_S (c_seq (c_region (wmS rfl (wmI rfl ?_)))))
 refine wl (r_ia (i := t) U82 sz4_GLoose rfl rfl ht rfl) ?_
 refine wl_st1 (v := .bool _) hbs rfl rfl sz4_GLoose (by rw [row_size]; omega) rfl row_set (fun w11 hq hs => ?_)
 replace hB := hB.tr1 hs ls
 replace hbtg := hbtg.tr1 hs om
 replace hS := Same.freshL hS hs (fun g hg => by rw [List.mem_singleton.1 hg]; first | exact .inl (List.mem_singleton.2 rfl) | exact .inr or_hS_bs)
 replace hb5 := hb5.tr1 hs om
 replace hb6 := hb6.tr1 hs om
 clear hs
 replace hbs := hq
 rw [row_setB] at hbs
 have hLI := (wN_both hW mf).2 sn pr t hl ht hwi hs
 have hst1 := hst hs
 refine x_nil (e_S (c_seq ?_))
 refine c_still kR kR (fun w12 hs => ?_)
 replace hB := hB.tr0 hs
 replace hbtg := hbtg.tr0 hs
 replace hbs := hbs.tr0 hs
 replace hS := SameQ.trans hS hs (by simp)
 replace hb5 := hb5.tr0 hs
 replace hb6 := hb6.tr0 hs
 clear hs
 refine ws (r_mv (v := .string _) rfl) (ws (r_fa U25 sz22_GLoose dE rfl rfl rfl) (ws (r_ld1 (v := .slice _ _ _) U22 rfl rfl (hb5.cell rfl)) (ws (r_fa U28 sz26 dE rfl rfl rfl) (ws (r_ld1 (v := .slice _ _ _) U26 rfl rfl (hb6.cell rfl)) (ws (r_mv (v := .int _ _) rfl) ?_)))))
 refine ws (r_ia (i := t) U26 sz33 rfl rfl ht rfl) (ws (r_fa U33 sz3_GLoose dE rfl rfl rfl) (ws (r_ld1 (v := .int _ _) U3 rfl rfl (hB.cell hnb (hnr 0 _ rfl))) (ws (r_ia (i := tn) U22 sz77_AWr rfl rfl htnl rfl) (ws (r_fa U77 sz9_AWr dE rfl rfl rfl) (ws (r_ld1 (v := .string _) U9 rfl rfl (hB.cell htb (htr 0 _ rfl))) ?_)))))
 refine ws (r_addS rfl rfl (add_ok (a := 4) (b := 30) hSl hnml dE)) (ws (r_as (v := .string _) rfl) (s_nil (e_S (c_seq (c_seq ?_)))))
 refine c_region (wl (r_fa U28 sz26 dE rfl rfl rfl) (wl (r_ld1 (v := .slice _ _ _) U26 rfl rfl (hb6.cell rfl)) (wmI rfl (wl (r_ia (i := t) U26 sz33 rfl rfl ht rfl) (wl (r_fa U33 sz31 dE rfl rfl rfl) ?_)))))
 refine wl (r_ld1 (v := .slice _ _ _) U31 rfl rfl (hB.cell hnb (hnr 1 _ rfl))) (wl (r_len U31 rfl) (wmI rfl (x_nil (e_S (c_block ?_)))))
 refine c_loopS [11, 12, 13, 55, 56, 57, 58, 59, 60, 61, 62, 63, 64, 65, 66, 67, 68, 69, 70, 71, 72, 73, 74, 75, 76, 77, 78, 79, 80, 81, 82, 83, 84] (fun mm g1 w' => ∃ (j : Nat) (S : ByteArray), j ≤ (g[t]'ht).ln.length ∧ mm = (g[t]'ht).ln.length - j ∧ g1 55 = .int .i64 j ∧ g1 11 = .string S ∧ bl S = preB (tgs g t) ++ nmB l g t ++ (wL fs g (wN l fs g mf) t j (setB sn t)).1 ∧ Bel w0 w' ∧ Blk w' bt 3 (row g.length (fun x => .int .i64 ((tgs g x : Nat) : Int))) ∧ Blk w' b5 25 #[.slice (some ⟨tb, to, none⟩) l.length c, .slice B fs.length d] ∧ Blk w' b6 28 #[.slice (some ⟨nb, no, none⟩) g.length cg] ∧ Blk w' bs 4 (row g.length (fun x => .bool ((wL fs g (wN l fs g mf) t j (setB sn t)).2 x))) ∧ SameQ [bs] w w') ((g[t]'ht).ln.length) ?_ (fun m g10 w13 hI => ?_)
 ·
  exact ⟨0, _, Nat.zero_le _, rfl, rfl, rfl, by rw [bl_app, hSq, ← hnmB, show (wL fs g (wN l fs g mf) t 0 (setB sn t)).1 = [] from rfl, List.append_nil], hB, hbtg, hb5, hb6, hbs, hS⟩
 obtain ⟨j, S, hj, hmj, h55, h11, hSb, hB, hbtg, hb5, hb6, hbs, hS⟩ := hI
 have hle0 := (hLI j (by rw [nd_eq ht]; exact hj)).le
 have hSlen : (bl S).length ≤ 500000 := by rw [hSb]; simp only [List.length_append]; rw [hnmB]; omega
 refine c_know 55 (.int .i64 j) h55 nu (c_know 11 (.string S) h11 nu (c_seq (c_region (wl (r_lss rfl rfl) (x_nil ?_)))))
 refine e_S (c_seq ?_)
 refine c_ifd rfl (fun c56 => ?_) (fun c56 => ?_)
 ·
  have hjl : j < (g[t]'ht).ln.length := by omega
  have hjn : j < (nd g t).ln.length := by rw [nd_eq ht]; exact hjl
  obtain ⟨lb, lof, rfl, hlb, hlr⟩ := hln.at_ (Below.refl _ _ : Bel w0 w0) hjl
  have hlx : lnAt g t j = ((g[t]'ht).ln[j]'hjl) := by unfold lnAt; rw [nd_eq ht]; simp [List.getD, hjl]
  have hgl := hva.gok.ln t ht _ (List.getElem_mem hjl)
  obtain ⟨fi, hfi, hfl⟩ : ∃ z : Nat, ((g[t]'ht).ln[j]'hjl).1 = (z : Int) ∧ z < fs.length := ⟨(((g[t]'ht).ln[j]'hjl).1).toNat, by omega, by omega⟩
  obtain ⟨u, hu, hul⟩ : ∃ z : Nat, ((g[t]'ht).ln[j]'hjl).2 = (z : Int) ∧ z < g.length := ⟨(((g[t]'ht).ln[j]'hjl).2).toNat, by omega, by omega⟩
  obtain ⟨fb, fo, rfl, hfb, hfr2⟩ := hF.at_ (Below.refl _ _ : Bel w0 w0) hfl
  have hftB : ftB fs (lnAt g t j).1 = bl (fs[fi]'hfl).name := by
    unfold ftB bl ftAt
    rw [hlx, hfi]
    simp [List.getD, hfl]
  have hfn := hW.ft t j
  rw [hftB] at hfn
  have hun : (lnAt g t j).2.toNat = u := by rw [hlx, hu]; rfl
  obtain ⟨pr1, hw1, _, _, hl1⟩ := (hLI j om).child ht hs hjn
  rw [hun] at hw1
  have hl2 := hl1 hl
  have hq1 : (wL fs g (wN l fs g mf) t (j + 1) (setB sn t)).1 = (wL fs g (wN l fs g mf) t j (setB sn t)).1 ++ (sepB j ++ ftB fs (lnAt g t j).1 ++ [61] ++ (wN l fs g mf (wL fs g (wN l fs g mf) t j (setB sn t)).2 u).1) := by rw [← hun]; rfl
  have hq2 : (wL fs g (wN l fs g mf) t (j + 1) (setB sn t)).2 = (wN l fs g mf (wL fs g (wN l fs g mf) t j (setB sn t)).2 u).2 := by rw [← hun]; rfl
  have hqb := ((wN_both hW mf).1 _ pr1 u hl2 hul hw1).le
  have hlk2 := lack_le g.length (wL fs g (wN l fs g mf) t j (setB sn t)).2
  obtain ⟨Q, hQ⟩ : ∃ z, z = wN l fs g mf (wL fs g (wN l fs g mf) t j (setB sn t)).2 u := ⟨_, rfl⟩
  rw [← hQ] at hq1 hq2 hqb
  have hQl : (bl (⟨Q.1.toArray⟩ : ByteArray)).length ≤ 200000 := by rw [bl_mk]; omega
  have hnf : (bl ((fs[fi]'hfl).name ++ (⟨#[61]⟩ : ByteArray))).length ≤ 31 := by rw [bl_app, List.length_append]; exact Nat.add_le_add hfn (Nat.le_refl 1)
  refine c_skip (e_S (c_seq (c_block (c_seq (c_region ?_)))))
  refine wmI rfl (wl (r_ia (i := j) U31 sz30 rfl rfl om rfl) (wl (r_ldS U30 rfl rfl (hB.range hlb hlr) sz30) ?_))
  refine wl_al (cs := #[.int .i64 0, .int .i64 0]) ze30 rfl (fun b13 w14 hb13 hs hr => ?_)
  have or_bt_b13 : bt < b13 := nLL hbtg.lt hr
  have or_bs_b13 : bs < b13 := nLL hbs.lt hr
  have or_b5_b13 : b5 < b13 := nLL hb5.lt hr
  have or_b6_b13 : b6 < b13 := nLL hb6.lt hr
  have or_hS_b13 := (nLT (Same.size hS) hr)
  have lo13 := nLT (Bel.size hB) hr
  replace hB := hB.tr0 hs
  replace hbtg := hbtg.tr0 hs
  replace hbs := hbs.tr0 hs
  replace hb5 := hb5.tr0 hs
  replace hb6 := hb6.tr0 hs
  replace hS := SameQ.trans hS hs (by simp)
  clear hs
  clear hr
  refine waI rfl ?_
  refine wl_stW hb13 rfl rfl sz30 rfl oneA (fun w15 hq hs => ?_)
  replace hB := hB.tr1 hs lo13
  replace hbtg := hbtg.tr1 hs om
  replace hbs := hbs.tr1 hs om
  replace hb5 := hb5.tr1 hs om
  replace hb6 := hb6.tr1 hs om
  replace hS := Same.freshL hS hs (fun g hg => by rw [List.mem_singleton.1 hg]; first | exact .inl (List.mem_singleton.2 rfl) | exact .inr or_hS_b13)
  clear hs
  replace hb13 := hq
  refine x_nil (e_S (c_seq (c_seq (c_region (wmI rfl ?_)))))
  refine wl (r_eql rfl rfl) (x_nil (e_S ?_))
  refine c_ifd rfl (fun c61 => ?_) (fun c61 => ?_)
  ·
   obtain ⟨S1, hS1⟩ : ∃ z : ByteArray, z = S ++ (⟨#[40]⟩ : ByteArray) := ⟨_, rfl⟩
   have hS1b : bl S1 = bl S ++ sepB j := by rw [hS1, bl_app]; have e : j = 0 := by omega
                                            rw [e]; rfl
   refine c_region (wl (r_mv (v := .string _) rfl) (wl (r_addS rfl rfl (add_ok (a := 500000) (b := 1) hSlen (Nat.le_refl _) dE)) (wl (r_as (v := .string _) rfl) (x_nil (e_S ?_)))))
   rw [hfi, hu] at hb13
   have hos : Own w15 bs 4 1 (some ⟨bs, 0, none⟩) g.length g.length (row g.length (fun x => .bool ((wL fs g (wN l fs g mf) t j (setB sn t)).2 x))).toList := own_blk hbs (Nat.le_refl _) (by rw [row_size, Nat.mul_one]) om
   have or_hos_b5 := own_neR hos hb5 dE
   have or_hos_b6 := own_neR hos hb6 dE
   have or_hos_b13 := own_neR hos hb13 dE
   have or_hos_bt := own_neR hos hbtg dE
   have hS1l : (bl S1).length ≤ 500002 := by
     have h4 : (sepB j).length ≤ 2 := by unfold sepB; split <;> simp
     rw [hS1b, List.length_append]; omega
   have hQS : (bl ((fs[fi]'hfl).name ++ (⟨#[61]⟩ : ByteArray) ++ (⟨Q.1.toArray⟩ : ByteArray))).length ≤ 200031 := by rw [bl_app, List.length_append]; omega
   have hbs0 := hbs
   refine c_monoSO 18 [66, 67, 68, 69, 70, 71, 72, 73, 74, 75, 76, 77, 78, 79, 80, 81, 82, 83] (aL (some (⟨bs, 0, none⟩ : Addr))) 15 (fun ix v wv => match ix with | 0 => v = .string S1 | 1 => v = .pointer (some ⟨b5, 0 + 1, none⟩) | 2 => v = .slice (some ⟨fb, fo, none⟩) fs.length d | 3 => v = .pointer (some ⟨b13, 0, none⟩) | 4 => v = .int .i64 ((fi : Nat) : Int) | 5 => v = .pointer (some ⟨fb, fo + fi * 3, none⟩) | 6 => v = .pointer (some ⟨fb, fo + fi * 3 + 0, none⟩) | 7 => v = .string (fs[fi]'hfl).name | 8 => v = .string ((fs[fi]'hfl).name ++ (⟨#[61]⟩ : ByteArray)) | 9 => v = .agg #[.slice (some ⟨tb, to, none⟩) l.length c, .slice (some ⟨fb, fo, none⟩) fs.length d] | 10 => v = .agg #[.slice (some ⟨nb, no, none⟩) g.length cg] | 11 => v = .slice (some ⟨bt, 0, none⟩) g.length g.length | 12 => v = .slice (some ⟨bs, 0, none⟩) g.length g.length | 13 => v = .pointer (some ⟨b13, 0 + 1, none⟩) | 14 => v = .int .i64 ((u : Nat) : Int) | 15 => v = .string ⟨Q.1.toArray⟩ ∧ Blk wv bs 4 (row g.length (fun x => .bool (Q.2 x))) | 16 => v = .string ((fs[fi]'hfl).name ++ (⟨#[61]⟩ : ByteArray) ++ (⟨Q.1.toArray⟩ : ByteArray)) | 17 => v = .string (S1 ++ ((fs[fi]'hfl).name ++ (⟨#[61]⟩ : ByteArray) ++ (⟨Q.1.toArray⟩ : ByteArray))) | _ => True) (fun _ => True) kR kR ?_ (fun _ _ _ _ => trivial) ?_ ?_ dE ?_
   ·
    intro ix v wv wv2 h hs
    match ix, h with
    | 0, h => exact h
    | 1, h => exact h
    | 2, h => exact h
    | 3, h => exact h
    | 4, h => exact h
    | 5, h => exact h
    | 6, h => exact h
    | 7, h => exact h
    | 8, h => exact h
    | 9, h => exact h
    | 10, h => exact h
    | 11, h => exact h
    | 12, h => exact h
    | 13, h => exact h
    | 14, h => exact h
    | 15, h =>
     obtain ⟨e81, hbs⟩ := (show v = .string ⟨Q.1.toArray⟩ ∧ Blk wv bs 4 (row g.length (fun x => .bool (Q.2 x))) from h)
     exact ⟨e81, hbs.tr0 hs⟩
    | 16, h => exact h
    | 17, h => exact h
    | _ + 18, h => exact trivial
   ·
    intro ix o hix hne hoq gg wx hs hd
    match ix, hix, hne, hoq with
    | 0, _, _, hoq =>
     obtain rfl := sI hoq
     have hs0 := hs
     refine os_rv (r_mv (v := .string _) rfl) ⟨Same.refl _ _, ?_⟩
     exact (by first | rfl | exact congrArg Value.string hS1.symm)
    | 1, _, _, hoq =>
     obtain rfl := sI hoq
     have hs0 := hs
     replace hb5 := hb5.tr hs (fun hx => by have := (hos.lt _ hx).1; (try have := or_hos_b5 _ hx); omega)
     refine os_rv (r_fa U25 sz23_GLoose dE rfl rfl rfl) ⟨Same.refl _ _, ?_⟩
     exact rfl
    | 2, _, _, hoq =>
     obtain rfl := sI hoq
     have hs0 := hs
     replace hb5 := hb5.tr hs (fun hx => by have := (hos.lt _ hx).1; (try have := or_hos_b5 _ hx); omega)
     have d1 : gg 67 = .pointer (some ⟨b5, 0 + 1, none⟩) := hd 1 (dep_of kR)
     have e67 := d1
     refine os_know 67 (.pointer (some ⟨b5, 0 + 1, none⟩)) e67 nu ?_
     refine os_rv (r_ld1 (v := .slice _ _ _) U23 rfl rfl (hb5.cell rfl)) ⟨Same.refl _ _, ?_⟩
     exact rfl
    | 3, _, _, hoq =>
     obtain rfl := sI hoq
     have hs0 := hs
     replace hb13 := hb13.tr hs (fun hx => by have := (hos.lt _ hx).1; (try have := or_hos_b13 _ hx); omega)
     refine os_rv (r_fa U30 sz3_GLoose dE rfl rfl rfl) ⟨Same.refl _ _, ?_⟩
     exact rfl
    | 4, _, _, hoq =>
     obtain rfl := sI hoq
     have hs0 := hs
     replace hb13 := hb13.tr hs (fun hx => by have := (hos.lt _ hx).1; (try have := or_hos_b13 _ hx); omega)
     have d3 : gg 69 = .pointer (some ⟨b13, 0, none⟩) := hd 3 (dep_of kR)
     have e69 := d3
     refine os_know 69 (.pointer (some ⟨b13, 0, none⟩)) e69 nu ?_
     refine os_rv (r_ld1 (v := .int _ _) U3 rfl rfl (hb13.cell rfl)) ⟨Same.refl _ _, ?_⟩
     exact rfl
    | 5, _, _, hoq =>
     obtain rfl := sI hoq
     have hs0 := hs
     have d2 : gg 68 = .slice (some ⟨fb, fo, none⟩) fs.length d := hd 2 (dep_of kR)
     have e68 := d2
     have d4 : gg 70 = .int .i64 ((fi : Nat) : Int) := hd 4 (dep_of kR)
     have e70 := d4
     refine os_know 68 (.slice (some ⟨fb, fo, none⟩) fs.length d) e68 nu (os_know 70 (.int .i64 ((fi : Nat) : Int)) e70 nu ?_)
     refine os_rv (r_ia (i := fi) U23 sz63_GVal rfl rfl hfl rfl) ⟨Same.refl _ _, ?_⟩
     exact rfl
    | 6, _, _, hoq =>
     obtain rfl := sI hoq
     have hs0 := hs
     have d5 : gg 71 = .pointer (some ⟨fb, fo + fi * 3, none⟩) := hd 5 (dep_of kR)
     have e71 := d5
     refine os_know 71 (.pointer (some ⟨fb, fo + fi * 3, none⟩)) e71 nu ?_
     refine os_rv (r_fa U63 sz9_AWr dE rfl rfl rfl) ⟨Same.refl _ _, ?_⟩
     exact rfl
    | 7, _, _, hoq =>
     obtain rfl := sI hoq
     have hs0 := hs
     replace hB := hB.tr hs (fun g hg => nLT ls (hos.lt g hg).1)
     have d6 : gg 72 = .pointer (some ⟨fb, fo + fi * 3 + 0, none⟩) := hd 6 (dep_of kR)
     have e72 := d6
     refine os_know 72 (.pointer (some ⟨fb, fo + fi * 3 + 0, none⟩)) e72 nu ?_
     refine os_rv (r_ld1 (v := .string _) U9 rfl rfl (hB.cell hfb (hfr2 0 _ rfl))) ⟨Same.refl _ _, ?_⟩
     exact rfl
    | 8, _, _, hoq =>
     obtain rfl := sI hoq
     have hs0 := hs
     have d7 : gg 73 = .string (fs[fi]'hfl).name := hd 7 (dep_of kR)
     have e73 := d7
     refine os_know 73 (.string (fs[fi]'hfl).name) e73 nu ?_
     refine os_rv (r_addS rfl rfl (add_ok (a := 30) (b := 1) hfn (Nat.le_refl _) dE)) ⟨Same.refl _ _, ?_⟩
     exact rfl
    | 9, _, _, hoq =>
     obtain rfl := sI hoq
     have hs0 := hs
     replace hb5 := hb5.tr hs (fun hx => by have := (hos.lt _ hx).1; (try have := or_hos_b5 _ hx); omega)
     refine os_rv (r_ldS U25 rfl rfl hb5.range0 sz25) ⟨Same.refl _ _, ?_⟩
     exact rfl
    | 10, _, _, hoq =>
     obtain rfl := sI hoq
     have hs0 := hs
     replace hb6 := hb6.tr hs (fun hx => by have := (hos.lt _ hx).1; (try have := or_hos_b6 _ hx); omega)
     refine os_rv (r_ldS U28 rfl rfl hb6.range0 sz28) ⟨Same.refl _ _, ?_⟩
     exact rfl
    | 11, _, _, hoq =>
     obtain rfl := sI hoq
     have hs0 := hs
     refine os_rv (r_mv (v := .slice _ _ _) rfl) ⟨Same.refl _ _, ?_⟩
     exact rfl
    | 12, _, _, hoq =>
     obtain rfl := sI hoq
     have hs0 := hs
     refine os_rv (r_mv (v := .slice _ _ _) rfl) ⟨Same.refl _ _, ?_⟩
     exact rfl
    | 13, _, _, hoq =>
     obtain rfl := sI hoq
     have hs0 := hs
     replace hb13 := hb13.tr hs (fun hx => by have := (hos.lt _ hx).1; (try have := or_hos_b13 _ hx); omega)
     refine os_rv (r_fa U30 sz3_GLoose dE rfl rfl rfl) ⟨Same.refl _ _, ?_⟩
     exact rfl
    | 14, _, _, hoq =>
     obtain rfl := sI hoq
     have hs0 := hs
     replace hb13 := hb13.tr hs (fun hx => by have := (hos.lt _ hx).1; (try have := or_hos_b13 _ hx); omega)
     have d13 : gg 79 = .pointer (some ⟨b13, 0 + 1, none⟩) := hd 13 (dep_of kR)
     have e79 := d13
     refine os_know 79 (.pointer (some ⟨b13, 0 + 1, none⟩)) e79 nu ?_
     refine os_rv (r_ld1 (v := .int _ _) U3 rfl rfl (hb13.cell rfl)) ⟨Same.refl _ _, ?_⟩
     exact rfl
    | 15, _, hne, _ => exact absurd rfl hne
    | 16, _, _, hoq =>
     obtain rfl := sI hoq
     have hs0 := hs
     have d8 : gg 74 = .string ((fs[fi]'hfl).name ++ (⟨#[61]⟩ : ByteArray)) := hd 8 (dep_of kR)
     have e74 := d8
     have d15 : gg 81 = .string ⟨Q.1.toArray⟩ ∧ Blk wx bs 4 (row g.length (fun x => .bool (Q.2 x))) := hd 15 (dep_of kR)
     obtain ⟨e81, hbs⟩ := d15
     refine os_know 74 (.string ((fs[fi]'hfl).name ++ (⟨#[61]⟩ : ByteArray))) e74 nu (os_know 81 (.string (⟨Q.1.toArray⟩ : ByteArray)) e81 nu ?_)
     refine os_rv (r_addS rfl rfl (add_ok (a := 31) (b := 200000) hnf hQl dE)) ⟨Same.refl _ _, ?_⟩
     exact rfl
    | 17, _, _, hoq =>
     obtain rfl := sI hoq
     have hs0 := hs
     have d0 : gg 66 = .string S1 := hd 0 (dep_of kR)
     have e66 := d0
     have d16 : gg 82 = .string ((fs[fi]'hfl).name ++ (⟨#[61]⟩ : ByteArray) ++ (⟨Q.1.toArray⟩ : ByteArray)) := hd 16 (dep_of kR)
     have e82 := d16
     refine os_know 66 (.string S1) e66 nu (os_know 82 (.string ((fs[fi]'hfl).name ++ (⟨#[61]⟩ : ByteArray) ++ (⟨Q.1.toArray⟩ : ByteArray))) e82 nu ?_)
     refine os_rv (r_addS rfl rfl (add_ok (a := 500002) (b := 200031) hS1l hQS dE)) ⟨Same.refl _ _, ?_⟩
     exact rfl
    | _ + 18, hix, _, _ => exact absurd hix om
   ·
    intro o hoq gg wx hs hd
    obtain rfl := sI hoq
    have hs0 := hs
    replace hB := hB.tr0 hs
    replace hbtg := hbtg.tr0 hs
    replace hb5 := hb5.tr0 hs
    replace hb6 := hb6.tr0 hs
    replace hS := SameQ.trans hS hs (by simp)
    replace hb13 := hb13.tr0 hs
    replace hos := hos.tr0 hs
    replace hbs0 := hbs0.tr0 hs
    clear hs
    have d9 : gg 75 = .agg #[.slice (some ⟨tb, to, none⟩) l.length c, .slice (some ⟨fb, fo, none⟩) fs.length d] := hd 9 (dep_of kR)
    have e75 := d9
    have d10 : gg 76 = .agg #[.slice (some ⟨nb, no, none⟩) g.length cg] := hd 10 (dep_of kR)
    have e76 := d10
    have d11 : gg 77 = .slice (some ⟨bt, 0, none⟩) g.length g.length := hd 11 (dep_of kR)
    have e77 := d11
    have d12 : gg 78 = .slice (some ⟨bs, 0, none⟩) g.length g.length := hd 12 (dep_of kR)
    have e78 := d12
    have d14 : gg 80 = .int .i64 ((u : Nat) : Int) := hd 14 (dep_of kR)
    have e80 := d14
    refine os_know 75 (.agg #[.slice (some ⟨tb, to, none⟩) l.length c, .slice (some ⟨fb, fo, none⟩) fs.length d]) e75 nu (os_know 76 (.agg #[.slice (some ⟨nb, no, none⟩) g.length cg]) e76 nu (os_know 77 (.slice (some ⟨bt, 0, none⟩) g.length g.length) e77 nu (os_know 78 (.slice (some ⟨bs, 0, none⟩) g.length g.length) e78 nu (os_know 80 (.int .i64 ((u : Nat) : Int)) e80 nu ?_))))
    refine os_cl fn66 (IH (wL fs g (wN l fs g mf) t j (setB sn t)).2 pr1 u wx hl2 hul hw1 hB hbs0) rfl (fun e' w2 hr => ?_)
    obtain ⟨rfl, hbs2, hs2⟩ := hr
    refine ⟨_, rfl, hs2, ⟨by rw [hQ], by rw [hQ]; exact hbs2⟩, trivial, fun kx v hne h => ?_⟩
    match kx, hne, h with
    | 0, _, h => exact h
    | 1, _, h => exact h
    | 2, _, h => exact h
    | 3, _, h => exact h
    | 4, _, h => exact h
    | 5, _, h => exact h
    | 6, _, h => exact h
    | 7, _, h => exact h
    | 8, _, h => exact h
    | 9, _, h => exact h
    | 10, _, h => exact h
    | 11, _, h => exact h
    | 12, _, h => exact h
    | 13, _, h => exact h
    | 14, _, h => exact h
    | 15, hne, _ => exact absurd rfl hne
    | 16, _, h => exact h
    | 17, _, h => exact h
    | _ + 18, _, _ => exact trivial
   intro gg w16 hs _ hR
   have hs0 := hs
   replace hB := hB.tr hs (fun g hg => nLT ls (hos.lt g hg).1)
   replace hbtg := hbtg.tr hs (fun hx => by have := (hos.lt _ hx).1; (try have := or_hos_bt _ hx); omega)
   replace hb5 := hb5.tr hs (fun hx => by have := (hos.lt _ hx).1; (try have := or_hos_b5 _ hx); omega)
   replace hb6 := hb6.tr hs (fun hx => by have := (hos.lt _ hx).1; (try have := or_hos_b6 _ hx); omega)
   replace hS := Same.freshL hS hs (fun g hg => .inl hg)
   replace hb13 := hb13.tr hs (fun hx => by have := (hos.lt _ hx).1; (try have := or_hos_b13 _ hx); omega)
   replace hbs0 := trivial
   have d15 : gg 81 = .string ⟨Q.1.toArray⟩ ∧ Blk w16 bs 4 (row g.length (fun x => .bool (Q.2 x))) := hR 15 dE
   obtain ⟨e81, hbs⟩ := d15
   have d17 : gg 83 = .string (S1 ++ ((fs[fi]'hfl).name ++ (⟨#[61]⟩ : ByteArray) ++ (⟨Q.1.toArray⟩ : ByteArray))) := hR 17 dE
   have e83 := d17
   rw [← hq2] at hbs
   have hS9 : bl (S1 ++ ((fs[fi]'hfl).name ++ (⟨#[61]⟩ : ByteArray) ++ (⟨Q.1.toArray⟩ : ByteArray))) = preB (tgs g t) ++ nmB l g t ++ (wL fs g (wN l fs g mf) t (j + 1) (setB sn t)).1 := by
     rw [bl_app, bl_app, bl_app, hS1b, hSb, hq1, hftB, bl_mk]
     simp only [List.append_assoc]
     rfl
   refine wl_know 81 (.string (⟨Q.1.toArray⟩ : ByteArray)) e81 nu (wl_know 83 (.string (S1 ++ ((fs[fi]'hfl).name ++ (⟨#[61]⟩ : ByteArray) ++ (⟨Q.1.toArray⟩ : ByteArray)))) e83 nu (wl (r_as (v := .string _) rfl) (x_nil (e_B (e_S ?_)))))
   refine c_region (wl (r_add rfl rfl rfl om) (wmI rfl (x_nil (e_LS ((g[t]'ht).ln.length - (j + 1)) om agA ?_))))
   exact ⟨j + 1, _, by omega, rfl, rfl, rfl, hS9, hB, hbtg, hb5, hb6, hbs, hS⟩
  obtain ⟨S1, hS1⟩ : ∃ z : ByteArray, z = S ++ (⟨#[44, 32]⟩ : ByteArray) := ⟨_, rfl⟩
  have hS1b : bl S1 = bl S ++ sepB j := by rw [hS1, bl_app]; unfold sepB; rw [if_neg om]; rfl
  refine c_region (wl (r_mv (v := .string _) rfl) (wl (r_addS rfl rfl (add_ok (a := 500000) (b := 2) hSlen (Nat.le_refl _) dE)) (wl (r_as (v := .string _) rfl) (x_nil (e_S ?_)))))
  rw [hfi, hu] at hb13
  have hos : Own w15 bs 4 1 (some ⟨bs, 0, none⟩) g.length g.length (row g.length (fun x => .bool ((wL fs g (wN l fs g mf) t j (setB sn t)).2 x))).toList := own_blk hbs (Nat.le_refl _) (by rw [row_size, Nat.mul_one]) om
  have or_hos_b5 := own_neR hos hb5 dE
  have or_hos_b6 := own_neR hos hb6 dE
  have or_hos_b13 := own_neR hos hb13 dE
  have or_hos_bt := own_neR hos hbtg dE
  have hS1l : (bl S1).length ≤ 500002 := by
    have h4 : (sepB j).length ≤ 2 := by unfold sepB; split <;> simp
    rw [hS1b, List.length_append]; omega
  have hQS : (bl ((fs[fi]'hfl).name ++ (⟨#[61]⟩ : ByteArray) ++ (⟨Q.1.toArray⟩ : ByteArray))).length ≤ 200031 := by rw [bl_app, List.length_append]; omega
  have hbs0 := hbs
  refine c_monoSO 18 [66, 67, 68, 69, 70, 71, 72, 73, 74, 75, 76, 77, 78, 79, 80, 81, 82, 83] (aL (some (⟨bs, 0, none⟩ : Addr))) 15 (fun ix v wv => match ix with | 0 => v = .string S1 | 1 => v = .pointer (some ⟨b5, 0 + 1, none⟩) | 2 => v = .slice (some ⟨fb, fo, none⟩) fs.length d | 3 => v = .pointer (some ⟨b13, 0, none⟩) | 4 => v = .int .i64 ((fi : Nat) : Int) | 5 => v = .pointer (some ⟨fb, fo + fi * 3, none⟩) | 6 => v = .pointer (some ⟨fb, fo + fi * 3 + 0, none⟩) | 7 => v = .string (fs[fi]'hfl).name | 8 => v = .string ((fs[fi]'hfl).name ++ (⟨#[61]⟩ : ByteArray)) | 9 => v = .agg #[.slice (some ⟨tb, to, none⟩) l.length c, .slice (some ⟨fb, fo, none⟩) fs.length d] | 10 => v = .agg #[.slice (some ⟨nb, no, none⟩) g.length cg] | 11 => v = .slice (some ⟨bt, 0, none⟩) g.length g.length | 12 => v = .slice (some ⟨bs, 0, none⟩) g.length g.length | 13 => v = .pointer (some ⟨b13, 0 + 1, none⟩) | 14 => v = .int .i64 ((u : Nat) : Int) | 15 => v = .string ⟨Q.1.toArray⟩ ∧ Blk wv bs 4 (row g.length (fun x => .bool (Q.2 x))) | 16 => v = .string ((fs[fi]'hfl).name ++ (⟨#[61]⟩ : ByteArray) ++ (⟨Q.1.toArray⟩ : ByteArray)) | 17 => v = .string (S1 ++ ((fs[fi]'hfl).name ++ (⟨#[61]⟩ : ByteArray) ++ (⟨Q.1.toArray⟩ : ByteArray))) | _ => True) (fun _ => True) kR kR ?_ (fun _ _ _ _ => trivial) ?_ ?_ dE ?_
  ·
   intro ix v wv wv2 h hs
   match ix, h with
   | 0, h => exact h
   | 1, h => exact h
   | 2, h => exact h
   | 3, h => exact h
   | 4, h => exact h
   | 5, h => exact h
   | 6, h => exact h
   | 7, h => exact h
   | 8, h => exact h
   | 9, h => exact h
   | 10, h => exact h
   | 11, h => exact h
   | 12, h => exact h
   | 13, h => exact h
   | 14, h => exact h
   | 15, h =>
    obtain ⟨e81, hbs⟩ := (show v = .string ⟨Q.1.toArray⟩ ∧ Blk wv bs 4 (row g.length (fun x => .bool (Q.2 x))) from h)
    exact ⟨e81, hbs.tr0 hs⟩
   | 16, h => exact h
   | 17, h => exact h
   | _ + 18, h => exact trivial
  ·
   intro ix o hix hne hoq gg wx hs hd
   match ix, hix, hne, hoq with
   | 0, _, _, hoq =>
    obtain rfl := sI hoq
    have hs0 := hs
    refine os_rv (r_mv (v := .string _) rfl) ⟨Same.refl _ _, ?_⟩
    exact (by first | rfl | exact congrArg Value.string hS1.symm)
   | 1, _, _, hoq =>
    obtain rfl := sI hoq
    have hs0 := hs
    replace hb5 := hb5.tr hs (fun hx => by have := (hos.lt _ hx).1; (try have := or_hos_b5 _ hx); omega)
    refine os_rv (r_fa U25 sz23_GLoose dE rfl rfl rfl) ⟨Same.refl _ _, ?_⟩
    exact rfl
   | 2, _, _, hoq =>
    obtain rfl := sI hoq
    have hs0 := hs
    replace hb5 := hb5.tr hs (fun hx => by have := (hos.lt _ hx).1; (try have := or_hos_b5 _ hx); omega)
    have d1 : gg 67 = .pointer (some ⟨b5, 0 + 1, none⟩) := hd 1 (dep_of kR)
    have e67 := d1
    refine os_know 67 (.pointer (some ⟨b5, 0 + 1, none⟩)) e67 nu ?_
    refine os_rv (r_ld1 (v := .slice _ _ _) U23 rfl rfl (hb5.cell rfl)) ⟨Same.refl _ _, ?_⟩
    exact rfl
   | 3, _, _, hoq =>
    obtain rfl := sI hoq
    have hs0 := hs
    replace hb13 := hb13.tr hs (fun hx => by have := (hos.lt _ hx).1; (try have := or_hos_b13 _ hx); omega)
    refine os_rv (r_fa U30 sz3_GLoose dE rfl rfl rfl) ⟨Same.refl _ _, ?_⟩
    exact rfl
   | 4, _, _, hoq =>
    obtain rfl := sI hoq
    have hs0 := hs
    replace hb13 := hb13.tr hs (fun hx => by have := (hos.lt _ hx).1; (try have := or_hos_b13 _ hx); omega)
    have d3 : gg 69 = .pointer (some ⟨b13, 0, none⟩) := hd 3 (dep_of kR)
    have e69 := d3
    refine os_know 69 (.pointer (some ⟨b13, 0, none⟩)) e69 nu ?_
    refine os_rv (r_ld1 (v := .int _ _) U3 rfl rfl (hb13.cell rfl)) ⟨Same.refl _ _, ?_⟩
    exact rfl
   | 5, _, _, hoq =>
    obtain rfl := sI hoq
    have hs0 := hs
    have d2 : gg 68 = .slice (some ⟨fb, fo, none⟩) fs.length d := hd 2 (dep_of kR)
    have e68 := d2
    have d4 : gg 70 = .int .i64 ((fi : Nat) : Int) := hd 4 (dep_of kR)
    have e70 := d4
    refine os_know 68 (.slice (some ⟨fb, fo, none⟩) fs.length d) e68 nu (os_know 70 (.int .i64 ((fi : Nat) : Int)) e70 nu ?_)
    refine os_rv (r_ia (i := fi) U23 sz63_GVal rfl rfl hfl rfl) ⟨Same.refl _ _, ?_⟩
    exact rfl
   | 6, _, _, hoq =>
    obtain rfl := sI hoq
    have hs0 := hs
    have d5 : gg 71 = .pointer (some ⟨fb, fo + fi * 3, none⟩) := hd 5 (dep_of kR)
    have e71 := d5
    refine os_know 71 (.pointer (some ⟨fb, fo + fi * 3, none⟩)) e71 nu ?_
    refine os_rv (r_fa U63 sz9_AWr dE rfl rfl rfl) ⟨Same.refl _ _, ?_⟩
    exact rfl
   | 7, _, _, hoq =>
    obtain rfl := sI hoq
    have hs0 := hs
    replace hB := hB.tr hs (fun g hg => nLT ls (hos.lt g hg).1)
    have d6 : gg 72 = .pointer (some ⟨fb, fo + fi * 3 + 0, none⟩) := hd 6 (dep_of kR)
    have e72 := d6
    refine os_know 72 (.pointer (some ⟨fb, fo + fi * 3 + 0, none⟩)) e72 nu ?_
    refine os_rv (r_ld1 (v := .string _) U9 rfl rfl (hB.cell hfb (hfr2 0 _ rfl))) ⟨Same.refl _ _, ?_⟩
    exact rfl
   | 8, _, _, hoq =>
    obtain rfl := sI hoq
    have hs0 := hs
    have d7 : gg 73 = .string (fs[fi]'hfl).name := hd 7 (dep_of kR)
    have e73 := d7
    refine os_know 73 (.string (fs[fi]'hfl).name) e73 nu ?_
    refine os_rv (r_addS rfl rfl (add_ok (a := 30) (b := 1) hfn (Nat.le_refl _) dE)) ⟨Same.refl _ _, ?_⟩
    exact rfl
   | 9, _, _, hoq =>
    obtain rfl := sI hoq
    have hs0 := hs
    replace hb5 := hb5.tr hs (fun hx => by have := (hos.lt _ hx).1; (try have := or_hos_b5 _ hx); omega)
    refine os_rv (r_ldS U25 rfl rfl hb5.range0 sz25) ⟨Same.refl _ _, ?_⟩
    exact rfl
   | 10, _, _, hoq =>
    obtain rfl := sI hoq
    have hs0 := hs
    replace hb6 := hb6.tr hs (fun hx => by have := (hos.lt _ hx).1; (try have := or_hos_b6 _ hx); omega)
    refine os_rv (r_ldS U28 rfl rfl hb6.range0 sz28) ⟨Same.refl _ _, ?_⟩
    exact rfl
   | 11, _, _, hoq =>
    obtain rfl := sI hoq
    have hs0 := hs
    refine os_rv (r_mv (v := .slice _ _ _) rfl) ⟨Same.refl _ _, ?_⟩
    exact rfl
   | 12, _, _, hoq =>
    obtain rfl := sI hoq
    have hs0 := hs
    refine os_rv (r_mv (v := .slice _ _ _) rfl) ⟨Same.refl _ _, ?_⟩
    exact rfl
   | 13, _, _, hoq =>
    obtain rfl := sI hoq
    have hs0 := hs
    replace hb13 := hb13.tr hs (fun hx => by have := (hos.lt _ hx).1; (try have := or_hos_b13 _ hx); omega)
    refine os_rv (r_fa U30 sz3_GLoose dE rfl rfl rfl) ⟨Same.refl _ _, ?_⟩
    exact rfl
   | 14, _, _, hoq =>
    obtain rfl := sI hoq
    have hs0 := hs
    replace hb13 := hb13.tr hs (fun hx => by have := (hos.lt _ hx).1; (try have := or_hos_b13 _ hx); omega)
    have d13 : gg 79 = .pointer (some ⟨b13, 0 + 1, none⟩) := hd 13 (dep_of kR)
    have e79 := d13
    refine os_know 79 (.pointer (some ⟨b13, 0 + 1, none⟩)) e79 nu ?_
    refine os_rv (r_ld1 (v := .int _ _) U3 rfl rfl (hb13.cell rfl)) ⟨Same.refl _ _, ?_⟩
    exact rfl
   | 15, _, hne, _ => exact absurd rfl hne
   | 16, _, _, hoq =>
    obtain rfl := sI hoq
    have hs0 := hs
    have d8 : gg 74 = .string ((fs[fi]'hfl).name ++ (⟨#[61]⟩ : ByteArray)) := hd 8 (dep_of kR)
    have e74 := d8
    have d15 : gg 81 = .string ⟨Q.1.toArray⟩ ∧ Blk wx bs 4 (row g.length (fun x => .bool (Q.2 x))) := hd 15 (dep_of kR)
    obtain ⟨e81, hbs⟩ := d15
    refine os_know 74 (.string ((fs[fi]'hfl).name ++ (⟨#[61]⟩ : ByteArray))) e74 nu (os_know 81 (.string (⟨Q.1.toArray⟩ : ByteArray)) e81 nu ?_)
    refine os_rv (r_addS rfl rfl (add_ok (a := 31) (b := 200000) hnf hQl dE)) ⟨Same.refl _ _, ?_⟩
    exact rfl
   | 17, _, _, hoq =>
    obtain rfl := sI hoq
    have hs0 := hs
    have d0 : gg 66 = .string S1 := hd 0 (dep_of kR)
    have e66 := d0
    have d16 : gg 82 = .string ((fs[fi]'hfl).name ++ (⟨#[61]⟩ : ByteArray) ++ (⟨Q.1.toArray⟩ : ByteArray)) := hd 16 (dep_of kR)
    have e82 := d16
    refine os_know 66 (.string S1) e66 nu (os_know 82 (.string ((fs[fi]'hfl).name ++ (⟨#[61]⟩ : ByteArray) ++ (⟨Q.1.toArray⟩ : ByteArray))) e82 nu ?_)
    refine os_rv (r_addS rfl rfl (add_ok (a := 500002) (b := 200031) hS1l hQS dE)) ⟨Same.refl _ _, ?_⟩
    exact rfl
   | _ + 18, hix, _, _ => exact absurd hix om
  ·
   intro o hoq gg wx hs hd
   obtain rfl := sI hoq
   have hs0 := hs
   replace hB := hB.tr0 hs
   replace hbtg := hbtg.tr0 hs
   replace hb5 := hb5.tr0 hs
   replace hb6 := hb6.tr0 hs
   replace hS := SameQ.trans hS hs (by simp)
   replace hb13 := hb13.tr0 hs
   replace hos := hos.tr0 hs
   replace hbs0 := hbs0.tr0 hs
   clear hs
   have d9 : gg 75 = .agg #[.slice (some ⟨tb, to, none⟩) l.length c, .slice (some ⟨fb, fo, none⟩) fs.length d] := hd 9 (dep_of kR)
   have e75 := d9
   have d10 : gg 76 = .agg #[.slice (some ⟨nb, no, none⟩) g.length cg] := hd 10 (dep_of kR)
   have e76 := d10
   have d11 : gg 77 = .slice (some ⟨bt, 0, none⟩) g.length g.length := hd 11 (dep_of kR)
   have e77 := d11
   have d12 : gg 78 = .slice (some ⟨bs, 0, none⟩) g.length g.length := hd 12 (dep_of kR)
   have e78 := d12
   have d14 : gg 80 = .int .i64 ((u : Nat) : Int) := hd 14 (dep_of kR)
   have e80 := d14
   refine os_know 75 (.agg #[.slice (some ⟨tb, to, none⟩) l.length c, .slice (some ⟨fb, fo, none⟩) fs.length d]) e75 nu (os_know 76 (.agg #[.slice (some ⟨nb, no, none⟩) g.length cg]) e76 nu (os_know 77 (.slice (some ⟨bt, 0, none⟩) g.length g.length) e77 nu (os_know 78 (.slice (some ⟨bs, 0, none⟩) g.length g.length) e78 nu (os_know 80 (.int .i64 ((u : Nat) : Int)) e80 nu ?_))))
   refine os_cl fn66 (IH (wL fs g (wN l fs g mf) t j (setB sn t)).2 pr1 u wx hl2 hul hw1 hB hbs0) rfl (fun e' w2 hr => ?_)
   obtain ⟨rfl, hbs2, hs2⟩ := hr
   refine ⟨_, rfl, hs2, ⟨by rw [hQ], by rw [hQ]; exact hbs2⟩, trivial, fun kx v hne h => ?_⟩
   match kx, hne, h with
   | 0, _, h => exact h
   | 1, _, h => exact h
   | 2, _, h => exact h
   | 3, _, h => exact h
   | 4, _, h => exact h
   | 5, _, h => exact h
   | 6, _, h => exact h
   | 7, _, h => exact h
   | 8, _, h => exact h
   | 9, _, h => exact h
   | 10, _, h => exact h
   | 11, _, h => exact h
   | 12, _, h => exact h
   | 13, _, h => exact h
   | 14, _, h => exact h
   | 15, hne, _ => exact absurd rfl hne
   | 16, _, h => exact h
   | 17, _, h => exact h
   | _ + 18, _, _ => exact trivial
  intro gg w17 hs _ hR
  have hs0 := hs
  replace hB := hB.tr hs (fun g hg => nLT ls (hos.lt g hg).1)
  replace hbtg := hbtg.tr hs (fun hx => by have := (hos.lt _ hx).1; (try have := or_hos_bt _ hx); omega)
  replace hb5 := hb5.tr hs (fun hx => by have := (hos.lt _ hx).1; (try have := or_hos_b5 _ hx); omega)
  replace hb6 := hb6.tr hs (fun hx => by have := (hos.lt _ hx).1; (try have := or_hos_b6 _ hx); omega)
  replace hS := Same.freshL hS hs (fun g hg => .inl hg)
  replace hb13 := hb13.tr hs (fun hx => by have := (hos.lt _ hx).1; (try have := or_hos_b13 _ hx); omega)
  replace hbs0 := trivial
  have d15 : gg 81 = .string ⟨Q.1.toArray⟩ ∧ Blk w17 bs 4 (row g.length (fun x => .bool (Q.2 x))) := hR 15 dE
  obtain ⟨e81, hbs⟩ := d15
  have d17 : gg 83 = .string (S1 ++ ((fs[fi]'hfl).name ++ (⟨#[61]⟩ : ByteArray) ++ (⟨Q.1.toArray⟩ : ByteArray))) := hR 17 dE
  have e83 := d17
  rw [← hq2] at hbs
  have hS9 : bl (S1 ++ ((fs[fi]'hfl).name ++ (⟨#[61]⟩ : ByteArray) ++ (⟨Q.1.toArray⟩ : ByteArray))) = preB (tgs g t) ++ nmB l g t ++ (wL fs g (wN l fs g mf) t (j + 1) (setB sn t)).1 := by
    rw [bl_app, bl_app, bl_app, hS1b, hSb, hq1, hftB, bl_mk]
    simp only [List.append_assoc]
    rfl
  refine wl_know 81 (.string (⟨Q.1.toArray⟩ : ByteArray)) e81 nu (wl_know 83 (.string (S1 ++ ((fs[fi]'hfl).name ++ (⟨#[61]⟩ : ByteArray) ++ (⟨Q.1.toArray⟩ : ByteArray)))) e83 nu (wl (r_as (v := .string _) rfl) (x_nil (e_B (e_S ?_)))))
  refine c_region (wl (r_add rfl rfl rfl om) (wmI rfl (x_nil (e_LS ((g[t]'ht).ln.length - (j + 1)) om agA ?_))))
  exact ⟨j + 1, _, by omega, rfl, rfl, rfl, hS9, hB, hbtg, hb5, hb6, hbs, hS⟩
 have hjx : j = (g[t]'ht).ln.length := by omega
 refine c_exit (e_Sx (e_LSx (e_Bx (e_S (c_seq ?_)))))
 refine c_seq (c_region (wl (r_fa U28 sz26 dE rfl rfl rfl) (wl (r_ld1 (v := .slice _ _ _) U26 rfl rfl (hb6.cell rfl)) (wmI rfl (wl (r_ia (i := t) U26 sz33 rfl rfl ht rfl) ?_)))))
 refine wl (r_fa U33 sz31 dE rfl rfl rfl) (wl (r_ld1 (v := .slice _ _ _) U31 rfl rfl (hB.cell hnb (hnr 1 _ rfl))) (wl (r_len U31 rfl) (wl (r_gtr rfl rfl) (x_nil (e_S ?_)))))
 refine c_ifd rfl (fun c92 => ?_) (fun c92 => ?_)
 ·
  have hn0 : cloB j = [41] := by unfold cloB; rw [if_pos om]
  refine c_region (wl (r_mv (v := .string _) rfl) (wl (r_addS rfl rfl (add_ok (a := 500000) (b := 1) hSlen (Nat.le_refl _) dE)) (wl (r_as (v := .string _) rfl) (x_nil (e_S ?_)))))
  refine c_seq (c_region (wl (r_mv (v := .string _) rfl) (wl (r_as (v := .string _) rfl) (x_nil (e_S ?_)))))
  refine c_ret (fin1 (.inl rfl) rfl rfl ?_)
  have hje : (nd g t).ln.length = j := by rw [nd_eq ht, hjx]
  refine ⟨?_, by rw [wN_new hs, hje]; exact hbs, hS⟩
  rw [wN_new hs, hje, hn0]
  first
    | exact ret_str (p := S ++ (⟨#[41]⟩ : ByteArray)) (by rw [bl_app, hSb]; rfl)
    | exact ret_str (p := S) (by rw [hSb]; simp only [bl_mk, List.append_nil])
 have hn0 : cloB j = [] := by unfold cloB; rw [if_neg om]
 refine c_skip (e_S (c_seq (c_region (wl (r_mv (v := .string _) rfl) (wl (r_as (v := .string _) rfl) ?_)))))
 refine x_nil (e_S (c_ret (fin1 (.inl rfl) rfl rfl ?_)))
 have hje : (nd g t).ln.length = j := by rw [nd_eq ht, hjx]
 refine ⟨?_, by rw [wN_new hs, hje]; exact hbs, hS⟩
 rw [wN_new hs, hje, hn0]
 first
   | exact ret_str (p := S ++ (⟨#[41]⟩ : ByteArray)) (by rw [bl_app, hSb]; rfl)
   | exact ret_str (p := S) (by rw [hSb]; simp only [bl_mk, List.append_nil])
theorem wrt_any {w0 : World} {A B G : Option Addr} {c d cg bt bs : Nat} {l : List Ty} {fs : List Ft} {g : List Nd} (hT : TypesIn w0 A l) (hF : FeatsIn w0 B fs) (hG : NodesIn w0 G g) (hva : GV l fs g) (hW : GW l fs g) (hbtg0 : Blk w0 bt 3 (row g.length (fun x => .int .i64 ((tgs g x : Nat) : Int)))) (ls : w0.heap.size ≤ bs) : ∀ (m : Nat) (sn : Nat → Bool) (pr : Nat → Nat) (t : Nat) (w : World), lackN g.length sn < m → t < g.length → WI g sn pr t → Bel w0 w → Blk w bs 4 (row g.length (fun x => .bool (sn x))) → Calls Tryd.prog 66 #[.agg #[.slice A l.length c, .slice B fs.length d], .agg #[.slice G g.length cg], .slice (some ⟨bt, 0, none⟩) g.length g.length, .slice (some ⟨bs, 0, none⟩) g.length g.length, .int .i64 (t : Nat)] w fun e w' => e = .returned (.string ⟨(wN l fs g m sn t).1.toArray⟩) ∧ Blk w' bs 4 (row g.length (fun x => .bool ((wN l fs g m sn t).2 x))) ∧ Same [bs] w w' := by
  intro m
  induction m with
  | zero => intro sn pr t w hl; omega
  | succ m ih => intro sn pr t w hl ht hw hB h1; exact wrt_step hT hF hG hva hW hbtg0 ls hl ht hw hB h1 ih
end Go.Proofs.YtegngekpmpdngaaDoor
