/- What these functions of the program compute, at every world: glosswright/avm.Text$1. -/
import Derived.Test.YtegngekpmpdngaaDoorU
import Derived.Test.YtegngekpmpdngaaDoorShf
import Derived.Test.YtegngekpmpdngaaDoorWri
import Derived.Test.YtegngekpmpdngaaDoorSFind
namespace Go.Proofs.YtegngekpmpdngaaDoor
open Go.RowKit
theorem cells_byte (a : List UInt8) (c : UInt8) : Lib.byteCells a ++ [Value.int .u8 (c.toNat : Int)] = Lib.byteCells (a ++ [c]) := by simp [Lib.byteCells]
theorem bc_len (a : List UInt8) : (Lib.byteCells a).length = a.length := Lib.byteCells_length a
theorem wN_old {l : List Ty} {fs : List Ft} {g : List Nd} {m t : Nat} {sn : Nat → Bool} (h : 0 < tgs g t) (h2 : sn t = true) : wN l fs g (m + 1) sn t = (tagB (tgs g t), sn) := by
  show (if _ then _ else _) = _
  rw [if_pos ⟨h, h2⟩]
theorem wN_new {l : List Ty} {fs : List Ft} {g : List Nd} {m t : Nat} {sn : Nat → Bool} (h2 : sn t = false) : wN l fs g (m + 1) sn t = (preB (tgs g t) ++ nmB l g t ++ (wL fs g (wN l fs g m) t (nd g t).ln.length (setB sn t)).1 ++ cloB (nd g t).ln.length, (wL fs g (wN l fs g m) t (nd g t).ln.length (setB sn t)).2) := by
  show (if _ then _ else _) = _
  rw [if_neg (fun h => by rw [h2] at h; cases h.2)]
theorem gw_of {l : List Ty} {fs : List Ft} {g : List Nd} (h : GV l fs g) : GW l fs g := by
  have hn := nm_of h.h
  have hf40 := h.few
  refine ⟨h.gok.le, fun i => ?_, fun i hi t ht => succ_rng h.gok i hi t ht, fun i => ?_, fun i j => ?_⟩
  · by_cases hi : i < g.length
    · rw [nd_eq hi]; exact nLT (h.gok.few i hi) hf40
    · simp [nd, List.getD, List.getElem?_eq_none (Nat.le_of_not_lt hi)]
  · unfold nmB
    by_cases hi : (nd g i).ty.toNat < l.length
    · rw [show l.getD (nd g i).ty.toNat ⟨⟨#[]⟩, []⟩ = l[(nd g i).ty.toNat] by simp [List.getD, hi]]
      exact isName_len (hn.1 _ hi)
    · rw [show l.getD (nd g i).ty.toNat ⟨⟨#[]⟩, []⟩ = ⟨⟨#[]⟩, []⟩ by simp [List.getD, List.getElem?_eq_none (Nat.le_of_not_lt hi)]]
      exact Nat.zero_le _
  · unfold ftB ftAt
    by_cases hi : (lnAt g i j).1.toNat < fs.length
    · rw [show fs.getD (lnAt g i j).1.toNat ⟨⟨#[]⟩, 0, 0⟩ = fs[(lnAt g i j).1.toNat] by simp [List.getD, hi]]
      exact isName_len (hn.2 _ hi)
    · rw [show fs.getD (lnAt g i j).1.toNat ⟨⟨#[]⟩, 0, 0⟩ = ⟨⟨#[]⟩, 0, 0⟩ by simp [List.getD, List.getElem?_eq_none (Nat.le_of_not_lt hi)]]
      exact Nat.zero_le _
def sepS (j : Nat) : ByteArray := ⟨(sepB j).toArray⟩
theorem sep_at {j : Nat} : (#[Value.string ⟨#[40]⟩, Value.string ⟨#[44, 32]⟩] : Array Value)[0 + min j 1 * 1]? = some (.string (sepS j)) := by
  cases j with
  | zero => rfl
  | succ j => rw [show min (j + 1) 1 = 1 by omega]; rfl
theorem fn89 : callable Tryd.prog 89 = true := by kernel_rfl
theorem fn90 : callable Tryd.prog 90 = true := by kernel_rfl
theorem fn92 : callable Tryd.prog 92 = true := by kernel_rfl
theorem fn93 : callable Tryd.prog 93 = true := by kernel_rfl
theorem sz77_AWr : (Tryd.prog.info? 77).map (·.size) = some 2 := by kernel_rfl
theorem sz9_AWr : (Tryd.prog.info? 9).map (·.size) = some 1 := by kernel_rfl
theorem ze9 : (Tryd.prog.info? 9).map (·.zero) = some (some (.string ⟨#[]⟩)) := by kernel_rfl
set_option maxRecDepth 100000 in
set_option maxHeartbeats 4000000 in
theorem write_step {w0 : World} {A B G : Option Addr} {c d cg bT bt bH bG bB bS bV bs : Nat} {l : List Ty} {fs : List Ft} {g : List Nd} (hT : TypesIn w0 A l) (hF : FeatsIn w0 B fs) (hG : NodesIn w0 G g) (hva : GV l fs g) (hW : GW l fs g) (hbT0 : Blk w0 bT 43 #[.slice (some ⟨bt, 0, none⟩) g.length g.length]) (hbtg0 : Blk w0 bt 3 (row g.length (fun x => .int .i64 ((tgs g x : Nat) : Int)))) (hbH0 : Blk w0 bH 25 #[.slice A l.length c, .slice B fs.length d]) (hbG0 : Blk w0 bG 28 #[.slice G g.length cg]) (hSB : bS ≠ bB) (hVB : bV ≠ bB) (hsB : bs ≠ bB) (_lS : w0.heap.size ≤ bS) (_lV : w0.heap.size ≤ bV) (ls : w0.heap.size ≤ bs) (lB : w0.heap.size ≤ bB) {mf : Nat} {sn : Nat → Bool} {pr : Nat → Nat} {t : Nat} {tx : List UInt8} {w : World} (hl : lackN g.length sn < mf + 1) (ht : t < g.length) (hwi : WI g sn pr t) (hlen : tx.length + 4 + 2000 * lackN g.length sn ≤ 1000000) (hB : Bel w0 w) (hbS : Blk w bS 82 #[.slice (some ⟨bs, 0, none⟩) g.length g.length]) (hbV : Blk w bV 123 #[.func (.func 92) #[] #[.pointer (some ⟨bT, 0, none⟩), .pointer (some ⟨bB, 0, none⟩), .pointer (some ⟨bS, 0, none⟩), .pointer (some ⟨bH, 0, none⟩), .pointer (some ⟨bG, 0, none⟩), .pointer (some ⟨bV, 0, none⟩)]]) (hbs : Blk w bs 4 (row g.length (fun x => .bool (sn x)))) (hbd : BldI w w0.heap.size bB (Lib.byteCells (tx))) (IH : ∀ (sn2 : Nat → Bool) (pr2 : Nat → Nat) (u : Nat) (tx2 : List UInt8) (w2 : World), lackN g.length sn2 < mf → u < g.length → WI g sn2 pr2 u → tx2.length + 4 + 2000 * lackN g.length sn2 ≤ 1000000 → Bel w0 w2 → Blk w2 bS 82 #[.slice (some ⟨bs, 0, none⟩) g.length g.length] → Blk w2 bV 123 #[.func (.func 92) #[] #[.pointer (some ⟨bT, 0, none⟩), .pointer (some ⟨bB, 0, none⟩), .pointer (some ⟨bS, 0, none⟩), .pointer (some ⟨bH, 0, none⟩), .pointer (some ⟨bG, 0, none⟩), .pointer (some ⟨bV, 0, none⟩)]] → Blk w2 bs 4 (row g.length (fun x => .bool (sn2 x))) → BldI w2 w0.heap.size bB (Lib.byteCells (tx2)) → Calls Tryd.prog 92 #[.int .i64 (u : Nat), .pointer (some ⟨bT, 0, none⟩), .pointer (some ⟨bB, 0, none⟩), .pointer (some ⟨bS, 0, none⟩), .pointer (some ⟨bH, 0, none⟩), .pointer (some ⟨bG, 0, none⟩), .pointer (some ⟨bV, 0, none⟩)] w2 fun e w' => e = .returned (.tuple #[]) ∧ Bel w0 w' ∧ Blk w' bS 82 #[.slice (some ⟨bs, 0, none⟩) g.length g.length] ∧ Blk w' bV 123 #[.func (.func 92) #[] #[.pointer (some ⟨bT, 0, none⟩), .pointer (some ⟨bB, 0, none⟩), .pointer (some ⟨bS, 0, none⟩), .pointer (some ⟨bH, 0, none⟩), .pointer (some ⟨bG, 0, none⟩), .pointer (some ⟨bV, 0, none⟩)]] ∧ Blk w' bs 4 (row g.length (fun x => .bool ((wN l fs g mf sn2 u).2 x))) ∧ BldI w' w0.heap.size bB (Lib.byteCells (tx2 ++ (wN l fs g mf sn2 u).1))) : Calls Tryd.prog 92 #[.int .i64 (t : Nat), .pointer (some ⟨bT, 0, none⟩), .pointer (some ⟨bB, 0, none⟩), .pointer (some ⟨bS, 0, none⟩), .pointer (some ⟨bH, 0, none⟩), .pointer (some ⟨bG, 0, none⟩), .pointer (some ⟨bV, 0, none⟩)] w fun e w' => e = .returned (.tuple #[]) ∧ Bel w0 w' ∧ Blk w' bS 82 #[.slice (some ⟨bs, 0, none⟩) g.length g.length] ∧ Blk w' bV 123 #[.func (.func 92) #[] #[.pointer (some ⟨bT, 0, none⟩), .pointer (some ⟨bB, 0, none⟩), .pointer (some ⟨bS, 0, none⟩), .pointer (some ⟨bH, 0, none⟩), .pointer (some ⟨bG, 0, none⟩), .pointer (some ⟨bV, 0, none⟩)]] ∧ Blk w' bs 4 (row g.length (fun x => .bool ((wN l fs g (mf + 1) sn t).2 x))) ∧ BldI w' w0.heap.size bB (Lib.byteCells (tx ++ (wN l fs g (mf + 1) sn t).1)) := by
 have h60 := hW.le
 have htg := tgs_le g t
 have hszB := Bel.size hB
 have hbT := hbT0.bel hB
 have hbtg := hbtg0.bel hB
 have hbH := hbH0.bel hB
 have hbG := hbG0.bel hB
 obtain ⟨nb, no, LA, lc, rfl, hnb, hnr, hln⟩ := hG.at_ (Below.refl _ _ : Bel w0 w0) ht
 have hmx := hln.1
 unfold maxI at hmx
 obtain ⟨tn, htn, htnl⟩ : ∃ z : Nat, (g[t]'ht).ty = (z : Int) ∧ z < l.length := by
   have h := hva.gok.ty t ht
   exact ⟨(g[t]'ht).ty.toNat, by omega, by omega⟩
 rw [htn] at hnr
 obtain ⟨tb, to, A', cp, rfl, htb, htr, _⟩ := hT.at_ (Below.refl _ _ : Bel w0 w0) htnl
 have hnmB : nmB l g t = bl (l[tn]'htnl).name := by
   unfold nmB bl
   rw [nd_eq ht, htn]
   simp [List.getD, htnl]
 have hnml := hW.nm t
 have hfew := hW.few t
 rw [nd_eq ht] at hfew
 have hpre := preB_le (t := tgs g t) om
 have htgl := tagB_le (t := tgs g t) om
 have hdl := digs_le (t := tgs g t) om
 have hst : ∀ hs : sn t = false, lackN g.length (setB sn t) < lackN g.length sn := fun hs => lack_set ht hs
 refine enter Tryd.func92 Tryd.ntmps92 rfl (Nat.le_of_ble_eq_true rfl) (c_seq (c_seq (c_region (wl (r_ld1 (v := .slice _ _ _) U43 rfl rfl (hbT.cell rfl)) (wmI rfl ?_)))))
 refine wl (r_ia (i := t) U43 sz3_GLoose rfl rfl ht rfl) (wl (r_ld1 (v := .int _ _) U3 rfl rfl (hbtg.cell (row_get ht))) (wl (r_gtr rfl rfl) (x_nil (e_S ?_))))
 refine c_ifd rfl (fun c14 => ?_) (fun c14 => ?_)
 ·
  have htg0 : 0 < tgs g t := by omega
  refine c_seq (c_region (wl (r_ld1 (v := .slice _ _ _) U43 rfl rfl (hbT.cell rfl)) (wmI rfl (wl (r_ia (i := t) U43 sz3_GLoose rfl rfl ht rfl) (wl (r_ld1 (v := .int _ _) U3 rfl rfl (hbtg.cell (row_get ht))) ?_)))))
  refine wl_cl fn93 (sh_strconv_Itoa_small (tgs g t) om _) rfl (fun e' w1 hr => ?_)
  obtain ⟨rfl, rfl⟩ := hr
  refine ⟨_, rfl, ?_⟩
  refine wl (r_addS rfl rfl (add_ok (a := 1) (b := 2) (Nat.le_refl _) hdl dE)) ?_
  refine wl_cl fn89 (ws_any hbd (by rw [bc_len, ← bl_size, bl_app, List.length_append]; show tx.length + (1 + (Lib.decDigits (tgs g t)).length) ≤ _; omega) hszB) rfl (fun e' w2 hr => ?_)
  obtain ⟨rfl, hbd2, hK⟩ := hr
  replace hB := hK.bel hB (Nat.le_refl _) lB
  replace hbS := hK.keep hbS dE hSB
  replace hbV := hK.keep hbV dE hVB
  replace hbs := hK.keep hbs dE hsB
  replace hbT := hbT0.bel hB
  replace hbtg := hbtg0.bel hB
  replace hbH := hbH0.bel hB
  replace hbG := hbG0.bel hB
  clear hbd
  have hbd : BldI w2 w0.heap.size bB (Lib.byteCells (tx ++ tagB (tgs g t))) := by
    have h := hbd2
    rw [str_cells, cells_app, bl_app] at h; exact h
  have hszB := Bel.size hB
  clear hbd2 hK
  refine ⟨_, rfl, ?_⟩
  refine x_nil (e_S (c_seq (c_seq (c_region (wl (r_ld1 (v := .slice _ _ _) U82 rfl rfl (hbS.cell rfl)) ?_)))))
  refine wmI rfl (wl (r_ia (i := t) U82 sz4_GLoose rfl rfl ht rfl) (wl (r_ld1 (v := .bool _) U4 rfl rfl (hbs.cell (row_get ht))) (x_nil (e_S ?_))))
  refine c_if rfl (fun c25 => ?_) (fun c25 => ?_)
  ·
   have hst1 : sn t = true := c25
   refine c_ret (e_Sr (e_Sr (fin0 (.inl rfl) rfl  ?_)))
   exact ⟨rfl, hB, hbS, hbV, by rw [wN_old htg0 hst1]; exact hbs, by rw [wN_old htg0 hst1]; exact hbd⟩
  have hs : sn t = false := c25
  refine c_skip (e_S (c_region ?_))
  refine wl_cl fn90 (wb_any (c := 32) hbd (by rw [bc_len, List.length_append]; omega) (Bel.size hB)) rfl (fun e' w3 hr => ?_)
  obtain ⟨rfl, hbd2, hK⟩ := hr
  replace hB := hK.bel hB (Nat.le_refl _) lB
  replace hbS := hK.keep hbS dE hSB
  replace hbV := hK.keep hbV dE hVB
  replace hbs := hK.keep hbs dE hsB
  replace hbT := hbT0.bel hB
  replace hbtg := hbtg0.bel hB
  replace hbH := hbH0.bel hB
  replace hbG := hbG0.bel hB
  clear hbd
  have hbd : BldI w3 w0.heap.size bB (Lib.byteCells (tx ++ preB (tgs g t))) := by
    have h := hbd2
    rw [show (32 : Int) = ((32 : UInt8).toNat : Int) from rfl, cells_byte] at h
    have e : preB (tgs g t) = tagB (tgs g t) ++ [32] := by unfold preB; rw [if_pos htg0]
    rw [e, ← List.append_assoc]; exact h
  clear hbd2 hK
  refine ⟨_, rfl, ?_⟩
  refine x_nil (e_S (c_seq ?_))
  have ltT := hbT0.lt
  have ltt := hbtg0.lt
  have ltH := hbH0.lt
  have ltG := hbG0.lt
  have nSs : bS ≠ bs := fun e => absurd (blk_type (e ▸ hbS) hbs) dE
  have nVs : bV ≠ bs := fun e => absurd (blk_type (e ▸ hbV) hbs) dE
  refine c_region (wl (r_ld1 (v := .slice _ _ _) U82 rfl rfl (hbS.cell rfl)) (wmI rfl (wl (r_ia (i := t) U82 sz4_GLoose rfl rfl ht rfl) ?_)))
  refine wl_st1 (v := .bool _) hbs rfl rfl sz4_GLoose (by rw [row_size]; omega) rfl row_set (fun w4 hq hs => ?_)
  replace hB := hB.tr1 hs ls
  replace hbT := hbT.tr1 hs om
  replace hbtg := hbtg.tr1 hs om
  replace hbH := hbH.tr1 hs om
  replace hbG := hbG.tr1 hs om
  replace hbS := hbS.tr1 hs om
  replace hbV := hbV.tr1 hs om
  replace hbd := hbd.tr1 hs hbs dE (by first | omega | assumption)
  clear hs
  replace hbs := hq
  rw [row_setB] at hbs
  have hLI := (wN_both hW mf).2 sn pr t hl ht hwi hs
  have hst1 := hst hs
  refine x_nil (e_S (c_seq ?_))
  refine c_tail 11 kR kR (fun w5 hs => ?_)
  replace hB := hB.tr0 hs
  replace hbT := hbT.tr0 hs
  replace hbtg := hbtg.tr0 hs
  replace hbH := hbH.tr0 hs
  replace hbG := hbG.tr0 hs
  replace hbS := hbS.tr0 hs
  replace hbV := hbV.tr0 hs
  replace hbs := hbs.tr0 hs
  replace hbd := hbd.tr0 hs
  clear hs
  refine ws (r_fa U25 sz22_GLoose dE rfl rfl rfl) (ws (r_ld1 (v := .slice _ _ _) U22 rfl rfl (hbH.cell rfl)) (ws (r_fa U28 sz26 dE rfl rfl rfl) (ws (r_ld1 (v := .slice _ _ _) U26 rfl rfl (hbG.cell rfl)) (ws (r_mv (v := .int _ _) rfl) (ws (r_ia (i := t) U26 sz33 rfl rfl ht rfl) ?_)))))
  refine ws (r_fa U33 sz3_GLoose dE rfl rfl rfl) (ws (r_ld1 (v := .int _ _) U3 rfl rfl (hB.cell hnb (hnr 0 _ rfl))) (ws (r_ia (i := tn) U22 sz77_AWr rfl rfl htnl rfl) (ws (r_fa U77 sz9_AWr dE rfl rfl rfl) (ws (r_ld1 (v := .string _) U9 rfl rfl (hB.cell htb (htr 0 _ rfl))) (s_tail ?_)))))
  refine wl_cl fn89 (ws_any hbd (by rw [bc_len, ← bl_size, ← hnmB, List.length_append]; omega) (Bel.size hB)) rfl (fun e' w6 hr => ?_)
  obtain ⟨rfl, hbd2, hK⟩ := hr
  replace hB := hK.bel hB (Nat.le_refl _) lB
  replace hbS := hK.keep hbS dE hSB
  replace hbV := hK.keep hbV dE hVB
  replace hbs := hK.keep hbs dE hsB
  replace hbT := hbT0.bel hB
  replace hbtg := hbtg0.bel hB
  replace hbH := hbH0.bel hB
  replace hbG := hbG0.bel hB
  clear hbd
  have hbd : BldI w6 w0.heap.size bB (Lib.byteCells (tx ++ preB (tgs g t) ++ nmB l g t)) := by
    have h := hbd2
    rw [str_cells, cells_app, ← hnmB] at h; exact h
  clear hbd2 hK
  refine ⟨_, rfl, ?_⟩
  refine x_nil (e_S (c_seq (c_seq (c_region (wl (r_fa U28 sz26 dE rfl rfl rfl) ?_)))))
  refine wl (r_ld1 (v := .slice _ _ _) U26 rfl rfl (hbG.cell rfl)) (wmI rfl (wl (r_ia (i := t) U26 sz33 rfl rfl ht rfl) (wl (r_fa U33 sz31 dE rfl rfl rfl) (wl (r_ld1 (v := .slice _ _ _) U31 rfl rfl (hB.cell hnb (hnr 1 _ rfl))) (wl (r_len U31 rfl) ?_)))))
  refine wmI rfl (x_nil (e_S (c_block ?_)))
  refine c_loopS [8, 9, 49, 50, 51, 52, 53, 54, 55, 56, 57, 58, 59, 60, 61, 62, 63, 64, 65, 66, 67, 68, 69, 70, 71, 72, 73] (fun mm g1 w' => ∃ j : Nat, j ≤ (g[t]'ht).ln.length ∧ mm = (g[t]'ht).ln.length - j ∧ g1 49 = .int .i64 j ∧ Bel w0 w' ∧ Blk w' bS 82 #[.slice (some ⟨bs, 0, none⟩) g.length g.length] ∧ Blk w' bV 123 #[.func (.func 92) #[] #[.pointer (some ⟨bT, 0, none⟩), .pointer (some ⟨bB, 0, none⟩), .pointer (some ⟨bS, 0, none⟩), .pointer (some ⟨bH, 0, none⟩), .pointer (some ⟨bG, 0, none⟩), .pointer (some ⟨bV, 0, none⟩)]] ∧ Blk w' bs 4 (row g.length (fun x => .bool ((wL fs g (wN l fs g mf) t j (setB sn t)).2 x))) ∧ BldI w' w0.heap.size bB (Lib.byteCells (tx ++ preB (tgs g t) ++ nmB l g t ++ (wL fs g (wN l fs g mf) t j (setB sn t)).1))) ((g[t]'ht).ln.length) ?_ (fun m g7 w7 hI => ?_)
  ·
   exact ⟨0, Nat.zero_le _, rfl, rfl, hB, hbS, hbV, hbs, by rw [show (wL fs g (wN l fs g mf) t 0 (setB sn t)).1 = [] from rfl, List.append_nil]; exact hbd⟩
  obtain ⟨j, hj, hmj, h49, hB, hbS, hbV, hbs, hbd⟩ := hI
  have hbT := hbT0.bel hB
  have hbtg := hbtg0.bel hB
  have hbH := hbH0.bel hB
  have hbG := hbG0.bel hB
  refine c_know 49 (.int .i64 j) h49 nu (c_seq (c_region (wl (r_lss rfl rfl) (x_nil (e_S ?_)))))
  refine c_seq ?_
  refine c_ifd rfl (fun c50 => ?_) (fun c50 => ?_)
  ·
   have hjl : j < (g[t]'ht).ln.length := by omega
   have hjn : j < (nd g t).ln.length := by rw [nd_eq ht]; exact hjl
   obtain ⟨lb, lof, rfl, hlb, hlr⟩ := hln.at_ (Below.refl _ _ : Bel w0 w0) hjl
   have hlx : lnAt g t j = ((g[t]'ht).ln[j]'hjl) := by unfold lnAt; rw [nd_eq ht]; simp [List.getD, hjl]
   have hgl := hva.gok.ln t ht _ (List.getElem_mem hjl)
   obtain ⟨fi, hfi, hfl⟩ : ∃ z : Nat, ((g[t]'ht).ln[j]'hjl).1 = (z : Int) ∧ z < fs.length := ⟨(((g[t]'ht).ln[j]'hjl).1).toNat, by omega, by omega⟩
   obtain ⟨u, hu, hul⟩ : ∃ z : Nat, ((g[t]'ht).ln[j]'hjl).2 = (z : Int) ∧ z < g.length := ⟨(((g[t]'ht).ln[j]'hjl).2).toNat, by omega, by omega⟩
   obtain ⟨fb, fo, rfl, hfb, hfr2⟩ := hF.at_ (Below.refl _ _ : Bel w0 w0) hfl
   have hftB : ftB fs (lnAt g t j).1 = bl (fs[fi]'hfl).name := by
     unfold ftB bl ftAt
     rw [hlx, hfi]
     simp [List.getD, hfl]
   have hfn := hW.ft t j
   rw [hftB] at hfn
   have hun : (lnAt g t j).2.toNat = u := by rw [hlx, hu]; rfl
   obtain ⟨pr1, hw1, _, _, hl1⟩ := (hLI j om).child ht hs hjn
   rw [hun] at hw1
   have hl2 := hl1 hl
   have hle := (hLI j om).le
   have hsl : (sepB j).length ≤ 2 := by unfold sepB; split <;> simp
   have hq1 : (wL fs g (wN l fs g mf) t (j + 1) (setB sn t)).1 = (wL fs g (wN l fs g mf) t j (setB sn t)).1 ++ (sepB j ++ ftB fs (lnAt g t j).1 ++ [61] ++ (wN l fs g mf (wL fs g (wN l fs g mf) t j (setB sn t)).2 u).1) := by rw [← hun]; rfl
   have hq2 : (wL fs g (wN l fs g mf) t (j + 1) (setB sn t)).2 = (wN l fs g mf (wL fs g (wN l fs g mf) t j (setB sn t)).2 u).2 := by rw [← hun]; rfl
   refine c_skip (e_S (c_seq (c_block (c_seq (c_region ?_)))))
   refine wmI rfl (wl (r_ia (i := j) U31 sz30 rfl rfl om rfl) (wl (r_ldS U30 rfl rfl (hB.range hlb hlr) sz30) ?_))
   refine wl_al (cs := #[.int .i64 0, .int .i64 0]) ze30 rfl (fun b9 w8 hb9 hs hr => ?_)
   have or_bS_b9 : bS < b9 := nLL hbS.lt hr
   have or_bV_b9 : bV < b9 := nLL hbV.lt hr
   have or_bs_b9 : bs < b9 := nLL hbs.lt hr
   have or_hbd_b9 := (nLL hbd.lt hr)
   have or_bT_b9 : bT < b9 := nLL hbT.lt hr
   have or_bt_b9 : bt < b9 := nLL hbtg.lt hr
   have or_bH_b9 : bH < b9 := nLL hbH.lt hr
   have or_bG_b9 : bG < b9 := nLL hbG.lt hr
   have lo9 := nLT (Bel.size hB) hr
   replace hB := hB.tr0 hs
   replace hbS := hbS.tr0 hs
   replace hbV := hbV.tr0 hs
   replace hbs := hbs.tr0 hs
   replace hbd := hbd.tr0 hs
   replace hbT := hbT.tr0 hs
   replace hbtg := hbtg.tr0 hs
   replace hbH := hbH.tr0 hs
   replace hbG := hbG.tr0 hs
   clear hs
   clear hr
   refine waI rfl ?_
   refine wl_stW hb9 rfl rfl sz30 rfl oneA (fun w9 hq hs => ?_)
   replace hB := hB.tr1 hs lo9
   replace hbS := hbS.tr1 hs om
   replace hbV := hbV.tr1 hs om
   replace hbs := hbs.tr1 hs om
   replace hbd := hbd.tr1 hs hb9 dE (by first | omega | assumption)
   replace hbT := hbT.tr1 hs om
   replace hbtg := hbtg.tr1 hs om
   replace hbH := hbH.tr1 hs om
   replace hbG := hbG.tr1 hs om
   clear hs
   replace hb9 := hq
   refine x_nil (e_S (c_seq ?_))
   rw [hfi, hu] at hb9
   refine c_monoTO 14 [54, 55, 56, 57, 58, 59, 60, 61, 62, 63, 64, 65, 66, 67] (fun _ => false) (fun ix v wv => match ix with | 0 => ∃ b, v = .slice (some ⟨b, 0, none⟩) 2 2 ∧ w9.heap.size ≤ b ∧ Blk wv b 9 #[.string ⟨#[40]⟩, .string ⟨#[44, 32]⟩] | 1 => v = .int .i64 j | 2 => v = .int .i64 ((min j 1 : Nat) : Int) | 3 => ∃ b, v = .pointer (some ⟨b, 0 + min j 1 * 1, none⟩) ∧ Blk wv b 9 #[.string ⟨#[40]⟩, .string ⟨#[44, 32]⟩] | 4 => v = .string (sepS j) | 5 => v = .pointer (some ⟨bH, 0 + 1, none⟩) | 6 => v = .slice (some ⟨fb, fo, none⟩) fs.length d | 7 => v = .pointer (some ⟨b9, 0, none⟩) | 8 => v = .int .i64 ((fi : Nat) : Int) | 9 => v = .pointer (some ⟨fb, fo + fi * 3, none⟩) | 10 => v = .pointer (some ⟨fb, fo + fi * 3 + 0, none⟩) | 11 => v = .string (fs[fi]'hfl).name | 12 => v = .string (sepS j ++ (fs[fi]'hfl).name) | 13 => v = .string (sepS j ++ (fs[fi]'hfl).name ++ (⟨#[61]⟩ : ByteArray)) | _ => True) kR kR ?_ ?_ ?_
   ·
    intro ix v wv wv2 h hs
    match ix, h with
    | 0, h =>
     obtain ⟨b54, e54, lo54, hb54⟩ := (show ∃ b, v = .slice (some ⟨b, 0, none⟩) 2 2 ∧ w9.heap.size ≤ b ∧ Blk wv b 9 #[.string ⟨#[40]⟩, .string ⟨#[44, 32]⟩] from h)
     exact ⟨b54, e54, lo54, hb54.tr0 hs⟩
    | 1, h => exact h
    | 2, h => exact h
    | 3, h =>
     obtain ⟨b57, e57, hb57⟩ := (show ∃ b, v = .pointer (some ⟨b, 0 + min j 1 * 1, none⟩) ∧ Blk wv b 9 #[.string ⟨#[40]⟩, .string ⟨#[44, 32]⟩] from h)
     exact ⟨b57, e57, hb57.tr0 hs⟩
    | 4, h => exact h
    | 5, h => exact h
    | 6, h => exact h
    | 7, h => exact h
    | 8, h => exact h
    | 9, h => exact h
    | 10, h => exact h
    | 11, h => exact h
    | 12, h => exact h
    | 13, h => exact h
    | _ + 14, h => exact trivial
   ·
    intro ix o hix hoq gg wx hs hd hdis
    match ix, hix, hoq with
    | 0, _, hoq =>
     obtain rfl := sI hoq
     have hs0 := hs
     clear hs
     refine os_wl (fun ops Q K => ?_)
     refine wl_bs (cs := #[_, _]) [(0, .string _), (1, .string _)] rfl Tryd.underlying83 sz9_AWr ze9 dE dE kR rfl (fun b54 w10 hb54 hs hr => ?_)
     exact K _ _ ⟨hs, ⟨_, rfl, nLT hs0.size hr, hb54⟩, fun _ g hg => by cases hg; exact ⟨hr, hb54.lt⟩⟩
    | 1, _, hoq =>
     obtain rfl := sI hoq
     have hs0 := hs
     clear hs
     refine os_rv (r_mv (v := .int _ _) rfl) ⟨Same.refl _ _, ?_, frsh_no⟩
     exact rfl
    | 2, _, hoq =>
     obtain rfl := sI hoq
     have hs0 := hs
     clear hs
     have d1 : gg 55 = .int .i64 j := hd 1 (dep_of kR)
     have e55 := d1
     refine os_know 55 (.int .i64 j) e55 nu ?_
     refine os_rv (r_minN rfl rfl) ⟨Same.refl _ _, ?_, frsh_no⟩
     exact rfl
    | 3, _, hoq =>
     obtain rfl := sI hoq
     have hs0 := hs
     clear hs
     have d0 : ∃ b, gg 54 = .slice (some ⟨b, 0, none⟩) 2 2 ∧ w9.heap.size ≤ b ∧ Blk wx b 9 #[.string ⟨#[40]⟩, .string ⟨#[44, 32]⟩] := hd 0 (dep_of kR)
     obtain ⟨b54, e54, lo54, hb54⟩ := d0
     have d2 : gg 56 = .int .i64 ((min j 1 : Nat) : Int) := hd 2 (dep_of kR)
     have e56 := d2
     refine os_know 54 (.slice (some ⟨b54, 0, none⟩) 2 2) e54 nu (os_know 56 (.int .i64 ((min j 1 : Nat) : Int)) e56 nu ?_)
     refine os_rv (r_ia (i := (min j 1)) Tryd.underlying83 sz9_AWr rfl rfl om rfl) ⟨Same.refl _ _, ?_, frsh_no⟩
     exact ⟨_, rfl, hb54⟩
    | 4, _, hoq =>
     obtain rfl := sI hoq
     have hs0 := hs
     clear hs
     have d3 : ∃ b, gg 57 = .pointer (some ⟨b, 0 + min j 1 * 1, none⟩) ∧ Blk wx b 9 #[.string ⟨#[40]⟩, .string ⟨#[44, 32]⟩] := hd 3 (dep_of kR)
     obtain ⟨b57, e57, hb57⟩ := d3
     refine os_know 57 (.pointer (some ⟨b57, 0 + min j 1 * 1, none⟩)) e57 nu ?_
     refine os_rv (r_ld1 (v := .string _) U9 rfl rfl (hb57.cell sep_at)) ⟨Same.refl _ _, ?_, frsh_no⟩
     exact rfl
    | 5, _, hoq =>
     obtain rfl := sI hoq
     have hs0 := hs
     replace hbH := hbH.tr0 hs
     clear hs
     refine os_rv (r_fa U25 sz23_GLoose dE rfl rfl rfl) ⟨Same.refl _ _, ?_, frsh_no⟩
     exact rfl
    | 6, _, hoq =>
     obtain rfl := sI hoq
     have hs0 := hs
     replace hbH := hbH.tr0 hs
     clear hs
     have d5 : gg 59 = .pointer (some ⟨bH, 0 + 1, none⟩) := hd 5 (dep_of kR)
     have e59 := d5
     refine os_know 59 (.pointer (some ⟨bH, 0 + 1, none⟩)) e59 nu ?_
     refine os_rv (r_ld1 (v := .slice _ _ _) U23 rfl rfl (hbH.cell rfl)) ⟨Same.refl _ _, ?_, frsh_no⟩
     exact rfl
    | 7, _, hoq =>
     obtain rfl := sI hoq
     have hs0 := hs
     replace hb9 := hb9.tr0 hs
     clear hs
     refine os_rv (r_fa U30 sz3_GLoose dE rfl rfl rfl) ⟨Same.refl _ _, ?_, frsh_no⟩
     exact rfl
    | 8, _, hoq =>
     obtain rfl := sI hoq
     have hs0 := hs
     replace hb9 := hb9.tr0 hs
     clear hs
     have d7 : gg 61 = .pointer (some ⟨b9, 0, none⟩) := hd 7 (dep_of kR)
     have e61 := d7
     refine os_know 61 (.pointer (some ⟨b9, 0, none⟩)) e61 nu ?_
     refine os_rv (r_ld1 (v := .int _ _) U3 rfl rfl (hb9.cell rfl)) ⟨Same.refl _ _, ?_, frsh_no⟩
     exact rfl
    | 9, _, hoq =>
     obtain rfl := sI hoq
     have hs0 := hs
     clear hs
     have d6 : gg 60 = .slice (some ⟨fb, fo, none⟩) fs.length d := hd 6 (dep_of kR)
     have e60 := d6
     have d8 : gg 62 = .int .i64 ((fi : Nat) : Int) := hd 8 (dep_of kR)
     have e62 := d8
     refine os_know 60 (.slice (some ⟨fb, fo, none⟩) fs.length d) e60 nu (os_know 62 (.int .i64 ((fi : Nat) : Int)) e62 nu ?_)
     refine os_rv (r_ia (i := fi) U23 sz63_GVal rfl rfl hfl rfl) ⟨Same.refl _ _, ?_, frsh_no⟩
     exact rfl
    | 10, _, hoq =>
     obtain rfl := sI hoq
     have hs0 := hs
     clear hs
     have d9 : gg 63 = .pointer (some ⟨fb, fo + fi * 3, none⟩) := hd 9 (dep_of kR)
     have e63 := d9
     refine os_know 63 (.pointer (some ⟨fb, fo + fi * 3, none⟩)) e63 nu ?_
     refine os_rv (r_fa U63 sz9_AWr dE rfl rfl rfl) ⟨Same.refl _ _, ?_, frsh_no⟩
     exact rfl
    | 11, _, hoq =>
     obtain rfl := sI hoq
     have hs0 := hs
     replace hB := hB.tr0 hs
     clear hs
     have d10 : gg 64 = .pointer (some ⟨fb, fo + fi * 3 + 0, none⟩) := hd 10 (dep_of kR)
     have e64 := d10
     refine os_know 64 (.pointer (some ⟨fb, fo + fi * 3 + 0, none⟩)) e64 nu ?_
     refine os_rv (r_ld1 (v := .string _) U9 rfl rfl (hB.cell hfb (hfr2 0 _ rfl))) ⟨Same.refl _ _, ?_, frsh_no⟩
     exact rfl
    | 12, _, hoq =>
     obtain rfl := sI hoq
     have hs0 := hs
     clear hs
     have d4 : gg 58 = .string (sepS j) := hd 4 (dep_of kR)
     have e58 := d4
     have d11 : gg 65 = .string (fs[fi]'hfl).name := hd 11 (dep_of kR)
     have e65 := d11
     refine os_know 58 (.string (sepS j)) e58 nu (os_know 65 (.string (fs[fi]'hfl).name) e65 nu ?_)
     refine os_rv (r_addS rfl rfl (add_ok (a := 2) (b := 30) hsl hfn dE)) ⟨Same.refl _ _, ?_, frsh_no⟩
     exact rfl
    | 13, _, hoq =>
     obtain rfl := sI hoq
     have hs0 := hs
     clear hs
     have d12 : gg 66 = .string (sepS j ++ (fs[fi]'hfl).name) := hd 12 (dep_of kR)
     have e66 := d12
     refine os_know 66 (.string (sepS j ++ (fs[fi]'hfl).name)) e66 nu ?_
     refine os_rv (r_addS rfl rfl (add_ok (a := 32) (b := 1) (by rw [bl_app, List.length_append]; exact Nat.add_le_add hsl hfn) (Nat.le_refl _) dE)) ⟨Same.refl _ _, ?_, frsh_no⟩
     exact rfl
    | _ + 14, hix, _ => exact absurd hix om
   intro gg w11 hs hR hdis
   have hs0 := hs
   replace hB := hB.tr0 hs
   replace hbS := hbS.tr0 hs
   replace hbV := hbV.tr0 hs
   replace hbs := hbs.tr0 hs
   replace hbd := hbd.tr0 hs
   replace hbT := hbT.tr0 hs
   replace hbtg := hbtg.tr0 hs
   replace hbH := hbH.tr0 hs
   replace hbG := hbG.tr0 hs
   replace hb9 := hb9.tr0 hs
   clear hs
   have d13 : gg 67 = .string (sepS j ++ (fs[fi]'hfl).name ++ (⟨#[61]⟩ : ByteArray)) := hR 13 dE
   have e67 := d13
   refine wl_know 67 (.string (sepS j ++ (fs[fi]'hfl).name ++ (⟨#[61]⟩ : ByteArray))) e67 nu ?_
   refine wl_cl fn89 (ws_any hbd (by rw [bc_len, ← bl_size, bl_app, bl_app]; simp only [List.length_append]; show _ + ((sepB j).length + _ + 1) ≤ _; omega) (Bel.size hB)) rfl (fun e' w12 hr => ?_)
   obtain ⟨rfl, hbd2, hK⟩ := hr
   replace hB := hK.bel hB (Nat.le_refl _) lB
   replace hbS := hK.keep hbS dE hSB
   replace hbV := hK.keep hbV dE hVB
   replace hbs := hK.keep hbs dE hsB
   replace hbT := hbT0.bel hB
   replace hbtg := hbtg0.bel hB
   replace hbH := hbH0.bel hB
   replace hbG := hbG0.bel hB
   replace hb9 := hK.keep hb9 dE om
   clear hbd
   have hbd : BldI w12 w0.heap.size bB (Lib.byteCells (tx ++ preB (tgs g t) ++ nmB l g t ++ (wL fs g (wN l fs g mf) t j (setB sn t)).1 ++ (sepB j ++ ftB fs (lnAt g t j).1 ++ [61]))) := by
     have h := hbd2
     rw [str_cells, cells_app, bl_app, bl_app, ← hftB] at h; exact h
   clear hbd2 hK
   refine ⟨_, rfl, ?_⟩
   refine x_nil (e_S (c_region (wl (r_ld1 (v := .func _ _ _) U123 rfl rfl (hbV.cell rfl)) (wl (r_fa U30 sz3_GLoose dE rfl rfl rfl) (wl (r_ld1 (v := .int _ _) U3 rfl rfl (hb9.cell rfl)) ?_)))))
   refine wl_clv rfl fn92 (IH (wL fs g (wN l fs g mf) t j (setB sn t)).2 pr1 u _ _ hl2 hul hw1 (by simp only [List.length_append, List.length_cons, List.length_nil]; rw [hftB]; omega) hB hbS hbV hbs hbd) rfl rfl (fun e' w13 hr => ?_)
   obtain ⟨rfl, hB2, hbS2, hbV2, hbs2, hbd2⟩ := hr
   clear hB hbS hbV hbs hbd
   have hB := hB2
   have hbS := hbS2
   have hbV := hbV2
   have hbs := hbs2
   replace hbT := hbT0.bel hB
   replace hbtg := hbtg0.bel hB
   replace hbH := hbH0.bel hB
   replace hbG := hbG0.bel hB
   rw [← hq2] at hbs
   have hbd : BldI w13 w0.heap.size bB (Lib.byteCells (tx ++ preB (tgs g t) ++ nmB l g t ++ (wL fs g (wN l fs g mf) t (j + 1) (setB sn t)).1)) := by rw [hq1]; simpa only [List.append_assoc] using hbd2
   refine ⟨_, rfl, ?_⟩
   refine x_nil (e_B (e_S (c_region (wl (r_add rfl rfl rfl om) (wmI rfl ?_)))))
   refine x_nil (e_LS ((g[t]'ht).ln.length - (j + 1)) om agA ?_)
   exact ⟨j + 1, by omega, rfl, rfl, hB, hbS, hbV, hbs, hbd⟩
  have hjx : j = (g[t]'ht).ln.length := by omega
  refine c_exit (e_Sx (e_LSx (e_Bx (e_S (c_seq ?_)))))
  refine c_region (wl (r_fa U28 sz26 dE rfl rfl rfl) (wl (r_ld1 (v := .slice _ _ _) U26 rfl rfl (hbG.cell rfl)) (wmI rfl (wl (r_ia (i := t) U26 sz33 rfl rfl ht rfl) (wl (r_fa U33 sz31 dE rfl rfl rfl) ?_)))))
  refine wl (r_ld1 (v := .slice _ _ _) U31 rfl rfl (hB.cell hnb (hnr 1 _ rfl))) (wl (r_len U31 rfl) (wl (r_gtr rfl rfl) (x_nil (e_S ?_))))
  refine c_ifd rfl (fun c81 => ?_) (fun c81 => ?_)
  ·
   have hn0 : 0 < (nd g t).ln.length := by rw [nd_eq ht]; omega
   refine c_region ?_
   refine wl_cl fn90 (wb_any (c := 41) hbd (by have hle := (hLI j (by rw [nd_eq ht]; omega)).le; rw [bc_len]; simp only [List.length_append]; omega) (Bel.size hB)) rfl (fun e' w14 hr => ?_)
   obtain ⟨rfl, hbd2, hK⟩ := hr
   replace hB := hK.bel hB (Nat.le_refl _) lB
   replace hbS := hK.keep hbS dE hSB
   replace hbV := hK.keep hbV dE hVB
   replace hbs := hK.keep hbs dE hsB
   replace hbT := hbT0.bel hB
   replace hbtg := hbtg0.bel hB
   replace hbH := hbH0.bel hB
   replace hbG := hbG0.bel hB
   clear hbd
   have hbd : BldI w14 w0.heap.size bB (Lib.byteCells (tx ++ preB (tgs g t) ++ nmB l g t ++ (wL fs g (wN l fs g mf) t j (setB sn t)).1 ++ [41])) := by
     have h := hbd2
     rw [show (41 : Int) = ((41 : UInt8).toNat : Int) from rfl, cells_byte] at h; exact h
   clear hbd2 hK
   refine ⟨_, rfl, ?_⟩
   refine x_nil (fin0 (.inr rfl) rfl  ?_)
   have hje : (nd g t).ln.length = j := by rw [nd_eq ht, hjx]
   exact ⟨rfl, hB, hbS, hbV, by rw [wN_new hs, hje]; exact hbs, by
     rw [wN_new hs, hje]
     have e : cloB j = [41] := by unfold cloB; rw [if_pos (by rw [← hje]; exact hn0)]
     rw [e]
     simpa only [List.append_assoc] using hbd⟩
  have hn0 : ¬ 0 < (nd g t).ln.length := by rw [nd_eq ht]; omega
  refine c_skip (fin0 (.inr rfl) rfl  ?_)
  have hje : (nd g t).ln.length = j := by rw [nd_eq ht, hjx]
  exact ⟨rfl, hB, hbS, hbV, by rw [wN_new hs, hje]; exact hbs, by
    rw [wN_new hs, hje]
    have e : cloB j = [] := by unfold cloB; rw [if_neg (by rw [← hje]; exact hn0)]
    rw [e]
    simpa only [List.append_assoc, List.append_nil] using hbd⟩
 have hs : sn t = false := by
   cases hq : sn t with
   | false => rfl
   | true => exact absurd (hwi.tg hq) om
 replace hbd : BldI w w0.heap.size bB (Lib.byteCells (tx ++ preB (tgs g t))) := by
   have e : preB (tgs g t) = [] := by unfold preB; rw [if_neg om]
   rw [e, List.append_nil]; exact hbd
 refine c_skip (e_S (c_seq ?_))
 have ltT := hbT0.lt
 have ltt := hbtg0.lt
 have ltH := hbH0.lt
 have ltG := hbG0.lt
 have nSs : bS ≠ bs := fun e => absurd (blk_type (e ▸ hbS) hbs) dE
 have nVs : bV ≠ bs := fun e => absurd (blk_type (e ▸ hbV) hbs) dE
 refine c_region (wl (r_ld1 (v := .slice _ _ _) U82 rfl rfl (hbS.cell rfl)) (wmI rfl (wl (r_ia (i := t) U82 sz4_GLoose rfl rfl ht rfl) ?_)))
 refine wl_st1 (v := .bool _) hbs rfl rfl sz4_GLoose (by rw [row_size]; omega) rfl row_set (fun w15 hq hs => ?_)
 replace hB := hB.tr1 hs ls
 replace hbT := hbT.tr1 hs om
 replace hbtg := hbtg.tr1 hs om
 replace hbH := hbH.tr1 hs om
 replace hbG := hbG.tr1 hs om
 replace hbS := hbS.tr1 hs om
 replace hbV := hbV.tr1 hs om
 replace hbd := hbd.tr1 hs hbs dE (by first | omega | assumption)
 clear hs
 replace hbs := hq
 rw [row_setB] at hbs
 have hLI := (wN_both hW mf).2 sn pr t hl ht hwi hs
 have hst1 := hst hs
 refine x_nil (e_S (c_seq ?_))
 refine c_tail 11 kR kR (fun w16 hs => ?_)
 replace hB := hB.tr0 hs
 replace hbT := hbT.tr0 hs
 replace hbtg := hbtg.tr0 hs
 replace hbH := hbH.tr0 hs
 replace hbG := hbG.tr0 hs
 replace hbS := hbS.tr0 hs
 replace hbV := hbV.tr0 hs
 replace hbs := hbs.tr0 hs
 replace hbd := hbd.tr0 hs
 clear hs
 refine ws (r_fa U25 sz22_GLoose dE rfl rfl rfl) (ws (r_ld1 (v := .slice _ _ _) U22 rfl rfl (hbH.cell rfl)) (ws (r_fa U28 sz26 dE rfl rfl rfl) (ws (r_ld1 (v := .slice _ _ _) U26 rfl rfl (hbG.cell rfl)) (ws (r_mv (v := .int _ _) rfl) (ws (r_ia (i := t) U26 sz33 rfl rfl ht rfl) ?_)))))
 refine ws (r_fa U33 sz3_GLoose dE rfl rfl rfl) (ws (r_ld1 (v := .int _ _) U3 rfl rfl (hB.cell hnb (hnr 0 _ rfl))) (ws (r_ia (i := tn) U22 sz77_AWr rfl rfl htnl rfl) (ws (r_fa U77 sz9_AWr dE rfl rfl rfl) (ws (r_ld1 (v := .string _) U9 rfl rfl (hB.cell htb (htr 0 _ rfl))) (s_tail ?_)))))
 refine wl_cl fn89 (ws_any hbd (by rw [bc_len, ← bl_size, ← hnmB, List.length_append]; omega) (Bel.size hB)) rfl (fun e' w17 hr => ?_)
 obtain ⟨rfl, hbd2, hK⟩ := hr
 replace hB := hK.bel hB (Nat.le_refl _) lB
 replace hbS := hK.keep hbS dE hSB
 replace hbV := hK.keep hbV dE hVB
 replace hbs := hK.keep hbs dE hsB
 replace hbT := hbT0.bel hB
 replace hbtg := hbtg0.bel hB
 replace hbH := hbH0.bel hB
 replace hbG := hbG0.bel hB
 clear hbd
 have hbd : BldI w17 w0.heap.size bB (Lib.byteCells (tx ++ preB (tgs g t) ++ nmB l g t)) := by
   have h := hbd2
   rw [str_cells, cells_app, ← hnmB] at h; exact h
 clear hbd2 hK
 refine ⟨_, rfl, ?_⟩
 refine x_nil (e_S (c_seq (c_seq (c_region (wl (r_fa U28 sz26 dE rfl rfl rfl) ?_)))))
 refine wl (r_ld1 (v := .slice _ _ _) U26 rfl rfl (hbG.cell rfl)) (wmI rfl (wl (r_ia (i := t) U26 sz33 rfl rfl ht rfl) (wl (r_fa U33 sz31 dE rfl rfl rfl) (wl (r_ld1 (v := .slice _ _ _) U31 rfl rfl (hB.cell hnb (hnr 1 _ rfl))) (wl (r_len U31 rfl) ?_)))))
 refine wmI rfl (x_nil (e_S (c_block ?_)))
 refine c_loopS [8, 9, 49, 50, 51, 52, 53, 54, 55, 56, 57, 58, 59, 60, 61, 62, 63, 64, 65, 66, 67, 68, 69, 70, 71, 72, 73] (fun mm g1 w' => ∃ j : Nat, j ≤ (g[t]'ht).ln.length ∧ mm = (g[t]'ht).ln.length - j ∧ g1 49 = .int .i64 j ∧ Bel w0 w' ∧ Blk w' bS 82 #[.slice (some ⟨bs, 0, none⟩) g.length g.length] ∧ Blk w' bV 123 #[.func (.func 92) #[] #[.pointer (some ⟨bT, 0, none⟩), .pointer (some ⟨bB, 0, none⟩), .pointer (some ⟨bS, 0, none⟩), .pointer (some ⟨bH, 0, none⟩), .pointer (some ⟨bG, 0, none⟩), .pointer (some ⟨bV, 0, none⟩)]] ∧ Blk w' bs 4 (row g.length (fun x => .bool ((wL fs g (wN l fs g mf) t j (setB sn t)).2 x))) ∧ BldI w' w0.heap.size bB (Lib.byteCells (tx ++ preB (tgs g t) ++ nmB l g t ++ (wL fs g (wN l fs g mf) t j (setB sn t)).1))) ((g[t]'ht).ln.length) ?_ (fun m g7 w18 hI => ?_)
 ·
  exact ⟨0, Nat.zero_le _, rfl, rfl, hB, hbS, hbV, hbs, by rw [show (wL fs g (wN l fs g mf) t 0 (setB sn t)).1 = [] from rfl, List.append_nil]; exact hbd⟩
 obtain ⟨j, hj, hmj, h49, hB, hbS, hbV, hbs, hbd⟩ := hI
 have hbT := hbT0.bel hB
 have hbtg := hbtg0.bel hB
 have hbH := hbH0.bel hB
 have hbG := hbG0.bel hB
 refine c_know 49 (.int .i64 j) h49 nu (c_seq (c_region (wl (r_lss rfl rfl) (x_nil (e_S ?_)))))
 refine c_seq ?_
 refine c_ifd rfl (fun c50 => ?_) (fun c50 => ?_)
 ·
  have hjl : j < (g[t]'ht).ln.length := by omega
  have hjn : j < (nd g t).ln.length := by rw [nd_eq ht]; exact hjl
  obtain ⟨lb, lof, rfl, hlb, hlr⟩ := hln.at_ (Below.refl _ _ : Bel w0 w0) hjl
  have hlx : lnAt g t j = ((g[t]'ht).ln[j]'hjl) := by unfold lnAt; rw [nd_eq ht]; simp [List.getD, hjl]
  have hgl := hva.gok.ln t ht _ (List.getElem_mem hjl)
  obtain ⟨fi, hfi, hfl⟩ : ∃ z : Nat, ((g[t]'ht).ln[j]'hjl).1 = (z : Int) ∧ z < fs.length := ⟨(((g[t]'ht).ln[j]'hjl).1).toNat, by omega, by omega⟩
  obtain ⟨u, hu, hul⟩ : ∃ z : Nat, ((g[t]'ht).ln[j]'hjl).2 = (z : Int) ∧ z < g.length := ⟨(((g[t]'ht).ln[j]'hjl).2).toNat, by omega, by omega⟩
  obtain ⟨fb, fo, rfl, hfb, hfr2⟩ := hF.at_ (Below.refl _ _ : Bel w0 w0) hfl
  have hftB : ftB fs (lnAt g t j).1 = bl (fs[fi]'hfl).name := by
    unfold ftB bl ftAt
    rw [hlx, hfi]
    simp [List.getD, hfl]
  have hfn := hW.ft t j
  rw [hftB] at hfn
  have hun : (lnAt g t j).2.toNat = u := by rw [hlx, hu]; rfl
  obtain ⟨pr1, hw1, _, _, hl1⟩ := (hLI j om).child ht hs hjn
  rw [hun] at hw1
  have hl2 := hl1 hl
  have hle := (hLI j om).le
  have hsl : (sepB j).length ≤ 2 := by unfold sepB; split <;> simp
  have hq1 : (wL fs g (wN l fs g mf) t (j + 1) (setB sn t)).1 = (wL fs g (wN l fs g mf) t j (setB sn t)).1 ++ (sepB j ++ ftB fs (lnAt g t j).1 ++ [61] ++ (wN l fs g mf (wL fs g (wN l fs g mf) t j (setB sn t)).2 u).1) := by rw [← hun]; rfl
  have hq2 : (wL fs g (wN l fs g mf) t (j + 1) (setB sn t)).2 = (wN l fs g mf (wL fs g (wN l fs g mf) t j (setB sn t)).2 u).2 := by rw [← hun]; rfl
  refine c_skip (e_S (c_seq (c_block (c_seq (c_region ?_)))))
  refine wmI rfl (wl (r_ia (i := j) U31 sz30 rfl rfl om rfl) (wl (r_ldS U30 rfl rfl (hB.range hlb hlr) sz30) ?_))
  refine wl_al (cs := #[.int .i64 0, .int .i64 0]) ze30 rfl (fun b9 w19 hb9 hs hr => ?_)
  have or_bS_b9 : bS < b9 := nLL hbS.lt hr
  have or_bV_b9 : bV < b9 := nLL hbV.lt hr
  have or_bs_b9 : bs < b9 := nLL hbs.lt hr
  have or_hbd_b9 := (nLL hbd.lt hr)
  have or_bT_b9 : bT < b9 := nLL hbT.lt hr
  have or_bt_b9 : bt < b9 := nLL hbtg.lt hr
  have or_bH_b9 : bH < b9 := nLL hbH.lt hr
  have or_bG_b9 : bG < b9 := nLL hbG.lt hr
  have lo9 := nLT (Bel.size hB) hr
  replace hB := hB.tr0 hs
  replace hbS := hbS.tr0 hs
  replace hbV := hbV.tr0 hs
  replace hbs := hbs.tr0 hs
  replace hbd := hbd.tr0 hs
  replace hbT := hbT.tr0 hs
  replace hbtg := hbtg.tr0 hs
  replace hbH := hbH.tr0 hs
  replace hbG := hbG.tr0 hs
  clear hs
  clear hr
  refine waI rfl ?_
  refine wl_stW hb9 rfl rfl sz30 rfl oneA (fun w20 hq hs => ?_)
  replace hB := hB.tr1 hs lo9
  replace hbS := hbS.tr1 hs om
  replace hbV := hbV.tr1 hs om
  replace hbs := hbs.tr1 hs om
  replace hbd := hbd.tr1 hs hb9 dE (by first | omega | assumption)
  replace hbT := hbT.tr1 hs om
  replace hbtg := hbtg.tr1 hs om
  replace hbH := hbH.tr1 hs om
  replace hbG := hbG.tr1 hs om
  clear hs
  replace hb9 := hq
  refine x_nil (e_S (c_seq ?_))
  rw [hfi, hu] at hb9
  refine c_monoTO 14 [54, 55, 56, 57, 58, 59, 60, 61, 62, 63, 64, 65, 66, 67] (fun _ => false) (fun ix v wv => match ix with | 0 => ∃ b, v = .slice (some ⟨b, 0, none⟩) 2 2 ∧ w20.heap.size ≤ b ∧ Blk wv b 9 #[.string ⟨#[40]⟩, .string ⟨#[44, 32]⟩] | 1 => v = .int .i64 j | 2 => v = .int .i64 ((min j 1 : Nat) : Int) | 3 => ∃ b, v = .pointer (some ⟨b, 0 + min j 1 * 1, none⟩) ∧ Blk wv b 9 #[.string ⟨#[40]⟩, .string ⟨#[44, 32]⟩] | 4 => v = .string (sepS j) | 5 => v = .pointer (some ⟨bH, 0 + 1, none⟩) | 6 => v = .slice (some ⟨fb, fo, none⟩) fs.length d | 7 => v = .pointer (some ⟨b9, 0, none⟩) | 8 => v = .int .i64 ((fi : Nat) : Int) | 9 => v = .pointer (some ⟨fb, fo + fi * 3, none⟩) | 10 => v = .pointer (some ⟨fb, fo + fi * 3 + 0, none⟩) | 11 => v = .string (fs[fi]'hfl).name | 12 => v = .string (sepS j ++ (fs[fi]'hfl).name) | 13 => v = .string (sepS j ++ (fs[fi]'hfl).name ++ (⟨#[61]⟩ : ByteArray)) | _ => True) kR kR ?_ ?_ ?_
  ·
   intro ix v wv wv2 h hs
   match ix, h with
   | 0, h =>
    obtain ⟨b54, e54, lo54, hb54⟩ := (show ∃ b, v = .slice (some ⟨b, 0, none⟩) 2 2 ∧ w20.heap.size ≤ b ∧ Blk wv b 9 #[.string ⟨#[40]⟩, .string ⟨#[44, 32]⟩] from h)
    exact ⟨b54, e54, lo54, hb54.tr0 hs⟩
   | 1, h => exact h
   | 2, h => exact h
   | 3, h =>
    obtain ⟨b57, e57, hb57⟩ := (show ∃ b, v = .pointer (some ⟨b, 0 + min j 1 * 1, none⟩) ∧ Blk wv b 9 #[.string ⟨#[40]⟩, .string ⟨#[44, 32]⟩] from h)
    exact ⟨b57, e57, hb57.tr0 hs⟩
   | 4, h => exact h
   | 5, h => exact h
   | 6, h => exact h
   | 7, h => exact h
   | 8, h => exact h
   | 9, h => exact h
   | 10, h => exact h
   | 11, h => exact h
   | 12, h => exact h
   | 13, h => exact h
   | _ + 14, h => exact trivial
  ·
   intro ix o hix hoq gg wx hs hd hdis
   match ix, hix, hoq with
   | 0, _, hoq =>
    obtain rfl := sI hoq
    have hs0 := hs
    clear hs
    refine os_wl (fun ops Q K => ?_)
    refine wl_bs (cs := #[_, _]) [(0, .string _), (1, .string _)] rfl Tryd.underlying83 sz9_AWr ze9 dE dE kR rfl (fun b54 w21 hb54 hs hr => ?_)
    exact K _ _ ⟨hs, ⟨_, rfl, nLT hs0.size hr, hb54⟩, fun _ g hg => by cases hg; exact ⟨hr, hb54.lt⟩⟩
   | 1, _, hoq =>
    obtain rfl := sI hoq
    have hs0 := hs
    clear hs
    refine os_rv (r_mv (v := .int _ _) rfl) ⟨Same.refl _ _, ?_, frsh_no⟩
    exact rfl
   | 2, _, hoq =>
    obtain rfl := sI hoq
    have hs0 := hs
    clear hs
    have d1 : gg 55 = .int .i64 j := hd 1 (dep_of kR)
    have e55 := d1
    refine os_know 55 (.int .i64 j) e55 nu ?_
    refine os_rv (r_minN rfl rfl) ⟨Same.refl _ _, ?_, frsh_no⟩
    exact rfl
   | 3, _, hoq =>
    obtain rfl := sI hoq
    have hs0 := hs
    clear hs
    have d0 : ∃ b, gg 54 = .slice (some ⟨b, 0, none⟩) 2 2 ∧ w20.heap.size ≤ b ∧ Blk wx b 9 #[.string ⟨#[40]⟩, .string ⟨#[44, 32]⟩] := hd 0 (dep_of kR)
    obtain ⟨b54, e54, lo54, hb54⟩ := d0
    have d2 : gg 56 = .int .i64 ((min j 1 : Nat) : Int) := hd 2 (dep_of kR)
    have e56 := d2
    refine os_know 54 (.slice (some ⟨b54, 0, none⟩) 2 2) e54 nu (os_know 56 (.int .i64 ((min j 1 : Nat) : Int)) e56 nu ?_)
    refine os_rv (r_ia (i := (min j 1)) Tryd.underlying83 sz9_AWr rfl rfl om rfl) ⟨Same.refl _ _, ?_, frsh_no⟩
    exact ⟨_, rfl, hb54⟩
   | 4, _, hoq =>
    obtain rfl := sI hoq
    have hs0 := hs
    clear hs
    have d3 : ∃ b, gg 57 = .pointer (some ⟨b, 0 + min j 1 * 1, none⟩) ∧ Blk wx b 9 #[.string ⟨#[40]⟩, .string ⟨#[44, 32]⟩] := hd 3 (dep_of kR)
    obtain ⟨b57, e57, hb57⟩ := d3
    refine os_know 57 (.pointer (some ⟨b57, 0 + min j 1 * 1, none⟩)) e57 nu ?_
    refine os_rv (r_ld1 (v := .string _) U9 rfl rfl (hb57.cell sep_at)) ⟨Same.refl _ _, ?_, frsh_no⟩
    exact rfl
   | 5, _, hoq =>
    obtain rfl := sI hoq
    have hs0 := hs
    replace hbH := hbH.tr0 hs
    clear hs
    refine os_rv (r_fa U25 sz23_GLoose dE rfl rfl rfl) ⟨Same.refl _ _, ?_, frsh_no⟩
    exact rfl
   | 6, _, hoq =>
    obtain rfl := sI hoq
    have hs0 := hs
    replace hbH := hbH.tr0 hs
    clear hs
    have d5 : gg 59 = .pointer (some ⟨bH, 0 + 1, none⟩) := hd 5 (dep_of kR)
    have e59 := d5
    refine os_know 59 (.pointer (some ⟨bH, 0 + 1, none⟩)) e59 nu ?_
    refine os_rv (r_ld1 (v := .slice _ _ _) U23 rfl rfl (hbH.cell rfl)) ⟨Same.refl _ _, ?_, frsh_no⟩
    exact rfl
   | 7, _, hoq =>
    obtain rfl := sI hoq
    have hs0 := hs
    replace hb9 := hb9.tr0 hs
    clear hs
    refine os_rv (r_fa U30 sz3_GLoose dE rfl rfl rfl) ⟨Same.refl _ _, ?_, frsh_no⟩
    exact rfl
   | 8, _, hoq =>
    obtain rfl := sI hoq
    have hs0 := hs
    replace hb9 := hb9.tr0 hs
    clear hs
    have d7 : gg 61 = .pointer (some ⟨b9, 0, none⟩) := hd 7 (dep_of kR)
    have e61 := d7
    refine os_know 61 (.pointer (some ⟨b9, 0, none⟩)) e61 nu ?_
    refine os_rv (r_ld1 (v := .int _ _) U3 rfl rfl (hb9.cell rfl)) ⟨Same.refl _ _, ?_, frsh_no⟩
    exact rfl
   | 9, _, hoq =>
    obtain rfl := sI hoq
    have hs0 := hs
    clear hs
    have d6 : gg 60 = .slice (some ⟨fb, fo, none⟩) fs.length d := hd 6 (dep_of kR)
    have e60 := d6
    have d8 : gg 62 = .int .i64 ((fi : Nat) : Int) := hd 8 (dep_of kR)
    have e62 := d8
    refine os_know 60 (.slice (some ⟨fb, fo, none⟩) fs.length d) e60 nu (os_know 62 (.int .i64 ((fi : Nat) : Int)) e62 nu ?_)
    refine os_rv (r_ia (i := fi) U23 sz63_GVal rfl rfl hfl rfl) ⟨Same.refl _ _, ?_, frsh_no⟩
    exact rfl
   | 10, _, hoq =>
    obtain rfl := sI hoq
    have hs0 := hs
    clear hs
    have d9 : gg 63 = .pointer (some ⟨fb, fo + fi * 3, none⟩) := hd 9 (dep_of kR)
    have e63 := d9
    refine os_know 63 (.pointer (some ⟨fb, fo + fi * 3, none⟩)) e63 nu ?_
    refine os_rv (r_fa U63 sz9_AWr dE rfl rfl rfl) ⟨Same.refl _ _, ?_, frsh_no⟩
    exact rfl
   | 11, _, hoq =>
    obtain rfl := sI hoq
    have hs0 := hs
    replace hB := hB.tr0 hs
    clear hs
    have d10 : gg 64 = .pointer (some ⟨fb, fo + fi * 3 + 0, none⟩) := hd 10 (dep_of kR)
    have e64 := d10
    refine os_know 64 (.pointer (some ⟨fb, fo + fi * 3 + 0, none⟩)) e64 nu ?_
    refine os_rv (r_ld1 (v := .string _) U9 rfl rfl (hB.cell hfb (hfr2 0 _ rfl))) ⟨Same.refl _ _, ?_, frsh_no⟩
    exact rfl
   | 12, _, hoq =>
    obtain rfl := sI hoq
    have hs0 := hs
    clear hs
    have d4 : gg 58 = .string (sepS j) := hd 4 (dep_of kR)
    have e58 := d4
    have d11 : gg 65 = .string (fs[fi]'hfl).name := hd 11 (dep_of kR)
    have e65 := d11
    refine os_know 58 (.string (sepS j)) e58 nu (os_know 65 (.string (fs[fi]'hfl).name) e65 nu ?_)
    refine os_rv (r_addS rfl rfl (add_ok (a := 2) (b := 30) hsl hfn dE)) ⟨Same.refl _ _, ?_, frsh_no⟩
    exact rfl
   | 13, _, hoq =>
    obtain rfl := sI hoq
    have hs0 := hs
    clear hs
    have d12 : gg 66 = .string (sepS j ++ (fs[fi]'hfl).name) := hd 12 (dep_of kR)
    have e66 := d12
    refine os_know 66 (.string (sepS j ++ (fs[fi]'hfl).name)) e66 nu ?_
    refine os_rv (r_addS rfl rfl (add_ok (a := 32) (b := 1) (by rw [bl_app, List.length_append]; exact Nat.add_le_add hsl hfn) (Nat.le_refl _) dE)) ⟨Same.refl _ _, ?_, frsh_no⟩
    exact rfl
   | _ + 14, hix, _ => exact absurd hix om
  intro gg w22 hs hR hdis
  have hs0 := hs
  replace hB := hB.tr0 hs
  replace hbS := hbS.tr0 hs
  replace hbV := hbV.tr0 hs
  replace hbs := hbs.tr0 hs
  replace hbd := hbd.tr0 hs
  replace hbT := hbT.tr0 hs
  replace hbtg := hbtg.tr0 hs
  replace hbH := hbH.tr0 hs
  replace hbG := hbG.tr0 hs
  replace hb9 := hb9.tr0 hs
  clear hs
  have d13 : gg 67 = .string (sepS j ++ (fs[fi]'hfl).name ++ (⟨#[61]⟩ : ByteArray)) := hR 13 dE
  have e67 := d13
  refine wl_know 67 (.string (sepS j ++ (fs[fi]'hfl).name ++ (⟨#[61]⟩ : ByteArray))) e67 nu ?_
  refine wl_cl fn89 (ws_any hbd (by rw [bc_len, ← bl_size, bl_app, bl_app]; simp only [List.length_append]; show _ + ((sepB j).length + _ + 1) ≤ _; omega) (Bel.size hB)) rfl (fun e' w23 hr => ?_)
  obtain ⟨rfl, hbd2, hK⟩ := hr
  replace hB := hK.bel hB (Nat.le_refl _) lB
  replace hbS := hK.keep hbS dE hSB
  replace hbV := hK.keep hbV dE hVB
  replace hbs := hK.keep hbs dE hsB
  replace hbT := hbT0.bel hB
  replace hbtg := hbtg0.bel hB
  replace hbH := hbH0.bel hB
  replace hbG := hbG0.bel hB
  replace hb9 := hK.keep hb9 dE om
  clear hbd
  have hbd : BldI w23 w0.heap.size bB (Lib.byteCells (tx ++ preB (tgs g t) ++ nmB l g t ++ (wL fs g (wN l fs g mf) t j (setB sn t)).1 ++ (sepB j ++ ftB fs (lnAt g t j).1 ++ [61]))) := by
    have h := hbd2
    rw [str_cells, cells_app, bl_app, bl_app, ← hftB] at h; exact h
  clear hbd2 hK
  refine ⟨_, rfl, ?_⟩
  refine x_nil (e_S (c_region (wl (r_ld1 (v := .func _ _ _) U123 rfl rfl (hbV.cell rfl)) (wl (r_fa U30 sz3_GLoose dE rfl rfl rfl) (wl (r_ld1 (v := .int _ _) U3 rfl rfl (hb9.cell rfl)) ?_)))))
  refine wl_clv rfl fn92 (IH (wL fs g (wN l fs g mf) t j (setB sn t)).2 pr1 u _ _ hl2 hul hw1 (by simp only [List.length_append, List.length_cons, List.length_nil]; rw [hftB]; omega) hB hbS hbV hbs hbd) rfl rfl (fun e' w24 hr => ?_)
  obtain ⟨rfl, hB2, hbS2, hbV2, hbs2, hbd2⟩ := hr
  clear hB hbS hbV hbs hbd
  have hB := hB2
  have hbS := hbS2
  have hbV := hbV2
  have hbs := hbs2
  replace hbT := hbT0.bel hB
  replace hbtg := hbtg0.bel hB
  replace hbH := hbH0.bel hB
  replace hbG := hbG0.bel hB
  rw [← hq2] at hbs
  have hbd : BldI w24 w0.heap.size bB (Lib.byteCells (tx ++ preB (tgs g t) ++ nmB l g t ++ (wL fs g (wN l fs g mf) t (j + 1) (setB sn t)).1)) := by rw [hq1]; simpa only [List.append_assoc] using hbd2
  refine ⟨_, rfl, ?_⟩
  refine x_nil (e_B (e_S (c_region (wl (r_add rfl rfl rfl om) (wmI rfl ?_)))))
  refine x_nil (e_LS ((g[t]'ht).ln.length - (j + 1)) om agA ?_)
  exact ⟨j + 1, by omega, rfl, rfl, hB, hbS, hbV, hbs, hbd⟩
 have hjx : j = (g[t]'ht).ln.length := by omega
 refine c_exit (e_Sx (e_LSx (e_Bx (e_S (c_seq ?_)))))
 refine c_region (wl (r_fa U28 sz26 dE rfl rfl rfl) (wl (r_ld1 (v := .slice _ _ _) U26 rfl rfl (hbG.cell rfl)) (wmI rfl (wl (r_ia (i := t) U26 sz33 rfl rfl ht rfl) (wl (r_fa U33 sz31 dE rfl rfl rfl) ?_)))))
 refine wl (r_ld1 (v := .slice _ _ _) U31 rfl rfl (hB.cell hnb (hnr 1 _ rfl))) (wl (r_len U31 rfl) (wl (r_gtr rfl rfl) (x_nil (e_S ?_))))
 refine c_ifd rfl (fun c81 => ?_) (fun c81 => ?_)
 ·
  have hn0 : 0 < (nd g t).ln.length := by rw [nd_eq ht]; omega
  refine c_region ?_
  refine wl_cl fn90 (wb_any (c := 41) hbd (by have hle := (hLI j (by rw [nd_eq ht]; omega)).le; rw [bc_len]; simp only [List.length_append]; omega) (Bel.size hB)) rfl (fun e' w25 hr => ?_)
  obtain ⟨rfl, hbd2, hK⟩ := hr
  replace hB := hK.bel hB (Nat.le_refl _) lB
  replace hbS := hK.keep hbS dE hSB
  replace hbV := hK.keep hbV dE hVB
  replace hbs := hK.keep hbs dE hsB
  replace hbT := hbT0.bel hB
  replace hbtg := hbtg0.bel hB
  replace hbH := hbH0.bel hB
  replace hbG := hbG0.bel hB
  clear hbd
  have hbd : BldI w25 w0.heap.size bB (Lib.byteCells (tx ++ preB (tgs g t) ++ nmB l g t ++ (wL fs g (wN l fs g mf) t j (setB sn t)).1 ++ [41])) := by
    have h := hbd2
    rw [show (41 : Int) = ((41 : UInt8).toNat : Int) from rfl, cells_byte] at h; exact h
  clear hbd2 hK
  refine ⟨_, rfl, ?_⟩
  refine x_nil (fin0 (.inr rfl) rfl  ?_)
  have hje : (nd g t).ln.length = j := by rw [nd_eq ht, hjx]
  exact ⟨rfl, hB, hbS, hbV, by rw [wN_new hs, hje]; exact hbs, by
    rw [wN_new hs, hje]
    have e : cloB j = [41] := by unfold cloB; rw [if_pos (by rw [← hje]; exact hn0)]
    rw [e]
    simpa only [List.append_assoc] using hbd⟩
 have hn0 : ¬ 0 < (nd g t).ln.length := by rw [nd_eq ht]; omega
 refine c_skip (fin0 (.inr rfl) rfl  ?_)
 have hje : (nd g t).ln.length = j := by rw [nd_eq ht, hjx]
 exact ⟨rfl, hB, hbS, hbV, by rw [wN_new hs, hje]; exact hbs, by
   rw [wN_new hs, hje]
   have e : cloB j = [] := by unfold cloB; rw [if_neg (by rw [← hje]; exact hn0)]
   rw [e]
   simpa only [List.append_assoc, List.append_nil] using hbd⟩
theorem write_any {w0 : World} {A B G : Option Addr} {c d cg bT bt bH bG bB bS bV bs : Nat} {l : List Ty} {fs : List Ft} {g : List Nd} (hT : TypesIn w0 A l) (hF : FeatsIn w0 B fs) (hG : NodesIn w0 G g) (hva : GV l fs g) (hW : GW l fs g) (hbT0 : Blk w0 bT 43 #[.slice (some ⟨bt, 0, none⟩) g.length g.length]) (hbtg0 : Blk w0 bt 3 (row g.length (fun x => .int .i64 ((tgs g x : Nat) : Int)))) (hbH0 : Blk w0 bH 25 #[.slice A l.length c, .slice B fs.length d]) (hbG0 : Blk w0 bG 28 #[.slice G g.length cg]) (hSB : bS ≠ bB) (hVB : bV ≠ bB) (hsB : bs ≠ bB) (_lS : w0.heap.size ≤ bS) (_lV : w0.heap.size ≤ bV) (ls : w0.heap.size ≤ bs) (lB : w0.heap.size ≤ bB) : ∀ (m : Nat) (sn : Nat → Bool) (pr : Nat → Nat) (t : Nat) (tx : List UInt8) (w : World), lackN g.length sn < m → t < g.length → WI g sn pr t → tx.length + 4 + 2000 * lackN g.length sn ≤ 1000000 → Bel w0 w → Blk w bS 82 #[.slice (some ⟨bs, 0, none⟩) g.length g.length] → Blk w bV 123 #[.func (.func 92) #[] #[.pointer (some ⟨bT, 0, none⟩), .pointer (some ⟨bB, 0, none⟩), .pointer (some ⟨bS, 0, none⟩), .pointer (some ⟨bH, 0, none⟩), .pointer (some ⟨bG, 0, none⟩), .pointer (some ⟨bV, 0, none⟩)]] → Blk w bs 4 (row g.length (fun x => .bool (sn x))) → BldI w w0.heap.size bB (Lib.byteCells (tx)) → Calls Tryd.prog 92 #[.int .i64 (t : Nat), .pointer (some ⟨bT, 0, none⟩), .pointer (some ⟨bB, 0, none⟩), .pointer (some ⟨bS, 0, none⟩), .pointer (some ⟨bH, 0, none⟩), .pointer (some ⟨bG, 0, none⟩), .pointer (some ⟨bV, 0, none⟩)] w fun e w' => e = .returned (.tuple #[]) ∧ Bel w0 w' ∧ Blk w' bS 82 #[.slice (some ⟨bs, 0, none⟩) g.length g.length] ∧ Blk w' bV 123 #[.func (.func 92) #[] #[.pointer (some ⟨bT, 0, none⟩), .pointer (some ⟨bB, 0, none⟩), .pointer (some ⟨bS, 0, none⟩), .pointer (some ⟨bH, 0, none⟩), .pointer (some ⟨bG, 0, none⟩), .pointer (some ⟨bV, 0, none⟩)]] ∧ Blk w' bs 4 (row g.length (fun x => .bool ((wN l fs g m sn t).2 x))) ∧ BldI w' w0.heap.size bB (Lib.byteCells (tx ++ (wN l fs g m sn t).1)) := by
  intro m
  induction m with
  | zero => intro sn pr t tx w hl; omega
  | succ m ih => intro sn pr t tx w hl ht hw hlen hB h1 h2 h3 h4; exact write_step hT hF hG hva hW hbT0 hbtg0 hbH0 hbG0 hSB hVB hsB _lS _lV ls lB hl ht hw hlen hB h1 h2 h3 h4 ih
end Go.Proofs.YtegngekpmpdngaaDoor
