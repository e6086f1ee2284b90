/- What these functions of the program compute, at every world: glosswright/glosswrightref3.MeaningFault, glosswright/glosswrightref3.LexFault, glosswright/glosswrightref3.RuleFault. What these functions of the program compute, at every world: glosswright/glosswrightref3.GrammarFault. What these functions of the program compute, at every world: glosswright/glosswrightlaw4.GrammarValidateMatchesSpec. Derivation trees as plain values, how a world holds them, and what is wrong with them. No program in sight. -/
import Derived.Test.YtfkbjncidemcbaaDoorU
import Derived.Test.YtfkbjncidemcbaaDoorGEn
import Derived.Test.YtfkbjncidemcbaaDoorNN1
import Derived.Test.YtfkbjncidemcbaaDoorNTf
import Derived.Test.YtfkbjncidemcbaaDoorDfs
import Derived.Test.YtfkbjncidemcbaaDoorWRc
import Derived.Test.YtfkbjncidemcbaaDoorGrm
namespace Go.Proofs.YtfkbjncidemcbaaDoor
open Go.RowKit
theorem fn15:qj Tryd.prog 15=true:=by kernel_rfl
theorem fn73:qj Tryd.prog 73=true:=by kernel_rfl
theorem fn74:qj Tryd.prog 74=true:=by kernel_rfl
theorem fn75:qj Tryd.prog 75=true:=by kernel_rfl
theorem fn95:qj Tryd.prog 95=true:=by kernel_rfl
theorem Nj (SA BA:Option Addr) (cs mB:Nat) (t:Tm) (w:World) (hS:SimsIn w SA t.type.args) (hT:TmsIn w BA t.args):Calls Tryd.prog 74 #[.agg #[.int .i64 (t).kind,.string (t).name,.int .i64 (t).index,.string (t).type.base,.slice SA (t).type.args.length cs,.slice BA (t).args.length mB]] w fun e w'=>e= .returned (flV (tmF t))∧Bel w w':=by
 refine enter Tryd.func74 Tryd.ntmps74 rfl (Nat.le_of_ble_eq_true rfl) ?_;have hB:Bel w w:=Below.refl _ _;refine zz (z4 ?_);refine yx (v:= .agg #[_,_,_,_,_,_]) (cs:=#[_,_,_,_,_,_]) rfl rfl (fun b1 w1 hb1 hs hr=>?_);replace hB:=hB.tr0 hs;refine xQ (cs:=#[.int .i64 0,.int .i64 0]) x7 rfl (fun b2 w2 hb2 hs hr=>?_);have lo2:=nLT (Bel.size hB) hr;replace hB:=hB.tr0 hs;replace hb1:=hb1.tr0 hs;refine zq (e_S (zz (z4 (wl (zW U39 rfl rfl hb1.range0 uK) ?_))));refine qJ fn95 (TX SA BA cs mB t _ (hS.mono hB) (hT.mono hB)) rfl (fun e' w3 hr=>?_);obtain⟨rfl,hs⟩:=hr;replace hs:=sB hs;replace hB:=hB.tr0 hs;replace hb2:=hb2.tr0 hs;refine⟨_,rfl,?_⟩;refine qz hb2 rfl rfl zk rfl qX (fun w4 hq hs=>?_);replace hB:=hB.tr1 hs lo2;replace hb2:=hq;refine zq (e_S (q8 (qK (.inl rfl) rfl (qq U43 rfl rfl hb2.range0 zk) ?_)));exact⟨xj rfl,hB⟩
theorem lexr_any (A B G SA BA:Option Addr) (c d cg cs mB:Nat) (l:List Ty) (fs:List Ft) (x:Lx) (w:World) (hTy:TypesIn w A l) (hv:VT l) (h60:l.length≤60) (hF:FeatsIn w B fs) (hfo:FOk l.length fs) (hG:NodesIn w G x.gr) (hS:SimsIn w SA x.mean.type.args) (hT:TmsIn w BA x.mean.args) (hsz:x.word.size < 9223372036854775807):Calls Tryd.prog 45 #[.agg #[.slice A l.length c,.slice B fs.length d],.agg #[.string (x).word,.slice G (x).gr.length cg,.int .i64 (x).wt,.int .i64 ((x).mean).kind,.string ((x).mean).name,.int .i64 ((x).mean).index,.string ((x).mean).type.base,.slice SA ((x).mean).type.args.length cs,.slice BA ((x).mean).args.length mB]] w fun e w'=>e= .returned (.int .i64 (M4 l fs x))∧Bel w w':=by
 refine enter Tryd.func45 Tryd.ntmps45 rfl (Nat.le_of_ble_eq_true rfl) ?_;have hB:Bel w w:=Below.refl _ _;refine zz (z4 ?_);refine yx (v:= .agg #[_,_]) (cs:=#[_,_]) rfl rfl (fun b2 w1 hb2 hs hr=>?_);replace hB:=hB.tr0 hs;refine yx (v:= .agg #[_,_,_,_,_,_,_,_,_]) (cs:=#[_,_,_,_,_,_,_,_,_]) rfl rfl (fun b3 w2 hb3 hs hr=>?_);replace hB:=hB.tr0 hs;replace hb2:=hb2.tr0 hs;refine waI rfl (zq (e_S (zz (zz (z4 (wl (zV U56 vX dE rfl rfl rfl) (wl (zQ (v:= .string _) U9 rfl rfl (hb3.cell rfl)) ?_)))))));refine qJ fn75 (Hq x.word _ hsz) rfl (fun e' w3 hr=>?_);obtain⟨rfl,hs⟩:=hr;replace hs:=sB hs;replace hB:=hB.tr0 hs;replace hb2:=hb2.tr0 hs;replace hb3:=hb3.tr0 hs;refine⟨_,rfl,?_⟩;refine wl (vY rfl) (zq (e_S ?_));refine kZ rfl (fun c9=>?_) (fun c9=>?_)
 ·have hwd:kW x.word=false:=by simpa using c9
  refine zz (z4 (waI rfl (zq (e_S (q8 (qQ (qK (.inl rfl) rfl rfl ?_)))))));exact⟨Zv (WZ hwd),hB⟩
 have hwd:kW x.word=true:=by simpa using c9
 refine zK (e_S (zz (zz ?_)));refine y7 [10,11,12,13,14,15,16,17] 17 (.bool (decide (x.wt < 0∨1000000 < x.wt))) nu ?_ (fun gq=>?_)
 ·refine z4 (wl (zV U56 zZ dE rfl rfl rfl) (wl (zQ (v:= .int _ _) U3 rfl rfl (hb3.cell rfl)) (wl (x9 rfl rfl) (wmB rfl ?_))));refine zJ 13 rfl (fun g13=>?_) (fun g13=>?_)
  ·refine zy 13 rfl rfl rfl (zy 13 rfl rfl rfl (zy 13 rfl rfl rfl (wl (qw (v:= .bool _) rfl rfl) ?_)));refine zq (e_R ⟨rfl,agA,?_⟩);exact clA
  refine zw 13 rfl rfl (wl (zV U56 zZ dE rfl rfl rfl) (zw 13 rfl rfl (wl (zQ (v:= .int _ _) U3 rfl rfl (hb3.cell rfl)) (zw 13 rfl rfl (wl (yX rfl rfl) (wl (qV (v:= .bool _) rfl rfl) ?_))))));refine zq (e_R ⟨rfl,agA,?_⟩);exact clA
 refine e_S ?_;refine qx rfl (fun c17=>?_) (fun c17=>?_)
 ·refine zz (z4 (waI rfl (zq (e_S (q8 (qQ (qK (.inl rfl) rfl rfl ?_)))))));exact⟨Zv (lx_bad hwd c17),hB⟩
 refine zK (e_S (zz (zz (z4 (wl (zW U25 rfl rfl hb2.range0 Q7) (wl (zV U56 Qv dE rfl rfl rfl) (wl (zW U30 rfl rfl (hb3.sub (n:=1) (xs:=[_]) rfl) Qv) ?_)))))));refine qJ fn15 (DY A B G c d cg l fs x.gr _ (hTy.mono hB) hv h60 (hF.mono hB) (hG.mono hB) hfo) rfl (fun e' w4 hr=>?_);obtain⟨rfl,hs⟩:=hr;replace hs:=sB hs;replace hB:=hB.tr0 hs;replace hb2:=hb2.tr0 hs;replace hb3:=hb3.tr0 hs;refine⟨_,rfl,?_⟩;refine yW (cs:=#[.int .i64 0,.int .i64 0]) x7 rfl (fun _=>rfl) (fun _=>rfl) zk rfl qX (fun b5 w6 hb5 hs hr=>?_);replace hB:=hB.tr0 hs;replace hb3:=hb3.tr0 hs;refine zq (e_S (zz (z4 (wl (zV U43 zZ dE rfl rfl rfl) (wl (zQ (v:= .int _ _) U3 rfl rfl (hb5.cell rfl)) (wl (yY rfl rfl) (zq (e_S ?_))))))));refine qx rfl (fun c24=>?_) (fun c24=>?_)
 ·refine zz (z4 (wl (zV U43 zZ dE rfl rfl rfl) (wl (zQ (v:= .int _ _) U3 rfl rfl (hb5.cell rfl)) (waI rfl (zq (e_S (q8 (qQ (qK (.inl rfl) rfl rfl ?_)))))))));exact⟨Zv (lx_gr hwd c17 c24),hB⟩
 have hin:=Decidable.not_not.1 c24;refine zK (e_S (zz (z4 (wl (zV U56 uK dE rfl rfl rfl) (wl (zW U39 rfl rfl (hb3.sub (n:=6) (xs:=[_,_,_,_,_,_]) rfl) uK) ?_)))));refine qJ fn74 (Nj SA BA cs mB x.mean _ (hS.mono hB) (hT.mono hB)) rfl (fun e' w7 hr=>?_);obtain⟨rfl,hs⟩:=hr;replace hs:=sB hs;replace hB:=hB.tr0 hs;refine⟨_,rfl,?_⟩;refine wl (EJ (v:= .int _ _) U43 rfl U3 rfl rfl rfl) (waI rfl (zq (e_S (q8 (qK (.inl rfl) rfl rfl ?_)))));exact⟨Zv (lx_ok hwd c17 hin),hB⟩
theorem G1 (A B G SA BA:Option Addr) (c d cg cs mB:Nat) (l:List Ty) (fs:List Ft) (r:Rl) (w:World) (hTy:TypesIn w A l) (hv:VT l) (h60:l.length≤60) (hF:FeatsIn w B fs) (hfo:FOk l.length fs) (hG:NodesIn w G r.gr) (hS:SimsIn w SA r.mean.type.args) (hT:TmsIn w BA r.mean.args):Calls Tryd.prog 44 #[.agg #[.slice A l.length c,.slice B fs.length d],.agg #[.string (r).name,.slice G (r).gr.length cg,.int .i64 (r).kids,.int .i64 (r).wt,.int .i64 ((r).mean).kind,.string ((r).mean).name,.int .i64 ((r).mean).index,.string ((r).mean).type.base,.slice SA ((r).mean).type.args.length cs,.slice BA ((r).mean).args.length mB]] w fun e w'=>e= .returned (.int .i64 (XW l fs r))∧Bel w w':=by
 refine enter Tryd.func44 Tryd.ntmps44 rfl (Nat.le_of_ble_eq_true rfl) ?_;have hB:Bel w w:=Below.refl _ _;refine zz (z4 ?_);refine yx (v:= .agg #[_,_]) (cs:=#[_,_]) rfl rfl (fun b2 w1 hb2 hs hr=>?_);replace hB:=hB.tr0 hs;refine yx (v:= .agg #[_,_,_,_,_,_,_,_,_,_]) (cs:=#[_,_,_,_,_,_,_,_,_,_]) rfl rfl (fun b3 w2 hb3 hs hr=>?_);replace hB:=hB.tr0 hs;replace hb2:=hb2.tr0 hs;refine waI rfl (zq (e_S (zz (zz ?_))));refine y7 [7,8,9,10,11,12,13,14,15,16,17,18,19,20,21,22,23,24] 24 (.bool (decide (r.kids < 1∨3 < r.kids∨r.wt < 0∨1000000 < r.wt))) nu ?_ (fun gq=>?_)
 ·refine z4 (wl (zV U41 zZ dE rfl rfl rfl) (wl (zQ (v:= .int _ _) U3 rfl rfl (hb3.cell rfl)) (wl (x9 rfl rfl) (wmB rfl ?_))));refine zJ 10 rfl (fun g10=>?_) (fun g10=>?_)
  ·refine zy 10 rfl rfl rfl (zy 10 rfl rfl rfl (zy 10 rfl rfl rfl (wl (qw (v:= .bool _) rfl rfl) (wmB rfl (zy 15 rfl rfl rfl (zy 15 rfl rfl rfl (zy 15 rfl rfl rfl (wl (qw (v:= .bool _) rfl rfl) (wmB rfl (zy 20 rfl rfl rfl (zy 20 rfl rfl rfl (zy 20 rfl rfl rfl (wl (qw (v:= .bool _) rfl rfl) ?_)))))))))))));refine zq (e_R ⟨rfl,agA,?_⟩);exact clA
  refine zw 10 rfl rfl (wl (zV U41 zZ dE rfl rfl rfl) (zw 10 rfl rfl (wl (zQ (v:= .int _ _) U3 rfl rfl (hb3.cell rfl)) (zw 10 rfl rfl (wl (yX rfl rfl) (wl (qV (v:= .bool _) rfl rfl) (wmB rfl ?_)))))));refine zJ 15 rfl (fun g15=>?_) (fun g15=>?_)
  ·refine zy 15 rfl rfl rfl (zy 15 rfl rfl rfl (zy 15 rfl rfl rfl (wl (qw (v:= .bool _) rfl rfl) (wmB rfl (zy 20 rfl rfl rfl (zy 20 rfl rfl rfl (zy 20 rfl rfl rfl (wl (qw (v:= .bool _) rfl rfl) ?_))))))));refine zq (e_R ⟨rfl,agA,?_⟩);exact clA
  refine zw 15 rfl rfl (wl (zV U41 zZ dE rfl rfl rfl) (zw 15 rfl rfl (wl (zQ (v:= .int _ _) U3 rfl rfl (hb3.cell rfl)) (zw 15 rfl rfl (wl (x9 rfl rfl) (wl (qV (v:= .bool _) rfl rfl) (wmB rfl ?_)))))));refine zJ 20 rfl (fun g20=>?_) (fun g20=>?_)
  ·refine zy 20 rfl rfl rfl (zy 20 rfl rfl rfl (zy 20 rfl rfl rfl (wl (qw (v:= .bool _) rfl rfl) ?_)));refine zq (e_R ⟨rfl,agA,?_⟩);exact clA
  refine zw 20 rfl rfl (wl (zV U41 zZ dE rfl rfl rfl) (zw 20 rfl rfl (wl (zQ (v:= .int _ _) U3 rfl rfl (hb3.cell rfl)) (zw 20 rfl rfl (wl (yX rfl rfl) (wl (qV (v:= .bool _) rfl rfl) ?_))))));refine zq (e_R ⟨rfl,agA,?_⟩);exact clA
 refine e_S ?_;refine qx rfl (fun c24=>?_) (fun c24=>?_)
 ·refine zz (z4 (waI rfl (zq (e_S (q8 (qQ (qK (.inl rfl) rfl rfl ?_)))))));exact⟨Zv (R8 c24),hB⟩
 refine zK (e_S (zz (zz (z4 (wl (zW U25 rfl rfl hb2.range0 Q7) (wl (zV U41 Qv dE rfl rfl rfl) (wl (zW U30 rfl rfl (hb3.sub (n:=1) (xs:=[_]) rfl) Qv) ?_)))))));refine qJ fn15 (DY A B G c d cg l fs r.gr _ (hTy.mono hB) hv h60 (hF.mono hB) (hG.mono hB) hfo) rfl (fun e' w3 hr=>?_);obtain⟨rfl,hs⟩:=hr;replace hs:=sB hs;replace hB:=hB.tr0 hs;replace hb2:=hb2.tr0 hs;replace hb3:=hb3.tr0 hs;refine⟨_,rfl,?_⟩;refine yW (cs:=#[.int .i64 0,.int .i64 0]) x7 rfl (fun _=>rfl) (fun _=>rfl) zk rfl qX (fun b5 w5 hb5 hs hr=>?_);replace hB:=hB.tr0 hs;replace hb3:=hb3.tr0 hs;refine zq (e_S (zz (z4 (wl (zV U43 zZ dE rfl rfl rfl) (wl (zQ (v:= .int _ _) U3 rfl rfl (hb5.cell rfl)) (wl (yY rfl rfl) (zq (e_S ?_))))))));refine qx rfl (fun c31=>?_) (fun c31=>?_)
 ·refine zz (z4 (wl (zV U43 zZ dE rfl rfl rfl) (wl (zQ (v:= .int _ _) U3 rfl rfl (hb5.cell rfl)) (waI rfl (zq (e_S (q8 (qQ (qK (.inl rfl) rfl rfl ?_)))))))));exact⟨Zv (rl_gr c24 c31),hB⟩
 have hin:=Decidable.not_not.1 c31;have hk0:=C4 (Mw hin);have h0:=hk0.pos;refine zK (e_S (zz (zz (z4 (wmI rfl (zq (e_S (zY ?_))))))));refine x8 [4,6,34,35,36,37,38,39,40,41,42,43,44,45,46,47] (fun m g w'=>∃ j:Nat,j≤4∧m=4 - j∧g 34= .int .i64 j∧Bel w w'∧Blk w' b3 41 #[.string (r).name,.slice G (r).gr.length cg,.int .i64 (r).kids,.int .i64 (r).wt,.int .i64 ((r).mean).kind,.string ((r).mean).name,.int .i64 ((r).mean).index,.string ((r).mean).type.base,.slice SA ((r).mean).type.args.length cs,.slice BA ((r).mean).args.length mB]∧∀ f,f < j→plN r.gr r.kids f=true) (4) ?_ (fun m g7 w6 hI=>?_)
 ·exact⟨0,by omega,rfl,rfl,hB,hb3,fun f hf=>by omega⟩
 obtain⟨j,hj,hm,h34,hB,hb3,hall⟩:=hI;refine qv 34 (.int .i64 j) h34 nu (zz (z4 (wl (x9 rfl rfl) (zq (e_S (zz ?_))))));refine qx rfl (fun c35=>?_) (fun c35=>?_)
 ·refine zK (e_S (zz (zY (zz (z4 (wmI rfl (waI rfl (zq (e_S (zz ?_))))))))));refine jv 10 [37,38,39,40,41,42,43,44,45,46] (fun _=>false) (fun ix v wv=>match ix with | 0=>v= .pointer (some ⟨b3,1,none⟩) | 1=>v= .agg #[.slice G (r.gr).length cg] | 2=>v= .int .i64 j | 3=>v= .int .i64 (tgt (r.gr[0]'h0).ln ((j:Nat):Int)) | 4=>v= .bool (decide ((0:Int)≤(tgt (r.gr[0]'h0).ln ((j:Nat):Int)))) | 5=>v= .int .i64 j | 6=>v= .pointer (some ⟨b3,2,none⟩) | 7=>v= .int .i64 r.kids | 8=>v= .bool (decide (((j:Nat):Int)≤r.kids)) | 9=>v= .bool (!(decide ((0:Int)≤(tgt (r.gr[0]'h0).ln ((j:Nat):Int))) == decide (((j:Nat):Int)≤r.kids))) | _=>True) kR kR ?_ ?_ ?_
  ·intro ix v wv wv2 h hs
   match ix,h with
   | 0,h=>exact h
   | 1,h=>exact h
   | 2,h=>exact h
   | 3,h=>exact h
   | 4,h=>exact h
   | 5,h=>exact h
   | 6,h=>exact h
   | 7,h=>exact h
   | 8,h=>exact h
   | 9,h=>exact h
   | _ + 10,h=>exact trivial
  ·intro ix o hix hoq gg wx hs hd hdis
   match ix,hix,hoq with
   | 0,_,hoq=>
    cases sI hoq;exact oV (zV U41 Qv dE rfl rfl rfl) rfl
   | 1,_,hoq=>
    cases sI hoq;replace hb3:=hb3.tr0 hs;refine zx 37 (.pointer (some ⟨b3,1,none⟩)) (hd 0 (zj kR)) nu ?_;exact oV (zW U30 rfl rfl (hb3.sub (n:=1) (xs:=[_]) rfl) Qv) rfl
   | 2,_,hoq=>
    cases sI hoq;exact oV (qy (v:= .int _ _) rfl) rfl
   | 3,_,hoq=>
    cases sI hoq;replace hB:=hB.tr0 hs;refine zx 38 (.agg #[.slice G (r.gr).length cg]) (hd 1 (zj kR)) nu (zx 39 (.int .i64 j) (hd 2 (zj kR)) nu ?_);refine xq fn73 (By G cg r.gr 0 ((j:Nat):Int) wx (hG.mono hB) h0) rfl (fun e' w2 hr=>?_);obtain⟨rfl,hs⟩:=hr;exact⟨_,rfl,sB hs,rfl,qZ⟩
   | 4,_,hoq=>
    cases sI hoq;refine zx 40 (.int .i64 (tgt (r.gr[0]'h0).ln ((j:Nat):Int))) (hd 3 (zj kR)) nu ?_;exact oV (vK rfl rfl) rfl
   | 5,_,hoq=>
    cases sI hoq;exact oV (qy (v:= .int _ _) rfl) rfl
   | 6,_,hoq=>
    cases sI hoq;exact oV (zV U41 zZ dE rfl rfl rfl) rfl
   | 7,_,hoq=>
    cases sI hoq;replace hb3:=hb3.tr0 hs;refine zx 43 (.pointer (some ⟨b3,2,none⟩)) (hd 6 (zj kR)) nu ?_;exact oV (zQ (v:= .int _ _) U3 rfl rfl (hb3.cell rfl)) rfl
   | 8,_,hoq=>
    cases sI hoq;refine zx 42 (.int .i64 j) (hd 5 (zj kR)) nu (zx 44 (.int .i64 r.kids) (hd 7 (zj kR)) nu ?_);exact oV (uz rfl rfl) rfl
   | 9,_,hoq=>
    cases sI hoq;refine zx 41 (.bool (decide ((0:Int)≤(tgt (r.gr[0]'h0).ln ((j:Nat):Int))))) (hd 4 (zj kR)) nu (zx 45 (.bool (decide (((j:Nat):Int)≤r.kids))) (hd 8 (zj kR)) nu ?_);exact oV (Ow U4 rfl rfl) rfl
   | _ + 10,hix,_=>exact absurd hix om
  intro gg w7 hs hR hdis;replace hB:=hB.tr0 hs;replace hb3:=hb3.tr0 hs;refine y5 46 (.bool (!(decide ((0:Int)≤(tgt (r.gr[0]'h0).ln ((j:Nat):Int))) == decide (((j:Nat):Int)≤r.kids)))) (hR 9 dE) nu (zq (e_S ?_));refine kZ rfl (fun c46=>?_) (fun c46=>?_)
  ·have hpl:plN r.gr r.kids j=false:=by
     have h:=c46;rw [Bool.not_eq_true'] at h;rw [P7 h0];exact h
   refine zz (z4 (waI rfl (zq (e_S (q8 (qW (qQ (y8 (qW (qQ (qK (.inl rfl) rfl rfl ?_)))))))))));exact⟨Zv (rl_pl c24 hin (pl_no om hpl)),hB⟩
  have hpl:plN r.gr r.kids j=true:=by
    have h:=c46;rw [Bool.not_eq_false'] at h;rw [P7 h0];exact h
  refine zK (e_B (e_S (z4 (wl (xw rfl rfl rfl om) (wmI rfl (zq (yw (4 - (j + 1)) om agA ?_)))))))
  exact⟨j + 1,by omega,rfl,rfl,hB,hb3,fun f hf=>by
    by_cases e:f=j
    · rw [e];exact hpl
    · exact hall f om⟩
 refine xx (vx (yq (vj (e_S (zz (z4 (wl (zV U41 uK dE rfl rfl rfl) (wl (zW U39 rfl rfl (hb3.sub (n:=6) (xs:=[_,_,_,_,_,_]) rfl) uK) ?_))))))));refine qJ fn74 (Nj SA BA cs mB r.mean _ (hS.mono hB) (hT.mono hB)) rfl (fun e' w8 hr=>?_);obtain⟨rfl,hs⟩:=hr;replace hs:=sB hs;replace hB:=hB.tr0 hs;refine⟨_,rfl,?_⟩;refine wl (EJ (v:= .int _ _) U43 rfl U3 rfl rfl rfl) (waI rfl (zq (e_S (q8 (qK (.inl rfl) rfl rfl ?_)))));exact⟨Zv (rl_ok c24 hin (pl_yes (fun f hf=>hall f om))),hB⟩
end Go.Proofs.YtfkbjncidemcbaaDoor
namespace Go.Proofs.YtfkbjncidemcbaaDoor
open Go.RowKit
theorem fn42:qj Tryd.prog 42=true:=by kernel_rfl
theorem fn44:qj Tryd.prog 44=true:=by kernel_rfl
theorem fn45:qj Tryd.prog 45=true:=by kernel_rfl
theorem N2:(Tryd.prog.info? 26).map (·.size)=some 1:=by kernel_rfl
theorem B6:(Tryd.prog.info? 27).map (·.size)=some 1:=by kernel_rfl
theorem Zq:(Tryd.prog.info? 41).map (·.size)=some 10:=by kernel_rfl
theorem Jz:(Tryd.prog.info? 56).map (·.size)=some 9:=by kernel_rfl
theorem Cx:(Tryd.prog.info? 41).map (·.zero)=some (some (.agg #[.string ⟨#[]⟩,.slice none 0 0,.int .i64 0,.int .i64 0,.int .i64 0,.string ⟨#[]⟩,.int .i64 0,.string ⟨#[]⟩,.slice none 0 0,.slice none 0 0])):=by kernel_rfl
theorem ze56_GFt:(Tryd.prog.info? 56).map (·.zero)=some (some (.agg #[.string ⟨#[]⟩,.slice none 0 0,.int .i64 0,.int .i64 0,.string ⟨#[]⟩,.int .i64 0,.string ⟨#[]⟩,.slice none 0 0,.slice none 0 0])):=by kernel_rfl
set_option maxHeartbeats 2000000 in
theorem E7 (AT AF AR AX AS:Option Addr) (ct cf cr cx cst:Nat) (l:List Ty) (fs:List Ft) (rs:List Rl) (xs:List Lx) (st:List Nd) (w:World) (hct:l.length≤ct) (hcf:fs.length≤cf) (hcr:rs.length≤cr) (hTy:TypesIn w AT l) (hF:FeatsIn w AF fs) (hRu:RulesIn w AR rs) (hLx:LexesIn w AX xs) (hG:NodesIn w AS st):Calls Tryd.prog 10 #[.agg #[.slice AT l.length ct,.slice AF fs.length cf,.slice AR rs.length cr,.slice AX xs.length cx,.slice AS st.length cst]] w fun e w'=>e= .returned (flV (vJ l fs rs xs st))∧Bel w w':=by
 refine enter Tryd.func10 Tryd.ntmps10 rfl (Nat.le_of_ble_eq_true rfl) ?_;have hB:Bel w w:=Below.refl _ _;refine zz (z4 ?_);refine yx (v:= .agg #[_,_,_,_,_]) (cs:=#[_,_,_,_,_]) rfl rfl (fun b1 w1 hb1 hs hr=>?_);replace hB:=hB.tr0 hs;refine xQ (cs:=#[.int .i64 0,.int .i64 0]) x7 rfl (fun b2 w2 hb2 hs hr=>?_);have lo2:=nLT (Bel.size hB) hr;replace hB:=hB.tr0 hs;replace hb1:=hb1.tr0 hs;refine zq (e_S (zz (zz (z4 (wl (zV U32 Q7 dE rfl rfl rfl) (wl (zW U25 rfl rfl (hb1.sub (n:=2) (xs:=[_,_]) rfl) Q7) ?_))))));refine qJ fn42 (E6 AT AF ct cf l fs _ hct hcf (hTy.mono hB) (hF.mono hB)) rfl (fun e' w3 hr=>?_);obtain⟨rfl,hs⟩:=hr;replace hs:=sB hs;replace hB:=hB.tr0 hs;replace hb1:=hb1.tr0 hs;replace hb2:=hb2.tr0 hs;refine⟨_,rfl,?_⟩;refine yW (cs:=#[.int .i64 0,.int .i64 0]) x7 rfl (fun _=>rfl) (fun _=>rfl) zk rfl qX (fun b3 w5 hb3 hs hr=>?_);replace hB:=hB.tr0 hs;replace hb1:=hb1.tr0 hs;replace hb2:=hb2.tr0 hs;refine zq (e_S (zz (z4 (wl (zV U43 zZ dE rfl rfl rfl) (wl (zQ (v:= .int _ _) U3 rfl rfl (hb3.cell rfl)) (wl (yY rfl rfl) (zq (e_S ?_))))))));refine qx rfl (fun c18=>?_) (fun c18=>?_)
 ·refine zz (z4 (wl (zW U43 rfl rfl hb3.range0 zk) ?_));refine qz hb2 rfl rfl zk rfl qX (fun w6 hq hs=>?_);replace hB:=hB.tr1 hs lo2;replace hb2:=hq;refine zq (e_S (q8 (qQ (qK (.inl rfl) rfl (qq U43 rfl rfl hb2.range0 zk) ?_))));exact⟨xj (C3 c18),hB⟩
 have h0:=Decidable.not_not.1 c18;have hS:=Bq h0;have hfo:=fok_of h0;have h40:=O0 h0;refine zK (e_S (zz (zz (z4 (wl (zV U32 Q7 dE rfl rfl rfl) (wl (zV U25 oJ dE rfl rfl rfl) (wl (zQ (v:= .slice _ _ _) U23 rfl rfl (hb1.cell rfl)) (wl (x6 U23 rfl) (wl (uz rfl rfl) (zq (e_S ?_)))))))))));refine qx rfl (fun c24=>?_) (fun c24=>?_)
 ·refine zz (z4 (wl (vZ (v0:= .int _ _) (v1:= .int _ _) (fun v0 v1=>#[v0,v1]) rfl rfl kR) ?_));refine qz hb2 rfl rfl zk rfl qX (fun w7 hq hs=>?_);replace hB:=hB.tr1 hs lo2;replace hb2:=hq;refine zq (e_S (q8 (qQ (qK (.inl rfl) rfl (qq U43 rfl rfl hb2.range0 zk) ?_))));exact⟨xj (RW h0 om),hB⟩
 have hf3:¬fs.length≤3:=by omega
 refine zK (e_S (zz (zz ?_)));refine y7 [26,27,28,29,30,31,32,33,34,35] 35 (.bool (decide (40 < rs.length∨100 < xs.length))) nu ?_ (fun gq=>?_)
 ·refine z4 (wl (zV U32 N2 dE rfl rfl rfl) (wl (zQ (v:= .slice _ _ _) U26 rfl rfl (hb1.cell rfl)) (wl (x6 U26 rfl) (wl (yX rfl rfl) (wmB rfl ?_)))));refine zJ 30 rfl (fun g30=>?_) (fun g30=>?_)
  ·refine zy 30 rfl rfl rfl (zy 30 rfl rfl rfl (zy 30 rfl rfl rfl (zy 30 rfl rfl rfl (wl (qw (v:= .bool _) rfl rfl) ?_))));refine zq (e_R ⟨rfl,agA,?_⟩);exact clA
  refine zw 30 rfl rfl (wl (zV U32 B6 dE rfl rfl rfl) (zw 30 rfl rfl (wl (zQ (v:= .slice _ _ _) U27 rfl rfl (hb1.cell rfl)) (zw 30 rfl rfl (wl (x6 U27 rfl) (zw 30 rfl rfl (wl (yX rfl rfl) (wl (qV (v:= .bool _) rfl rfl) ?_))))))));refine zq (e_R ⟨rfl,agA,?_⟩);exact clA
 refine e_S ?_;refine qx rfl (fun h38=>?_) (fun h38=>?_)
 ·refine zz (z4 (wl (vZ (v0:= .int _ _) (v1:= .int _ _) (fun v0 v1=>#[v0,v1]) rfl rfl kR) ?_));refine qz hb2 rfl rfl zk rfl qX (fun w8 hq hs=>?_);replace hB:=hB.tr1 hs lo2;replace hb2:=hq;refine zq (e_S (q8 (qQ (qK (.inl rfl) rfl (qq U43 rfl rfl hb2.range0 zk) ?_))));exact⟨xj (C1 h0 hf3 h38),hB⟩
 refine zK (e_S (zz (zz (z4 (wl (zV U32 N2 dE rfl rfl rfl) (wl (zQ (v:= .slice _ _ _) U26 rfl rfl (hb1.cell rfl)) (wl (x6 U26 rfl) (wmI rfl (zq (e_S (zY ?_)))))))))));refine x8 [4,5,7,8,40,41,42,43,44,45,46,47,48,49,50,51,52,53,54,55,56,57,58,59,60,61,62,63,64,65,66,67,68,69,70,71,72,73,74,75,76,77] (fun m g w'=>∃ k:Nat,k≤rs.length∧m=rs.length - k∧g 40= .int .i64 k∧Bel w w'∧Blk w' b1 32 #[.slice AT l.length ct,.slice AF fs.length cf,.slice AR rs.length cr,.slice AX xs.length cx,.slice AS st.length cst]∧Blk w' b2 43 #[.int .i64 0,.int .i64 0]∧xV (uX l fs rs) 0 rs.length=xV (uX l fs rs) k (rs.length - k)) (rs.length) ?_ (fun m g9 w9 hI=>?_)
 ·exact⟨0,Nat.zero_le _,rfl,rfl,hB,hb1,hb2,rfl⟩
 obtain⟨k,hk,hm,h40s,hB,hb1,hb2,hR'⟩:=hI;refine qv 40 (.int .i64 k) h40s nu (zz (z4 (wl (x9 rfl rfl) (zq (e_S (zz ?_))))));refine qx rfl (fun c41=>?_) (fun c41=>?_)
 ·have hlt:k < rs.length:=by omega
  obtain⟨tb,to,Gk,cgk,Sk,csk,Bk,mk,rfl,htb,htr,hGk,hSk,hTk⟩:=hRu.at_ hB hlt;refine zK (e_S (zz (zY (zz (z4 (wmI rfl (wl (xX (i:=k) U26 Zq rfl rfl om rfl) (wl (zW U41 rfl rfl htr Zq) ?_))))))));refine xQ (cs:=#[.string ⟨#[]⟩,.slice none 0 0,.int .i64 0,.int .i64 0,.int .i64 0,.string ⟨#[]⟩,.int .i64 0,.string ⟨#[]⟩,.slice none 0 0,.slice none 0 0]) Cx rfl (fun b5 w10 hb5 hs hr=>?_);have:=nLL hb1.lt hr;have:=nLL hb2.lt hr;have lo5:=nLT (Bel.size hB) hr;replace hB:=hB.tr0 hs;replace hb1:=hb1.tr0 hs;replace hb2:=hb2.tr0 hs;refine waI rfl ?_;refine qz hb5 rfl rfl Zq rfl qX (fun w11 hq hs=>?_);replace hB:=hB.tr1 hs lo5;replace hb1:=hb1.tr1 hs om;replace hb2:=hb2.tr1 hs om;replace hb5:=hq;refine zq (e_S (zz (zz (z4 (wl (zV U41 uZ dE rfl rfl rfl) (wl (zQ (v:= .string _) U9 rfl rfl (hb5.cell rfl)) ?_))))));refine qJ IV (I6 _ _) rfl (fun e' w12 hr=>?_);obtain⟨rfl,hs⟩:=hr;replace hs:=sB hs;replace hB:=hB.tr0 hs;replace hb1:=hb1.tr0 hs;replace hb2:=hb2.tr0 hs;replace hb5:=hb5.tr0 hs;refine⟨_,rfl,?_⟩;refine wl (vY rfl) (zq (e_S ?_));refine kZ rfl (fun c48=>?_) (fun c48=>?_)
  ·have hty:=rn10 (l:=l) (fs:=fs) hlt (by simpa using c48);refine zz (z4 (wmI rfl (wl (vZ (v0:= .int _ _) (v1:= .int _ _) (fun v0 v1=>#[v0,v1]) rfl rfl kR) ?_)));refine qz hb2 rfl rfl zk rfl qX (fun w13 hq hs=>?_);replace hB:=hB.tr1 hs lo2;replace hb2:=hq;refine zq (e_S (q8 (qQ (qW (qQ (y8 (qW (qQ (qK (.inl rfl) rfl (qq U43 rfl rfl hb2.range0 zk) ?_)))))))));exact⟨xj (XQ h0 hf3 h38 (hR'.trans (xy om hty (show (10:Int)≠0 by decide))) (show (10:Int)≠0 by decide)),hB⟩
  have hnm:yK (rs[k]'hlt).name=true:=by simpa using c48
  refine zK (e_S (zz (zz (z4 (wl (zV U32 N2 dE rfl rfl rfl) (wl (zQ (v:= .slice _ _ _) U26 rfl rfl (hb1.cell rfl)) (wmI rfl (wl (EQ (h:=k) U26 Zq rfl rfl om) (wl (x6 U26 rfl) (wmI rfl (zq (e_S (zY ?_)))))))))))));refine x8 [7,56,57,58,59,60,61,62,63,64,65,66,67] (fun m g w'=>∃ j:Nat,j≤k∧m=k - j∧g 56= .int .i64 j∧Bel w w'∧Blk w' b1 32 #[.slice AT l.length ct,.slice AF fs.length cf,.slice (some ⟨tb,to,none⟩) rs.length cr,.slice AX xs.length cx,.slice AS st.length cst]∧Blk w' b2 43 #[.int .i64 0,.int .i64 0]∧Blk w' b5 41 #[.string (rs[k]'hlt).name,.slice Gk (rs[k]'hlt).gr.length cgk,.int .i64 (rs[k]'hlt).kids,.int .i64 (rs[k]'hlt).wt,.int .i64 (rs[k]'hlt).mean.kind,.string (rs[k]'hlt).mean.name,.int .i64 (rs[k]'hlt).mean.index,.string (rs[k]'hlt).mean.type.base,.slice Sk (rs[k]'hlt).mean.type.args.length csk,.slice Bk (rs[k]'hlt).mean.args.length mk]∧ky ((rs.take j).map (·.name)) (rs[k]'hlt).name=false) (k) ?_ (fun m g14 w14 hI=>?_)
  ·exact⟨0,Nat.zero_le _,rfl,rfl,hB,hb1,hb2,hb5,rfl⟩
  obtain⟨j,hj,hmj,h56,hB,hb1,hb2,hb5,hse⟩:=hI;refine qv 56 (.int .i64 j) h56 nu (zz (z4 (wl (x9 rfl rfl) (zq (e_S (zz ?_))))));refine qx rfl (fun c57=>?_) (fun c57=>?_)
  ·have hjt:j < rs.length:=by omega
   obtain⟨ub,uo,Gj,cgj,Sj,csj,Bj,mj,he,hub,hur,hGj,hSj,hTj⟩:=hRu.at_ hB hjt;cases he;refine zK (e_S (zz (zY (zz (z4 (wl (xX (i:=j) U26 Zq rfl rfl om rfl) (wl (zW U41 rfl rfl hur Zq) ?_)))))));refine yW (cs:=#[.string ⟨#[]⟩,.slice none 0 0,.int .i64 0,.int .i64 0,.int .i64 0,.string ⟨#[]⟩,.int .i64 0,.string ⟨#[]⟩,.slice none 0 0,.slice none 0 0]) Cx rfl (fun _=>rfl) (fun _=>rfl) Zq rfl qX (fun b7 w16 hb7 hs hr=>?_);replace hB:=hB.tr0 hs;replace hb1:=hb1.tr0 hs;replace hb2:=hb2.tr0 hs;replace hb5:=hb5.tr0 hs;refine zq (e_S (zz (z4 (wl (zV U41 uZ dE rfl rfl rfl) (wl (zQ (v:= .string _) U9 rfl rfl (hb7.cell rfl)) (wl (zV U41 uZ dE rfl rfl rfl) (wl (zQ (v:= .string _) U9 rfl rfl (hb5.cell rfl)) (wl (Z3 rfl rfl) (zq (e_S ?_))))))))));refine qx rfl (fun c64=>?_) (fun c64=>?_)
   ·have hty:=rn7 (l:=l) (fs:=fs) hlt hnm (G2 hlt om c64);refine zz (z4 (wmI rfl (wl (vZ (v0:= .int _ _) (v1:= .int _ _) (fun v0 v1=>#[v0,v1]) rfl rfl kR) ?_)));refine qz hb2 rfl rfl zk rfl qX (fun w17 hq hs=>?_);replace hB:=hB.tr1 hs lo2;replace hb2:=hq;refine zq (e_S (q8 (qW (qQ (y8 (qW (qQ (qW (qQ (y8 (qW (qQ (qK (.inl rfl) rfl (qq U43 rfl rfl hb2.range0 zk) ?_)))))))))))));exact⟨xj (XQ h0 hf3 h38 (hR'.trans (xy om hty (show (7:Int)≠0 by decide))) (show (7:Int)≠0 by decide)),hB⟩
   have hse':ky ((rs.take (j + 1)).map (·.name)) (rs[k]'hlt).name=false:=by rw [oQ rs hjt,List.map_append,List.map_cons,List.map_nil,ZJ,hse];simp [c64]
   refine zK (e_B (e_S (z4 (wl (xw rfl rfl rfl om) (wmI rfl (zq (yw (k - (j + 1)) om agA ?_)))))));exact⟨j + 1,by omega,rfl,rfl,hB,hb1,hb2,hb5,hse'⟩
  have hsn:ky ((rs.take k).map (·.name)) (rs[k]'hlt).name=false:=by
    have e:k=j:=by omega
    subst e;exact hse
  refine xx (vx (yq (vj (e_S (zz (z4 (wl (zV U32 Q7 dE rfl rfl rfl) (wl (zW U25 rfl rfl (hb1.sub (n:=2) (xs:=[_,_]) rfl) Q7) (wl (zW U41 rfl rfl hb5.range0 Zq) ?_)))))))));refine qJ fn44 (G1 AT AF Gk Sk Bk ct cf cgk csk mk l fs (rs[k]'hlt) _ (hTy.mono hB) hS.vt hS.le (hF.mono hB) hfo (hGk.mono hB) (hSk.mono hB) (hTk.mono hB)) rfl (fun e' w18 hr=>?_);obtain⟨rfl,hs⟩:=hr;replace hs:=sB hs;replace hB:=hB.tr0 hs;replace hb1:=hb1.tr0 hs;replace hb2:=hb2.tr0 hs;refine⟨_,rfl,?_⟩;refine waI rfl (zq (e_S (zz (z4 (wmI rfl (wl (yY rfl rfl) (zq (e_S ?_))))))));refine qx rfl (fun c73=>?_) (fun c73=>?_)
  ·have hty:=rnF (l:=l) (fs:=fs) hlt hnm hsn;refine zz (z4 (wmI rfl (wmI rfl (wl (vZ (v0:= .int _ _) (v1:= .int _ _) (fun v0 v1=>#[v0,v1]) rfl rfl kR) ?_))));refine qz hb2 rfl rfl zk rfl qX (fun w19 hq hs=>?_);replace hB:=hB.tr1 hs lo2;replace hb2:=hq;refine zq (e_S (q8 (qW (qQ (y8 (qW (qQ (qK (.inl rfl) rfl (qq U43 rfl rfl hb2.range0 zk) ?_))))))));exact⟨xj (XQ h0 hf3 h38 (hR'.trans (xy om hty c73)) c73),hB⟩
  have hty0:=(rnF (l:=l) (fs:=fs) hlt hnm hsn).trans (Decidable.not_not.1 c73);refine zK (e_B (e_S (z4 (wl (xw rfl rfl rfl om) (wmI rfl (zq (yw (rs.length - (k + 1)) om agA ?_)))))));exact⟨k + 1,by omega,rfl,rfl,hB,hb1,hb2,hR'.trans (vV hlt hty0)⟩
 have hRz:xV (uX l fs rs) 0 rs.length=(0,0):=hR'.trans (jz om);refine xx (vx (yq (vj (e_S (zz (zz (z4 (wl (zV U32 B6 dE rfl rfl rfl) (wl (zQ (v:= .slice _ _ _) U27 rfl rfl (hb1.cell rfl)) (wl (x6 U27 rfl) (wmI rfl (zq (e_S (zY ?_))))))))))))));refine x8 [9,10,11,81,82,83,84,85,86,87,88,89,90,91,92,93,94,95] (fun m g w'=>∃ q:Nat,q≤xs.length∧m=xs.length - q∧g 81= .int .i64 q∧Bel w w'∧Blk w' b1 32 #[.slice AT l.length ct,.slice AF fs.length cf,.slice AR rs.length cr,.slice AX xs.length cx,.slice AS st.length cst]∧Blk w' b2 43 #[.int .i64 0,.int .i64 0]∧xV (Iz l fs xs) 0 xs.length=xV (Iz l fs xs) q (xs.length - q)) (xs.length) ?_ (fun m g24 w20 hI=>?_)
 ·exact⟨0,Nat.zero_le _,rfl,rfl,hB,hb1,hb2,rfl⟩
 obtain⟨q,hq,hm,h81,hB,hb1,hb2,hL'⟩:=hI;refine qv 81 (.int .i64 q) h81 nu (zz (z4 (wl (x9 rfl rfl) (zq (e_S (zz ?_))))));refine qx rfl (fun c82=>?_) (fun c82=>?_)
 ·have hlq:q < xs.length:=by omega
  obtain⟨ub,uo,Gk,cgk,Sk,csk,Bk,mk,rfl,hub,hszq,hur,hGk,hSk,hTk⟩:=hLx.at_ hB hlq;refine zK (e_S (zz (zY (zz (z4 (wmI rfl (wl (xX (i:=q) U27 Jz rfl rfl om rfl) (wl (zW U56 rfl rfl hur Jz) ?_))))))));refine xQ (cs:=#[.string ⟨#[]⟩,.slice none 0 0,.int .i64 0,.int .i64 0,.string ⟨#[]⟩,.int .i64 0,.string ⟨#[]⟩,.slice none 0 0,.slice none 0 0]) ze56_GFt rfl (fun b10 w21 hb10 hs hr=>?_);have:=nLL hb1.lt hr;have:=nLL hb2.lt hr;have lo10:=nLT (Bel.size hB) hr;replace hB:=hB.tr0 hs;replace hb1:=hb1.tr0 hs;replace hb2:=hb2.tr0 hs;refine waI rfl ?_;refine qz hb10 rfl rfl Jz rfl qX (fun w22 hq hs=>?_);replace hB:=hB.tr1 hs lo10;replace hb1:=hb1.tr1 hs om;replace hb2:=hb2.tr1 hs om;replace hb10:=hq;refine zq (e_S (zz (z4 (wl (zV U32 Q7 dE rfl rfl rfl) (wl (zW U25 rfl rfl (hb1.sub (n:=2) (xs:=[_,_]) rfl) Q7) (wl (zW U56 rfl rfl hb10.range0 Jz) ?_))))));refine qJ fn45 (lexr_any AT AF Gk Sk Bk ct cf cgk csk mk l fs (xs[q]'hlq) _ (hTy.mono hB) hS.vt hS.le (hF.mono hB) hfo (hGk.mono hB) (hSk.mono hB) (hTk.mono hB) hszq) rfl (fun e' w23 hr=>?_);obtain⟨rfl,hs⟩:=hr;replace hs:=sB hs;replace hB:=hB.tr0 hs;replace hb1:=hb1.tr0 hs;replace hb2:=hb2.tr0 hs;refine⟨_,rfl,?_⟩;refine waI rfl (zq (e_S (zz (z4 (wmI rfl (wl (yY rfl rfl) (zq (e_S ?_))))))));refine qx rfl (fun c91=>?_) (fun c91=>?_)
  ·have hly:=lnF (l:=l) (fs:=fs) hlq;refine zz (z4 (wmI rfl (wmI rfl (wl (vZ (v0:= .int _ _) (v1:= .int _ _) (fun v0 v1=>#[v0,v1]) rfl rfl kR) ?_))));refine qz hb2 rfl rfl zk rfl qX (fun w24 hq hs=>?_);replace hB:=hB.tr1 hs lo2;replace hb2:=hq;refine zq (e_S (q8 (qW (qQ (y8 (qW (qQ (qK (.inl rfl) rfl (qq U43 rfl rfl hb2.range0 zk) ?_))))))));exact⟨xj (gr_lex h0 hf3 h38 hRz (hL'.trans (xy om hly c91)) c91),hB⟩
  have hly0:=(lnF (l:=l) (fs:=fs) hlq).trans (Decidable.not_not.1 c91);refine zK (e_B (e_S (z4 (wl (xw rfl rfl rfl om) (wmI rfl (zq (yw (xs.length - (q + 1)) om agA ?_)))))));exact⟨q + 1,by omega,rfl,rfl,hB,hb1,hb2,hL'.trans (vV hlq hly0)⟩
 have hLz:xV (Iz l fs xs) 0 xs.length=(0,0):=hL'.trans (jz om);refine xx (vx (yq (vj (e_S (zz (zz (z4 (wl (zV U32 Q7 dE rfl rfl rfl) (wl (zW U25 rfl rfl (hb1.sub (n:=2) (xs:=[_,_]) rfl) Q7) (wl (zV U32 Qv dE rfl rfl rfl) (wl (zW U30 rfl rfl (hb1.sub (n:=1) (xs:=[_]) rfl) Qv) ?_)))))))))));refine qJ fn15 (DY AT AF AS ct cf cst l fs st _ (hTy.mono hB) hS.vt hS.le (hF.mono hB) (hG.mono hB) hfo) rfl (fun e' w25 hr=>?_);obtain⟨rfl,hs⟩:=hr;replace hs:=sB hs;replace hB:=hB.tr0 hs;replace hb1:=hb1.tr0 hs;replace hb2:=hb2.tr0 hs;refine⟨_,rfl,?_⟩;refine yW (cs:=#[.int .i64 0,.int .i64 0]) x7 rfl (fun _=>rfl) (fun _=>rfl) zk rfl qX (fun b12 w27 hb12 hs hr=>?_);replace hB:=hB.tr0 hs;replace hb2:=hb2.tr0 hs;refine zq (e_S (zz (z4 (wl (zV U43 zZ dE rfl rfl rfl) (wl (zQ (v:= .int _ _) U3 rfl rfl (hb12.cell rfl)) (wl (yY rfl rfl) (zq (e_S ?_))))))));refine qx rfl (fun c103=>?_) (fun c103=>?_)
 ·refine zz (z4 (wl (zV U43 zZ dE rfl rfl rfl) (wl (zQ (v:= .int _ _) U3 rfl rfl (hb12.cell rfl)) (wl (vZ (v0:= .int _ _) (v1:= .int _ _) (fun v0 v1=>#[v0,v1]) rfl rfl kR) ?_))));refine qz hb2 rfl rfl zk rfl qX (fun w28 hq hs=>?_);replace hB:=hB.tr1 hs lo2;replace hb2:=hq;refine zq (e_S (q8 (qQ (qK (.inl rfl) rfl (qq U43 rfl rfl hb2.range0 zk) ?_))));exact⟨xj (SZ h0 hf3 h38 hRz hLz c103),hB⟩
 refine zK (e_S (zz (z4 (wl (gZ (vs:=#[]) (cs:=#[.int .i64 0,.int .i64 0]) (by simp) kR) ?_))));refine qz hb2 rfl rfl zk rfl qX (fun w29 hq hs=>?_);replace hB:=hB.tr1 hs lo2;replace hb2:=hq;refine zq (e_S (q8 (qK (.inl rfl) rfl (qq U43 rfl rfl hb2.range0 zk) ?_)));exact⟨xj (gr_ok h0 hf3 h38 hRz hLz (Decidable.not_not.1 c103)),hB⟩
end Go.Proofs.YtfkbjncidemcbaaDoor
namespace Go.Proofs.YtfkbjncidemcbaaDoor
open Go.RowKit
theorem TW:gramB smallT smallF smallRs smallXs smallS=true:=by decide +kernel
theorem small_ok:vJ smallT smallF smallR smallX smallS=(0,0):=gram_ok TW
theorem fd43:(Tryd.prog.fieldsOf 43).toList.map (fun f=>(f.name == "_",f.type,f.offset))= [(false,3,0),(false,3,1)]:=by kernel_rfl
theorem fn10:qj Tryd.prog 10=true:=by kernel_rfl
theorem fn7:qj Tryd.prog 7=true:=by kernel_rfl
theorem ft43:Tryd.prog.underlying 43=some (.struct (Tryd.prog.fieldsOf 43)):=by kernel_rfl
end Go.Proofs.YtfkbjncidemcbaaDoor
namespace Go.Proofs.YtfkbjncidemcbaaDoor
open Go.RowKit
inductive Dt where
  | mk (rule lex:Int) (kids:List Dt)
def Dt.rule:Dt→Int | .mk r _ _=>r
def Dt.lex:Dt→Int | .mk _ x _=>x
def Dt.kids:Dt→List Dt | .mk _ _ k=>k
theorem Dt.eta (t:Dt):t= .mk t.rule t.lex t.kids:=by cases t;rfl
mutual
inductive TreAt (w:World):Nat→Nat→Dt→Prop
  | mk {b o:Nat} {r l:Int} {ks:List Dt} {A:Option Addr} {c:Nat} (hb:b < w.heap.size) (h:w.rangeAt b o [.int .i64 r,.int .i64 l,.slice A (List.length ks) c]) (hs:TresIn w A ks):TreAt w b o (.mk r l ks)
inductive TresIn (w:World):Option Addr→List Dt→Prop
  | nil {A:Option Addr}:TresIn w A []
  | more {b o:Nat} {ks:List Dt} (hl:ks.length≤jJ) (hb:b < w.heap.size) (h:∀ k (hk:k < ks.length),TreAt w b (o + k * 3) ks[k]):TresIn w (some ⟨b,o,none⟩) ks
end
theorem TreAt.both {w w':World} (hw:Bel w w'):(∀ {b o:Nat} {s:Dt},TreAt w b o s→TreAt w' b o s)∧∀ {A:Option Addr} {l:List Dt},TresIn w A l→TresIn w' A l:=by
  have h1:∀ {b o:Nat} {s:Dt} (h:TreAt w b o s),TreAt w' b o s:=fun h=>
    TreAt.rec (motive_1:=fun b o s _=>TreAt w' b o s) (motive_2:=fun A l _=>TresIn w' A l)
      (fun hb h _ ih=> .mk (nLL hb hw.size) (hw.range hb h) ih) .nil (fun hl hb _ ih=> .more hl (nLL hb hw.size) ih) h
  have h2:∀ {A:Option Addr} {l:List Dt} (h:TresIn w A l),TresIn w' A l:=fun h=>
    TresIn.rec (motive_1:=fun b o s _=>TreAt w' b o s) (motive_2:=fun A l _=>TresIn w' A l)
      (fun hb h _ ih=> .mk (nLL hb hw.size) (hw.range hb h) ih) .nil (fun hl hb _ ih=> .more hl (nLL hb hw.size) ih) h
  exact⟨h1,h2⟩
theorem TresIn.mono {w w':World} {A:Option Addr} {l:List Dt} (h:TresIn w A l) (hw:Bel w w'):TresIn w' A l:=(TreAt.both hw).2 h
theorem TresIn.le {w:World} {A:Option Addr} {l:List Dt} (h:TresIn w A l):l.length≤jJ:=by
  cases h with
  | nil=>exact Nat.zero_le _
  | more hl=>exact hl
theorem TresIn.at_ {w:World} {A:Option Addr} {l:List Dt} (h:TresIn w A l) {k:Nat} (hk:k < l.length):∃ b o A' c,A=some ⟨b,o,none⟩∧b < w.heap.size∧w.rangeAt b (o + k * 3) [Value.int .i64 (l[k]).rule,.int .i64 (l[k]).lex,.slice A' (l[k]).kids.length c]∧TresIn w A' (l[k]).kids:=by
  cases h with
  | nil=>simp at hk
  | @more b o _ _ hb h=>
    have hx:=h k hk
    generalize l[k]=s at hx
    cases hx with
    | mk _ hr hs=>exact⟨b,o,_,_,rfl,hb,hr,hs⟩
def kdN (rs:List Rl) (t:Dt):Int:=if 0≤t.rule then ((rs[t.rule.toNat]?).map (·.kids)).getD 0 else 0
def trC (rs:List Rl) (nx:Nat) (t:Dt):Int:=
  if t.rule < -1∨(rs.length:Int)≤t.rule∨(t.rule= -1∧(t.lex < 0∨(nx:Int)≤t.lex)) then 3 else if 0≤t.rule∧¬t.lex=0 then 5 else if ¬(t.kids.length:Int)=kdN rs t then 9 else 0
def chN (rs:List Rl) (t:Dt) (c:Nat):Nat:=if kdN rs t=1 then c + 1 else 0
def lfN (t:Dt) (l:Nat):Nat:=if t.rule < 0 then l + 1 else l
mutual
def tw (rs:List Rl) (nx:Nat):Dt→Nat→Nat→Nat→Nat→Nat×Nat×Fl
  | .mk r x ks,d,c,n,l=>if 200 < n + 1∨48 < d then (n + 1,l,(1,(n:Int))) else if trC rs nx (.mk r x ks)=0 then (if 3 < chN rs (.mk r x ks) c then (n + 1,l,(14,(n:Int))) else tws rs nx ks (d + 1) (chN rs (.mk r x ks) c) (n + 1) (lfN (.mk r x ks) l)) else (n + 1,l,(trC rs nx (.mk r x ks),(n:Int)))
def tws (rs:List Rl) (nx:Nat):List Dt→Nat→Nat→Nat→Nat→Nat×Nat×Fl
  | [],_,_,n,l=>(n,l,(0,0))
  | x :: r,d,c,n,l=>if (tw rs nx x d c n l).2.2.1=0 then tws rs nx r d c (tw rs nx x d c n l).1 (tw rs nx x d c n l).2.1 else tw rs nx x d c n l
end
section
variable {rs:List Rl} {nx:Nat} {t:Dt} {d c n l:Nat}
theorem FQ (t:Dt) (d c n l:Nat):tw rs nx t d c n l=if 200 < n + 1∨48 < d then (n + 1,l,(1,(n:Int))) else if trC rs nx t=0 then (if 3 < chN rs t c then (n + 1,l,(14,(n:Int))) else tws rs nx t.kids (d + 1) (chN rs t c) (n + 1) (lfN t l)) else (n + 1,l,(trC rs nx t,(n:Int))):=by
  cases t;rw [tw];rfl
theorem Tw (h:200 < n + 1∨48 < d):tw rs nx t d c n l=(n + 1,l,(1,(n:Int))):=by rw [FQ,if_pos h]
theorem VQ {k:Int} (h:¬(200 < n + 1∨48 < d)) (hc:trC rs nx t=k) (h0:k≠0):tw rs nx t d c n l=(n + 1,l,(k,(n:Int))):=by rw [FQ,if_neg h,if_neg (by rw [hc];exact h0),hc]
theorem M7 (h:¬(200 < n + 1∨48 < d)) (hc:trC rs nx t=0) (h3:3 < chN rs t c):tw rs nx t d c n l=(n + 1,l,(14,(n:Int))):=by rw [FQ,if_neg h,if_pos hc,if_pos h3]
theorem FZ (h:¬(200 < n + 1∨48 < d)) (hc:trC rs nx t=0) (h3:¬3 < chN rs t c):tw rs nx t d c n l=tws rs nx t.kids (d + 1) (chN rs t c) (n + 1) (lfN t l):=by rw [FQ,if_neg h,if_pos hc,if_neg h3]
theorem trC_3 (h:t.rule < -1∨(rs.length:Int)≤t.rule∨(t.rule= -1∧(t.lex < 0∨(nx:Int)≤t.lex))):trC rs nx t=3:=if_pos h
theorem trC_5 (h:¬(t.rule < -1∨(rs.length:Int)≤t.rule∨(t.rule= -1∧(t.lex < 0∨(nx:Int)≤t.lex)))) (h2:0≤t.rule∧¬t.lex=0):trC rs nx t=5:=by unfold trC;rw [if_neg h,if_pos h2]
theorem trC_9 (h:¬(t.rule < -1∨(rs.length:Int)≤t.rule∨(t.rule= -1∧(t.lex < 0∨(nx:Int)≤t.lex)))) (h2:¬(0≤t.rule∧¬t.lex=0)) (h3:¬(t.kids.length:Int)=kdN rs t):trC rs nx t=9:=by unfold trC;rw [if_neg h,if_neg h2,if_pos h3]
theorem trC_0 (h:¬(t.rule < -1∨(rs.length:Int)≤t.rule∨(t.rule= -1∧(t.lex < 0∨(nx:Int)≤t.lex)))) (h2:¬(0≤t.rule∧¬t.lex=0)) (h3:¬¬(t.kids.length:Int)=kdN rs t):trC rs nx t=0:=by unfold trC;rw [if_neg h,if_neg h2,if_neg h3]
theorem RX {i:Nat} (hi:i < rs.length) (h:t.rule=(i:Int)):kdN rs t=(rs[i]).kids:=by
  unfold kdN;rw [if_pos om,h];simp [hi]
theorem RQ (h:t.rule < 0):kdN rs t=0:=by unfold kdN;rw [if_neg om]
theorem lfN_lf (h:t.rule < 0):lfN t l=l + 1:=if_pos h
theorem lfN_rl (h:¬t.rule < 0):lfN t l=l:=if_neg h
theorem tw_ts:∀ (k:Nat) (t:Dt),SizeOf.sizeOf t < k→∀ d c n l,l≤n→(tw rs nx t d c n l).2.2.1=0→(tw rs nx t d c n l).2.2=(0,0)∧(tw rs nx t d c n l).1≤200∧(tw rs nx t d c n l).2.1≤(tw rs nx t d c n l).1:=by
  intro k
  induction k with
  | zero=>intro t h;omega
  | succ k ih=>
    intro t ht d c n l hl h0;by_cases h1:200 < n + 1∨48 < d
    · rw [Tw h1] at h0;cases h0
    by_cases h2:trC rs nx t=0
    · by_cases h3:3 < chN rs t c
      · rw [M7 h1 h2 h3] at h0;cases h0
      · rw [FZ h1 h2 h3] at h0 ⊢
        have key:∀ (ks:List Dt),(∀ x ∈ ks,SizeOf.sizeOf x < k)→∀ d c n l,l≤n→n≤200→(tws rs nx ks d c n l).2.2.1=0→(tws rs nx ks d c n l).2.2=(0,0)∧(tws rs nx ks d c n l).1≤200∧(tws rs nx ks d c n l).2.1≤(tws rs nx ks d c n l).1:=by
          intro ks
          induction ks with
          | nil=>intro _ d c n l h1 h2 _;rw [tws];exact⟨rfl,h2,h1⟩
          | cons x r ihr=>
            intro hx d c n l h1 h2 h3;rw [tws] at h3 ⊢;by_cases h4:(tw rs nx x d c n l).2.2.1=0
            · rw [if_pos h4] at h3 ⊢
              obtain⟨_,e2,e3⟩:=ih x (hx x (List.mem_cons_self ..)) d c n l h1 h4;exact ihr (fun y hy=>hx y (List.mem_cons_of_mem _ hy)) d c _ _ e3 e2 h3
            · rw [if_neg h4] at h3;exact absurd h3 h4
        have hlf:lfN t l≤n + 1:=by unfold lfN;split <;> omega
        refine key t.kids (fun x hx=>?_) _ _ _ _ hlf om h0;have:=List.sizeOf_lt_of_mem hx;cases t with
        | mk r x ks=>simp only [Dt.mk.sizeOf_spec,Dt.kids] at ht this;omega
    · rw [VQ h1 rfl h2] at h0;exact absurd h0 h2
theorem tw_z (hl:l≤n) (h:(tw rs nx t d c n l).2.2.1=0):(tw rs nx t d c n l).2.2=(0,0)∧(tw rs nx t d c n l).1≤200∧(tw rs nx t d c n l).2.1≤(tw rs nx t d c n l).1:=tw_ts (SizeOf.sizeOf t + 1) t (Nat.lt_succ_self _) d c n l hl h
end
def uv (rs:List Rl) (nx:Nat) (t:Dt):Fl:=if (tw rs nx t 1 0 0 0).2.2.1=0 then (if 12 < (tw rs nx t 1 0 0 0).2.1 then (2,-2) else (0,0)) else (tw rs nx t 1 0 0 0).2.2
theorem tf_bad {rs:List Rl} {nx:Nat} {t:Dt} (h:¬(tw rs nx t 1 0 0 0).2.2.1=0):uv rs nx t=(tw rs nx t 1 0 0 0).2.2:=if_neg h
theorem FV {rs:List Rl} {nx:Nat} {t:Dt} (h:(tw rs nx t 1 0 0 0).2.2.1=0) (h2:12 < (tw rs nx t 1 0 0 0).2.1):uv rs nx t=(2,-2):=by unfold uv;rw [if_pos h,if_pos h2]
theorem tf_ok {rs:List Rl} {nx:Nat} {t:Dt} (h:(tw rs nx t 1 0 0 0).2.2.1=0) (h2:¬12 < (tw rs nx t 1 0 0 0).2.1):uv rs nx t=(0,0):=by unfold uv;rw [if_pos h,if_neg h2]
end Go.Proofs.YtfkbjncidemcbaaDoor
