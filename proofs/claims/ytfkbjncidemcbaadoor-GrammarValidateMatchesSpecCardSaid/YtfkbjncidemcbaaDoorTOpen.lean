/- What these functions of the program compute, at every world: glosswright/glosswrightref3.MeaningFault, glosswright/glosswrightref3.LexFault, glosswright/glosswrightref3.RuleFault. What these functions of the program compute, at every world: glosswright/glosswrightref3.GrammarFault. What these functions of the program compute, at every world: glosswright/glosswrightlaw4.GrammarValidateMatchesSpec. Arguments opened: graphs. Arguments opened: types and terms (structs that hold slices of themselves), rules, words and grammars; and the bounds of strings inside. -/
import Derived.Test.YtfkbjncidemcbaaDoorU
import Derived.Test.YtfkbjncidemcbaaDoorGEn
import Derived.Test.YtfkbjncidemcbaaDoorNN1
import Derived.Test.YtfkbjncidemcbaaDoorNTf
import Derived.Test.YtfkbjncidemcbaaDoorDfs
import Derived.Test.YtfkbjncidemcbaaDoorWRc
import Derived.Test.YtfkbjncidemcbaaDoorTypes
import Derived.Test.YtfkbjncidemcbaaDoorGrm
import Derived.SizedLaws
namespace Go.Proofs.YtfkbjncidemcbaaDoor
open Go.RowKit
theorem fn15:qZ Tryd.prog 15=true:=by kernel_rfl
theorem fn73:qZ Tryd.prog 73=true:=by kernel_rfl
theorem fn74:qZ Tryd.prog 74=true:=by kernel_rfl
theorem fn75:qZ Tryd.prog 75=true:=by kernel_rfl
theorem fn95:qZ Tryd.prog 95=true:=by kernel_rfl
theorem EY (SA BA:Option Addr) (cs mB:Nat) (t:Tm) (w:World) (hS:SimsIn w SA t.type.args) (hT:TmsIn w BA t.args):Calls Tryd.prog 74 #[.agg #[.int .i64 (t).kind,.string (t).name,.int .i64 (t).index,.string (t).type.base,.slice SA (t).type.args.length cs,.slice BA (t).args.length mB]] w fun e w'=>e= .returned (flV (tmF t))∧Bel w w':=by
 refine enter Tryd.func74 Tryd.ntmps74 rfl (Nat.le_of_ble_eq_true rfl) ?_;have hB:Bel w w:=Below.refl _ _;refine zz (z4 ?_);refine yQ (v:= .agg #[_,_,_,_,_,_]) (cs:=#[_,_,_,_,_,_]) rfl rfl (fun b1 w1 hb1 hs hr=>?_);replace hB:=hB.tr0 hs;refine y8 (cs:=#[.int .i64 0,.int .i64 0]) y7 rfl (fun b2 w2 hb2 hs hr=>?_);have lo2:=nLT (Bel.size hB) hr;replace hB:=hB.tr0 hs;replace hb1:=hb1.tr0 hs;refine zx (e_S (zz (z4 (wl (zV U39 rfl rfl hb1.range0 oz) ?_))));refine qJ fn95 (F9 SA BA cs mB t _ (hS.mono hB) (hT.mono hB)) rfl (fun e' w3 hr=>?_);obtain⟨rfl,hs⟩:=hr;replace hs:=sB hs;replace hB:=hB.tr0 hs;replace hb2:=hb2.tr0 hs;refine⟨_,rfl,?_⟩;refine qk hb2 rfl rfl zy rfl qY (fun w4 hq hs=>?_);replace hB:=hB.tr1 hs lo2;replace hb2:=hq;refine zx (e_S (qq (x7 (.inl rfl) rfl (qy U43 rfl rfl hb2.range0 zy) ?_)));exact⟨xK rfl,hB⟩
theorem lexr_any (A B G SA BA:Option Addr) (c d cg cs mB:Nat) (l:List Ty) (fs:List Ft) (x:Lx) (w:World) (hTy:TypesIn w A l) (hv:VT l) (h60:l.length≤60) (hF:FeatsIn w B fs) (hfo:FOk l.length fs) (hG:NodesIn w G x.gr) (hS:SimsIn w SA x.mean.type.args) (hT:TmsIn w BA x.mean.args) (hsz:x.word.size < 9223372036854775807):Calls Tryd.prog 45 #[.agg #[.slice A l.length c,.slice B fs.length d],.agg #[.string (x).word,.slice G (x).gr.length cg,.int .i64 (x).wt,.int .i64 ((x).mean).kind,.string ((x).mean).name,.int .i64 ((x).mean).index,.string ((x).mean).type.base,.slice SA ((x).mean).type.args.length cs,.slice BA ((x).mean).args.length mB]] w fun e w'=>e= .returned (.int .i64 (N9 l fs x))∧Bel w w':=by
 refine enter Tryd.func45 Tryd.ntmps45 rfl (Nat.le_of_ble_eq_true rfl) ?_;have hB:Bel w w:=Below.refl _ _;refine zz (z4 ?_);refine yQ (v:= .agg #[_,_]) (cs:=#[_,_]) rfl rfl (fun b2 w1 hb2 hs hr=>?_);replace hB:=hB.tr0 hs;refine yQ (v:= .agg #[_,_,_,_,_,_,_,_,_]) (cs:=#[_,_,_,_,_,_,_,_,_]) rfl rfl (fun b3 w2 hb3 hs hr=>?_);replace hB:=hB.tr0 hs;replace hb2:=hb2.tr0 hs;refine waI rfl (zx (e_S (zz (zz (z4 (wl (q8 U56 j5 dE rfl rfl rfl) (wl (zQ (v:= .string _) U9 rfl rfl (hb3.cell rfl)) ?_)))))));refine qJ fn75 (LZ x.word _ hsz) rfl (fun e' w3 hr=>?_);obtain⟨rfl,hs⟩:=hr;replace hs:=sB hs;replace hB:=hB.tr0 hs;replace hb2:=hb2.tr0 hs;replace hb3:=hb3.tr0 hs;refine⟨_,rfl,?_⟩;refine wl (j7 rfl) (zx (e_S ?_));refine kK rfl (fun c9=>?_) (fun c9=>?_)
 ·have hwd:u7 x.word=false:=by simpa using c9
  refine zz (z4 (waI rfl (zx (e_S (qq (qV (x7 (.inl rfl) rfl rfl ?_)))))));exact⟨Q4 (HV hwd),hB⟩
 have hwd:u7 x.word=true:=by simpa using c9
 refine zK (e_S (zz (zz ?_)));refine yx [10,11,12,13,14,15,16,17] 17 (.bool (decide (x.wt < 0∨1000000 < x.wt))) nu ?_ (fun gq=>?_)
 ·refine z4 (wl (q8 U56 zX dE rfl rfl rfl) (wl (zQ (v:= .int _ _) U3 rfl rfl (hb3.cell rfl)) (wl (xv rfl rfl) (wmB rfl ?_))));refine zJ 13 rfl (fun g13=>?_) (fun g13=>?_)
  ·refine zw 13 rfl rfl rfl (zw 13 rfl rfl rfl (zw 13 rfl rfl rfl (wl (qX (v:= .bool _) rfl rfl) ?_)));refine zx (e_R ⟨rfl,agA,?_⟩);exact clA
  refine zk 13 rfl rfl (wl (q8 U56 zX dE rfl rfl rfl) (zk 13 rfl rfl (wl (zQ (v:= .int _ _) U3 rfl rfl (hb3.cell rfl)) (zk 13 rfl rfl (wl (vW rfl rfl) (wl (xq (v:= .bool _) rfl rfl) ?_))))));refine zx (e_R ⟨rfl,agA,?_⟩);exact clA
 refine e_S ?_;refine qv rfl (fun c17=>?_) (fun c17=>?_)
 ·refine zz (z4 (waI rfl (zx (e_S (qq (qV (x7 (.inl rfl) rfl rfl ?_)))))));exact⟨Q4 (lx_bad hwd c17),hB⟩
 refine zK (e_S (zz (zz (z4 (wl (zV U25 rfl rfl hb2.range0 QW) (wl (q8 U56 X7 dE rfl rfl rfl) (wl (zV U30 rfl rfl (hb3.sub (n:=1) (xs:=[_]) rfl) X7) ?_)))))));refine qJ fn15 (BW A B G c d cg l fs x.gr _ (hTy.mono hB) hv h60 (hF.mono hB) (hG.mono hB) hfo) rfl (fun e' w4 hr=>?_);obtain⟨rfl,hs⟩:=hr;replace hs:=sB hs;replace hB:=hB.tr0 hs;replace hb2:=hb2.tr0 hs;replace hb3:=hb3.tr0 hs;refine⟨_,rfl,?_⟩;refine vx (cs:=#[.int .i64 0,.int .i64 0]) y7 rfl (fun _=>rfl) (fun _=>rfl) zy rfl qY (fun b5 w6 hb5 hs hr=>?_);replace hB:=hB.tr0 hs;replace hb3:=hb3.tr0 hs;refine zx (e_S (zz (z4 (wl (q8 U43 zX dE rfl rfl rfl) (wl (zQ (v:= .int _ _) U3 rfl rfl (hb5.cell rfl)) (wl (jq rfl rfl) (zx (e_S ?_))))))));refine qv rfl (fun c24=>?_) (fun c24=>?_)
 ·refine zz (z4 (wl (q8 U43 zX dE rfl rfl rfl) (wl (zQ (v:= .int _ _) U3 rfl rfl (hb5.cell rfl)) (waI rfl (zx (e_S (qq (qV (x7 (.inl rfl) rfl rfl ?_)))))))));exact⟨Q4 (lx_gr hwd c17 c24),hB⟩
 have hin:=Decidable.not_not.1 c24;refine zK (e_S (zz (z4 (wl (q8 U56 oz dE rfl rfl rfl) (wl (zV U39 rfl rfl (hb3.sub (n:=6) (xs:=[_,_,_,_,_,_]) rfl) oz) ?_)))));refine qJ fn74 (EY SA BA cs mB x.mean _ (hS.mono hB) (hT.mono hB)) rfl (fun e' w7 hr=>?_);obtain⟨rfl,hs⟩:=hr;replace hs:=sB hs;replace hB:=hB.tr0 hs;refine⟨_,rfl,?_⟩;refine wl (P5 (v:= .int _ _) U43 rfl U3 rfl rfl rfl) (waI rfl (zx (e_S (qq (x7 (.inl rfl) rfl rfl ?_)))));exact⟨Q4 (lx_ok hwd c17 hin),hB⟩
theorem ruler_any (A B G SA BA:Option Addr) (c d cg cs mB:Nat) (l:List Ty) (fs:List Ft) (r:Rl) (w:World) (hTy:TypesIn w A l) (hv:VT l) (h60:l.length≤60) (hF:FeatsIn w B fs) (hfo:FOk l.length fs) (hG:NodesIn w G r.gr) (hS:SimsIn w SA r.mean.type.args) (hT:TmsIn w BA r.mean.args):Calls Tryd.prog 44 #[.agg #[.slice A l.length c,.slice B fs.length d],.agg #[.string (r).name,.slice G (r).gr.length cg,.int .i64 (r).kids,.int .i64 (r).wt,.int .i64 ((r).mean).kind,.string ((r).mean).name,.int .i64 ((r).mean).index,.string ((r).mean).type.base,.slice SA ((r).mean).type.args.length cs,.slice BA ((r).mean).args.length mB]] w fun e w'=>e= .returned (.int .i64 (Yw l fs r))∧Bel w w':=by
 refine enter Tryd.func44 Tryd.ntmps44 rfl (Nat.le_of_ble_eq_true rfl) ?_;have hB:Bel w w:=Below.refl _ _;refine zz (z4 ?_);refine yQ (v:= .agg #[_,_]) (cs:=#[_,_]) rfl rfl (fun b2 w1 hb2 hs hr=>?_);replace hB:=hB.tr0 hs;refine yQ (v:= .agg #[_,_,_,_,_,_,_,_,_,_]) (cs:=#[_,_,_,_,_,_,_,_,_,_]) rfl rfl (fun b3 w2 hb3 hs hr=>?_);replace hB:=hB.tr0 hs;replace hb2:=hb2.tr0 hs;refine waI rfl (zx (e_S (zz (zz ?_))));refine yx [7,8,9,10,11,12,13,14,15,16,17,18,19,20,21,22,23,24] 24 (.bool (decide (r.kids < 1∨3 < r.kids∨r.wt < 0∨1000000 < r.wt))) nu ?_ (fun gq=>?_)
 ·refine z4 (wl (q8 U41 zX dE rfl rfl rfl) (wl (zQ (v:= .int _ _) U3 rfl rfl (hb3.cell rfl)) (wl (xv rfl rfl) (wmB rfl ?_))));refine zJ 10 rfl (fun g10=>?_) (fun g10=>?_)
  ·refine zw 10 rfl rfl rfl (zw 10 rfl rfl rfl (zw 10 rfl rfl rfl (wl (qX (v:= .bool _) rfl rfl) (wmB rfl (zw 15 rfl rfl rfl (zw 15 rfl rfl rfl (zw 15 rfl rfl rfl (wl (qX (v:= .bool _) rfl rfl) (wmB rfl (zw 20 rfl rfl rfl (zw 20 rfl rfl rfl (zw 20 rfl rfl rfl (wl (qX (v:= .bool _) rfl rfl) ?_)))))))))))));refine zx (e_R ⟨rfl,agA,?_⟩);exact clA
  refine zk 10 rfl rfl (wl (q8 U41 zX dE rfl rfl rfl) (zk 10 rfl rfl (wl (zQ (v:= .int _ _) U3 rfl rfl (hb3.cell rfl)) (zk 10 rfl rfl (wl (vW rfl rfl) (wl (xq (v:= .bool _) rfl rfl) (wmB rfl ?_)))))));refine zJ 15 rfl (fun g15=>?_) (fun g15=>?_)
  ·refine zw 15 rfl rfl rfl (zw 15 rfl rfl rfl (zw 15 rfl rfl rfl (wl (qX (v:= .bool _) rfl rfl) (wmB rfl (zw 20 rfl rfl rfl (zw 20 rfl rfl rfl (zw 20 rfl rfl rfl (wl (qX (v:= .bool _) rfl rfl) ?_))))))));refine zx (e_R ⟨rfl,agA,?_⟩);exact clA
  refine zk 15 rfl rfl (wl (q8 U41 zX dE rfl rfl rfl) (zk 15 rfl rfl (wl (zQ (v:= .int _ _) U3 rfl rfl (hb3.cell rfl)) (zk 15 rfl rfl (wl (xv rfl rfl) (wl (xq (v:= .bool _) rfl rfl) (wmB rfl ?_)))))));refine zJ 20 rfl (fun g20=>?_) (fun g20=>?_)
  ·refine zw 20 rfl rfl rfl (zw 20 rfl rfl rfl (zw 20 rfl rfl rfl (wl (qX (v:= .bool _) rfl rfl) ?_)));refine zx (e_R ⟨rfl,agA,?_⟩);exact clA
  refine zk 20 rfl rfl (wl (q8 U41 zX dE rfl rfl rfl) (zk 20 rfl rfl (wl (zQ (v:= .int _ _) U3 rfl rfl (hb3.cell rfl)) (zk 20 rfl rfl (wl (vW rfl rfl) (wl (xq (v:= .bool _) rfl rfl) ?_))))));refine zx (e_R ⟨rfl,agA,?_⟩);exact clA
 refine e_S ?_;refine qv rfl (fun c24=>?_) (fun c24=>?_)
 ·refine zz (z4 (waI rfl (zx (e_S (qq (qV (x7 (.inl rfl) rfl rfl ?_)))))));exact⟨Q4 (rl_bad c24),hB⟩
 refine zK (e_S (zz (zz (z4 (wl (zV U25 rfl rfl hb2.range0 QW) (wl (q8 U41 X7 dE rfl rfl rfl) (wl (zV U30 rfl rfl (hb3.sub (n:=1) (xs:=[_]) rfl) X7) ?_)))))));refine qJ fn15 (BW A B G c d cg l fs r.gr _ (hTy.mono hB) hv h60 (hF.mono hB) (hG.mono hB) hfo) rfl (fun e' w3 hr=>?_);obtain⟨rfl,hs⟩:=hr;replace hs:=sB hs;replace hB:=hB.tr0 hs;replace hb2:=hb2.tr0 hs;replace hb3:=hb3.tr0 hs;refine⟨_,rfl,?_⟩;refine vx (cs:=#[.int .i64 0,.int .i64 0]) y7 rfl (fun _=>rfl) (fun _=>rfl) zy rfl qY (fun b5 w5 hb5 hs hr=>?_);replace hB:=hB.tr0 hs;replace hb3:=hb3.tr0 hs;refine zx (e_S (zz (z4 (wl (q8 U43 zX dE rfl rfl rfl) (wl (zQ (v:= .int _ _) U3 rfl rfl (hb5.cell rfl)) (wl (jq rfl rfl) (zx (e_S ?_))))))));refine qv rfl (fun c31=>?_) (fun c31=>?_)
 ·refine zz (z4 (wl (q8 U43 zX dE rfl rfl rfl) (wl (zQ (v:= .int _ _) U3 rfl rfl (hb5.cell rfl)) (waI rfl (zx (e_S (qq (qV (x7 (.inl rfl) rfl rfl ?_)))))))));exact⟨Q4 (rl_gr c24 c31),hB⟩
 have hin:=Decidable.not_not.1 c31;have hk0:=S4 (NX hin);have h0:=hk0.pos;refine zK (e_S (zz (zz (z4 (wmI rfl (zx (e_S (qz ?_))))))));refine xj [4,6,34,35,36,37,38,39,40,41,42,43,44,45,46,47] (fun m g w'=>∃ j:Nat,j≤4∧m=4 - j∧g 34= .int .i64 j∧Bel w w'∧Blk w' b3 41 #[.string (r).name,.slice G (r).gr.length cg,.int .i64 (r).kids,.int .i64 (r).wt,.int .i64 ((r).mean).kind,.string ((r).mean).name,.int .i64 ((r).mean).index,.string ((r).mean).type.base,.slice SA ((r).mean).type.args.length cs,.slice BA ((r).mean).args.length mB]∧∀ f,f < j→plN r.gr r.kids f=true) (4) ?_ (fun m g7 w6 hI=>?_)
 ·exact⟨0,by omega,rfl,rfl,hB,hb3,fun f hf=>by omega⟩
 obtain⟨j,hj,hm,h34,hB,hb3,hall⟩:=hI;refine qx 34 (.int .i64 j) h34 nu (zz (z4 (wl (xv rfl rfl) (zx (e_S (zz ?_))))));refine qv rfl (fun c35=>?_) (fun c35=>?_)
 ·refine zK (e_S (zz (qz (zz (z4 (wmI rfl (waI rfl (zx (e_S (zz ?_))))))))));refine vy 10 [37,38,39,40,41,42,43,44,45,46] (fun _=>false) (fun ix v wv=>match ix with | 0=>v= .pointer (some ⟨b3,1,none⟩) | 1=>v= .agg #[.slice G (r.gr).length cg] | 2=>v= .int .i64 j | 3=>v= .int .i64 (tgt (r.gr[0]'h0).ln ((j:Nat):Int)) | 4=>v= .bool (decide ((0:Int)≤(tgt (r.gr[0]'h0).ln ((j:Nat):Int)))) | 5=>v= .int .i64 j | 6=>v= .pointer (some ⟨b3,2,none⟩) | 7=>v= .int .i64 r.kids | 8=>v= .bool (decide (((j:Nat):Int)≤r.kids)) | 9=>v= .bool (!(decide ((0:Int)≤(tgt (r.gr[0]'h0).ln ((j:Nat):Int))) == decide (((j:Nat):Int)≤r.kids))) | _=>True) kR kR ?_ ?_ ?_
  ·intro ix v wv wv2 h hs
   match ix,h with
   | 0,h=>exact h
   | 1,h=>exact h
   | 2,h=>exact h
   | 3,h=>exact h
   | 4,h=>exact h
   | 5,h=>exact h
   | 6,h=>exact h
   | 7,h=>exact h
   | 8,h=>exact h
   | 9,h=>exact h
   | _ + 10,h=>exact trivial
  ·intro ix o hix hoq gg wx hs hd hdis
   match ix,hix,hoq with
   | 0,_,hoq=>
    cases sI hoq;exact oV (q8 U41 X7 dE rfl rfl rfl) rfl
   | 1,_,hoq=>
    cases sI hoq;replace hb3:=hb3.tr0 hs;refine zq 37 (.pointer (some ⟨b3,1,none⟩)) (hd 0 (zj kR)) nu ?_;exact oV (zV U30 rfl rfl (hb3.sub (n:=1) (xs:=[_]) rfl) X7) rfl
   | 2,_,hoq=>
    cases sI hoq;exact oV (qw (v:= .int _ _) rfl) rfl
   | 3,_,hoq=>
    cases sI hoq;replace hB:=hB.tr0 hs;refine zq 38 (.agg #[.slice G (r.gr).length cg]) (hd 1 (zj kR)) nu (zq 39 (.int .i64 j) (hd 2 (zj kR)) nu ?_);refine x5 fn73 (Tq G cg r.gr 0 ((j:Nat):Int) wx (hG.mono hB) h0) rfl (fun e' w2 hr=>?_);obtain⟨rfl,hs⟩:=hr;exact⟨_,rfl,sB hs,rfl,zY⟩
   | 4,_,hoq=>
    cases sI hoq;refine zq 40 (.int .i64 (tgt (r.gr[0]'h0).ln ((j:Nat):Int))) (hd 3 (zj kR)) nu ?_;exact oV (jJ rfl rfl) rfl
   | 5,_,hoq=>
    cases sI hoq;exact oV (qw (v:= .int _ _) rfl) rfl
   | 6,_,hoq=>
    cases sI hoq;exact oV (q8 U41 zX dE rfl rfl rfl) rfl
   | 7,_,hoq=>
    cases sI hoq;replace hb3:=hb3.tr0 hs;refine zq 43 (.pointer (some ⟨b3,2,none⟩)) (hd 6 (zj kR)) nu ?_;exact oV (zQ (v:= .int _ _) U3 rfl rfl (hb3.cell rfl)) rfl
   | 8,_,hoq=>
    cases sI hoq;refine zq 42 (.int .i64 j) (hd 5 (zj kR)) nu (zq 44 (.int .i64 r.kids) (hd 7 (zj kR)) nu ?_);exact oV (uy rfl rfl) rfl
   | 9,_,hoq=>
    cases sI hoq;refine zq 41 (.bool (decide ((0:Int)≤(tgt (r.gr[0]'h0).ln ((j:Nat):Int))))) (hd 4 (zj kR)) nu (zq 45 (.bool (decide (((j:Nat):Int)≤r.kids))) (hd 8 (zj kR)) nu ?_);exact oV (D5 U4 rfl rfl) rfl
   | _ + 10,hix,_=>exact absurd hix om
  intro gg w7 hs hR hdis;replace hB:=hB.tr0 hs;replace hb3:=hb3.tr0 hs;refine xx 46 (.bool (!(decide ((0:Int)≤(tgt (r.gr[0]'h0).ln ((j:Nat):Int))) == decide (((j:Nat):Int)≤r.kids)))) (hR 9 dE) nu (zx (e_S ?_));refine kK rfl (fun c46=>?_) (fun c46=>?_)
  ·have hpl:plN r.gr r.kids j=false:=by
     have h:=c46;rw [Bool.not_eq_true'] at h;rw [DJ h0];exact h
   refine zz (z4 (waI rfl (zx (e_S (qq (x8 (qV (yq (x8 (qV (x7 (.inl rfl) rfl rfl ?_)))))))))));exact⟨Q4 (rl_pl c24 hin (pl_no om hpl)),hB⟩
  have hpl:plN r.gr r.kids j=true:=by
    have h:=c46;rw [Bool.not_eq_false'] at h;rw [DJ h0];exact h
  refine zK (e_B (e_S (z4 (wl (y6 rfl rfl rfl om) (wmI rfl (zx (yV (4 - (j + 1)) om agA ?_)))))))
  exact⟨j + 1,by omega,rfl,rfl,hB,hb3,fun f hf=>by
    by_cases e:f=j
    · rw [e];exact hpl
    · exact hall f om⟩
 refine xw (vK (yv (vV (e_S (zz (z4 (wl (q8 U41 oz dE rfl rfl rfl) (wl (zV U39 rfl rfl (hb3.sub (n:=6) (xs:=[_,_,_,_,_,_]) rfl) oz) ?_))))))));refine qJ fn74 (EY SA BA cs mB r.mean _ (hS.mono hB) (hT.mono hB)) rfl (fun e' w8 hr=>?_);obtain⟨rfl,hs⟩:=hr;replace hs:=sB hs;replace hB:=hB.tr0 hs;refine⟨_,rfl,?_⟩;refine wl (P5 (v:= .int _ _) U43 rfl U3 rfl rfl rfl) (waI rfl (zx (e_S (qq (x7 (.inl rfl) rfl rfl ?_)))));exact⟨Q4 (rl_ok c24 hin (pl_yes (fun f hf=>hall f om))),hB⟩
end Go.Proofs.YtfkbjncidemcbaaDoor
namespace Go.Proofs.YtfkbjncidemcbaaDoor
open Go.RowKit
theorem fn42:qZ Tryd.prog 42=true:=by kernel_rfl
theorem fn44:qZ Tryd.prog 44=true:=by kernel_rfl
theorem fn45:qZ Tryd.prog 45=true:=by kernel_rfl
theorem Ej:(Tryd.prog.info? 26).map (·.size)=some 1:=by kernel_rfl
theorem T4:(Tryd.prog.info? 27).map (·.size)=some 1:=by kernel_rfl
theorem ZV:(Tryd.prog.info? 41).map (·.size)=some 10:=by kernel_rfl
theorem K3:(Tryd.prog.info? 56).map (·.size)=some 9:=by kernel_rfl
theorem Sv:(Tryd.prog.info? 41).map (·.zero)=some (some (.agg #[.string ⟨#[]⟩,.slice none 0 0,.int .i64 0,.int .i64 0,.int .i64 0,.string ⟨#[]⟩,.int .i64 0,.string ⟨#[]⟩,.slice none 0 0,.slice none 0 0])):=by kernel_rfl
theorem ze56_GFt:(Tryd.prog.info? 56).map (·.zero)=some (some (.agg #[.string ⟨#[]⟩,.slice none 0 0,.int .i64 0,.int .i64 0,.string ⟨#[]⟩,.int .i64 0,.string ⟨#[]⟩,.slice none 0 0,.slice none 0 0])):=by kernel_rfl
set_option maxHeartbeats 2000000 in
theorem Oy (AT AF AR AX AS:Option Addr) (ct cf cr cx cst:Nat) (l:List Ty) (fs:List Ft) (rs:List Rl) (xs:List Lx) (st:List Nd) (w:World) (hct:l.length≤ct) (hcf:fs.length≤cf) (hcr:rs.length≤cr) (hTy:TypesIn w AT l) (hF:FeatsIn w AF fs) (hRu:RulesIn w AR rs) (hLx:LexesIn w AX xs) (hG:NodesIn w AS st):Calls Tryd.prog 10 #[.agg #[.slice AT l.length ct,.slice AF fs.length cf,.slice AR rs.length cr,.slice AX xs.length cx,.slice AS st.length cst]] w fun e w'=>e= .returned (flV (uj l fs rs xs st))∧Bel w w':=by
 refine enter Tryd.func10 Tryd.ntmps10 rfl (Nat.le_of_ble_eq_true rfl) ?_;have hB:Bel w w:=Below.refl _ _;refine zz (z4 ?_);refine yQ (v:= .agg #[_,_,_,_,_]) (cs:=#[_,_,_,_,_]) rfl rfl (fun b1 w1 hb1 hs hr=>?_);replace hB:=hB.tr0 hs;refine y8 (cs:=#[.int .i64 0,.int .i64 0]) y7 rfl (fun b2 w2 hb2 hs hr=>?_);have lo2:=nLT (Bel.size hB) hr;replace hB:=hB.tr0 hs;replace hb1:=hb1.tr0 hs;refine zx (e_S (zz (zz (z4 (wl (q8 U32 QW dE rfl rfl rfl) (wl (zV U25 rfl rfl (hb1.sub (n:=2) (xs:=[_,_]) rfl) QW) ?_))))));refine qJ fn42 (Ow AT AF ct cf l fs _ hct hcf (hTy.mono hB) (hF.mono hB)) rfl (fun e' w3 hr=>?_);obtain⟨rfl,hs⟩:=hr;replace hs:=sB hs;replace hB:=hB.tr0 hs;replace hb1:=hb1.tr0 hs;replace hb2:=hb2.tr0 hs;refine⟨_,rfl,?_⟩;refine vx (cs:=#[.int .i64 0,.int .i64 0]) y7 rfl (fun _=>rfl) (fun _=>rfl) zy rfl qY (fun b3 w5 hb3 hs hr=>?_);replace hB:=hB.tr0 hs;replace hb1:=hb1.tr0 hs;replace hb2:=hb2.tr0 hs;refine zx (e_S (zz (z4 (wl (q8 U43 zX dE rfl rfl rfl) (wl (zQ (v:= .int _ _) U3 rfl rfl (hb3.cell rfl)) (wl (jq rfl rfl) (zx (e_S ?_))))))));refine qv rfl (fun c18=>?_) (fun c18=>?_)
 ·refine zz (z4 (wl (zV U43 rfl rfl hb3.range0 zy) ?_));refine qk hb2 rfl rfl zy rfl qY (fun w6 hq hs=>?_);replace hB:=hB.tr1 hs lo2;replace hb2:=hq;refine zx (e_S (qq (qV (x7 (.inl rfl) rfl (qy U43 rfl rfl hb2.range0 zy) ?_))));exact⟨xK (L6 c18),hB⟩
 have h0:=Decidable.not_not.1 c18;have hS:=T7 h0;have hfo:=fok_of h0;have h40:=Px h0;refine zK (e_S (zz (zz (z4 (wl (q8 U32 QW dE rfl rfl rfl) (wl (q8 U25 gX dE rfl rfl rfl) (wl (zQ (v:= .slice _ _ _) U23 rfl rfl (hb1.cell rfl)) (wl (xk U23 rfl) (wl (uy rfl rfl) (zx (e_S ?_)))))))))));refine qv rfl (fun c24=>?_) (fun c24=>?_)
 ·refine zz (z4 (wl (jk (v0:= .int _ _) (v1:= .int _ _) (fun v0 v1=>#[v0,v1]) rfl rfl kR) ?_));refine qk hb2 rfl rfl zy rfl qY (fun w7 hq hs=>?_);replace hB:=hB.tr1 hs lo2;replace hb2:=hq;refine zx (e_S (qq (qV (x7 (.inl rfl) rfl (qy U43 rfl rfl hb2.range0 zy) ?_))));exact⟨xK (gr_few h0 om),hB⟩
 have hf3:¬fs.length≤3:=by omega
 refine zK (e_S (zz (zz ?_)));refine yx [26,27,28,29,30,31,32,33,34,35] 35 (.bool (decide (40 < rs.length∨100 < xs.length))) nu ?_ (fun gq=>?_)
 ·refine z4 (wl (q8 U32 Ej dE rfl rfl rfl) (wl (zQ (v:= .slice _ _ _) U26 rfl rfl (hb1.cell rfl)) (wl (xk U26 rfl) (wl (vW rfl rfl) (wmB rfl ?_)))));refine zJ 30 rfl (fun g30=>?_) (fun g30=>?_)
  ·refine zw 30 rfl rfl rfl (zw 30 rfl rfl rfl (zw 30 rfl rfl rfl (zw 30 rfl rfl rfl (wl (qX (v:= .bool _) rfl rfl) ?_))));refine zx (e_R ⟨rfl,agA,?_⟩);exact clA
  refine zk 30 rfl rfl (wl (q8 U32 T4 dE rfl rfl rfl) (zk 30 rfl rfl (wl (zQ (v:= .slice _ _ _) U27 rfl rfl (hb1.cell rfl)) (zk 30 rfl rfl (wl (xk U27 rfl) (zk 30 rfl rfl (wl (vW rfl rfl) (wl (xq (v:= .bool _) rfl rfl) ?_))))))));refine zx (e_R ⟨rfl,agA,?_⟩);exact clA
 refine e_S ?_;refine qv rfl (fun h38=>?_) (fun h38=>?_)
 ·refine zz (z4 (wl (jk (v0:= .int _ _) (v1:= .int _ _) (fun v0 v1=>#[v0,v1]) rfl rfl kR) ?_));refine qk hb2 rfl rfl zy rfl qY (fun w8 hq hs=>?_);replace hB:=hB.tr1 hs lo2;replace hb2:=hq;refine zx (e_S (qq (qV (x7 (.inl rfl) rfl (qy U43 rfl rfl hb2.range0 zy) ?_))));exact⟨xK (L5 h0 hf3 h38),hB⟩
 refine zK (e_S (zz (zz (z4 (wl (q8 U32 Ej dE rfl rfl rfl) (wl (zQ (v:= .slice _ _ _) U26 rfl rfl (hb1.cell rfl)) (wl (xk U26 rfl) (wmI rfl (zx (e_S (qz ?_)))))))))));refine xj [4,5,7,8,40,41,42,43,44,45,46,47,48,49,50,51,52,53,54,55,56,57,58,59,60,61,62,63,64,65,66,67,68,69,70,71,72,73,74,75,76,77] (fun m g w'=>∃ k:Nat,k≤rs.length∧m=rs.length - k∧g 40= .int .i64 k∧Bel w w'∧Blk w' b1 32 #[.slice AT l.length ct,.slice AF fs.length cf,.slice AR rs.length cr,.slice AX xs.length cx,.slice AS st.length cst]∧Blk w' b2 43 #[.int .i64 0,.int .i64 0]∧y9 (oJ l fs rs) 0 rs.length=y9 (oJ l fs rs) k (rs.length - k)) (rs.length) ?_ (fun m g9 w9 hI=>?_)
 ·exact⟨0,Nat.zero_le _,rfl,rfl,hB,hb1,hb2,rfl⟩
 obtain⟨k,hk,hm,h40s,hB,hb1,hb2,hR'⟩:=hI;refine qx 40 (.int .i64 k) h40s nu (zz (z4 (wl (xv rfl rfl) (zx (e_S (zz ?_))))));refine qv rfl (fun c41=>?_) (fun c41=>?_)
 ·have hlt:k < rs.length:=by omega
  obtain⟨tb,to,Gk,cgk,Sk,csk,Bk,mk,rfl,htb,htr,hGk,hSk,hTk⟩:=hRu.at_ hB hlt;refine zK (e_S (zz (qz (zz (z4 (wmI rfl (wl (xQ (i:=k) U26 ZV rfl rfl om rfl) (wl (zV U41 rfl rfl htr ZV) ?_))))))));refine y8 (cs:=#[.string ⟨#[]⟩,.slice none 0 0,.int .i64 0,.int .i64 0,.int .i64 0,.string ⟨#[]⟩,.int .i64 0,.string ⟨#[]⟩,.slice none 0 0,.slice none 0 0]) Sv rfl (fun b5 w10 hb5 hs hr=>?_);have:=nLL hb1.lt hr;have:=nLL hb2.lt hr;have lo5:=nLT (Bel.size hB) hr;replace hB:=hB.tr0 hs;replace hb1:=hb1.tr0 hs;replace hb2:=hb2.tr0 hs;refine waI rfl ?_;refine qk hb5 rfl rfl ZV rfl qY (fun w11 hq hs=>?_);replace hB:=hB.tr1 hs lo5;replace hb1:=hb1.tr1 hs om;replace hb2:=hb2.tr1 hs om;replace hb5:=hq;refine zx (e_S (zz (zz (z4 (wl (q8 U41 o6 dE rfl rfl rfl) (wl (zQ (v:= .string _) U9 rfl rfl (hb5.cell rfl)) ?_))))));refine qJ N3 (Mx _ _) rfl (fun e' w12 hr=>?_);obtain⟨rfl,hs⟩:=hr;replace hs:=sB hs;replace hB:=hB.tr0 hs;replace hb1:=hb1.tr0 hs;replace hb2:=hb2.tr0 hs;replace hb5:=hb5.tr0 hs;refine⟨_,rfl,?_⟩;refine wl (j7 rfl) (zx (e_S ?_));refine kK rfl (fun c48=>?_) (fun c48=>?_)
  ·have hty:=rn10 (l:=l) (fs:=fs) hlt (by simpa using c48);refine zz (z4 (wmI rfl (wl (jk (v0:= .int _ _) (v1:= .int _ _) (fun v0 v1=>#[v0,v1]) rfl rfl kR) ?_)));refine qk hb2 rfl rfl zy rfl qY (fun w13 hq hs=>?_);replace hB:=hB.tr1 hs lo2;replace hb2:=hq;refine zx (e_S (qq (qV (x8 (qV (yq (x8 (qV (x7 (.inl rfl) rfl (qy U43 rfl rfl hb2.range0 zy) ?_)))))))));exact⟨xK (Yx h0 hf3 h38 (hR'.trans (xy om hty (show (10:Int)≠0 by decide))) (show (10:Int)≠0 by decide)),hB⟩
  have hnm:vZ (rs[k]'hlt).name=true:=by simpa using c48
  refine zK (e_S (zz (zz (z4 (wl (q8 U32 Ej dE rfl rfl rfl) (wl (zQ (v:= .slice _ _ _) U26 rfl rfl (hb1.cell rfl)) (wmI rfl (wl (P4 (h:=k) U26 ZV rfl rfl om) (wl (xk U26 rfl) (wmI rfl (zx (e_S (qz ?_)))))))))))));refine xj [7,56,57,58,59,60,61,62,63,64,65,66,67] (fun m g w'=>∃ j:Nat,j≤k∧m=k - j∧g 56= .int .i64 j∧Bel w w'∧Blk w' b1 32 #[.slice AT l.length ct,.slice AF fs.length cf,.slice (some ⟨tb,to,none⟩) rs.length cr,.slice AX xs.length cx,.slice AS st.length cst]∧Blk w' b2 43 #[.int .i64 0,.int .i64 0]∧Blk w' b5 41 #[.string (rs[k]'hlt).name,.slice Gk (rs[k]'hlt).gr.length cgk,.int .i64 (rs[k]'hlt).kids,.int .i64 (rs[k]'hlt).wt,.int .i64 (rs[k]'hlt).mean.kind,.string (rs[k]'hlt).mean.name,.int .i64 (rs[k]'hlt).mean.index,.string (rs[k]'hlt).mean.type.base,.slice Sk (rs[k]'hlt).mean.type.args.length csk,.slice Bk (rs[k]'hlt).mean.args.length mk]∧u3 ((rs.take j).map (·.name)) (rs[k]'hlt).name=false) (k) ?_ (fun m g14 w14 hI=>?_)
  ·exact⟨0,Nat.zero_le _,rfl,rfl,hB,hb1,hb2,hb5,rfl⟩
  obtain⟨j,hj,hmj,h56,hB,hb1,hb2,hb5,hse⟩:=hI;refine qx 56 (.int .i64 j) h56 nu (zz (z4 (wl (xv rfl rfl) (zx (e_S (zz ?_))))));refine qv rfl (fun c57=>?_) (fun c57=>?_)
  ·have hjt:j < rs.length:=by omega
   obtain⟨ub,uo,Gj,cgj,Sj,csj,Bj,mj,he,hub,hur,hGj,hSj,hTj⟩:=hRu.at_ hB hjt;cases he;refine zK (e_S (zz (qz (zz (z4 (wl (xQ (i:=j) U26 ZV rfl rfl om rfl) (wl (zV U41 rfl rfl hur ZV) ?_)))))));refine vx (cs:=#[.string ⟨#[]⟩,.slice none 0 0,.int .i64 0,.int .i64 0,.int .i64 0,.string ⟨#[]⟩,.int .i64 0,.string ⟨#[]⟩,.slice none 0 0,.slice none 0 0]) Sv rfl (fun _=>rfl) (fun _=>rfl) ZV rfl qY (fun b7 w16 hb7 hs hr=>?_);replace hB:=hB.tr0 hs;replace hb1:=hb1.tr0 hs;replace hb2:=hb2.tr0 hs;replace hb5:=hb5.tr0 hs;refine zx (e_S (zz (z4 (wl (q8 U41 o6 dE rfl rfl rfl) (wl (zQ (v:= .string _) U9 rfl rfl (hb7.cell rfl)) (wl (q8 U41 o6 dE rfl rfl rfl) (wl (zQ (v:= .string _) U9 rfl rfl (hb5.cell rfl)) (wl (Zx rfl rfl) (zx (e_S ?_))))))))));refine qv rfl (fun c64=>?_) (fun c64=>?_)
   ·have hty:=rn7 (l:=l) (fs:=fs) hlt hnm (rseen_yes hlt om c64);refine zz (z4 (wmI rfl (wl (jk (v0:= .int _ _) (v1:= .int _ _) (fun v0 v1=>#[v0,v1]) rfl rfl kR) ?_)));refine qk hb2 rfl rfl zy rfl qY (fun w17 hq hs=>?_);replace hB:=hB.tr1 hs lo2;replace hb2:=hq;refine zx (e_S (qq (x8 (qV (yq (x8 (qV (x8 (qV (yq (x8 (qV (x7 (.inl rfl) rfl (qy U43 rfl rfl hb2.range0 zy) ?_)))))))))))));exact⟨xK (Yx h0 hf3 h38 (hR'.trans (xy om hty (show (7:Int)≠0 by decide))) (show (7:Int)≠0 by decide)),hB⟩
   have hse':u3 ((rs.take (j + 1)).map (·.name)) (rs[k]'hlt).name=false:=by rw [gZ rs hjt,List.map_append,List.map_cons,List.map_nil,Qq,hse];simp [c64]
   refine zK (e_B (e_S (z4 (wl (y6 rfl rfl rfl om) (wmI rfl (zx (yV (k - (j + 1)) om agA ?_)))))));exact⟨j + 1,by omega,rfl,rfl,hB,hb1,hb2,hb5,hse'⟩
  have hsn:u3 ((rs.take k).map (·.name)) (rs[k]'hlt).name=false:=by
    have e:k=j:=by omega
    subst e;exact hse
  refine xw (vK (yv (vV (e_S (zz (z4 (wl (q8 U32 QW dE rfl rfl rfl) (wl (zV U25 rfl rfl (hb1.sub (n:=2) (xs:=[_,_]) rfl) QW) (wl (zV U41 rfl rfl hb5.range0 ZV) ?_)))))))));refine qJ fn44 (ruler_any AT AF Gk Sk Bk ct cf cgk csk mk l fs (rs[k]'hlt) _ (hTy.mono hB) hS.vt hS.le (hF.mono hB) hfo (hGk.mono hB) (hSk.mono hB) (hTk.mono hB)) rfl (fun e' w18 hr=>?_);obtain⟨rfl,hs⟩:=hr;replace hs:=sB hs;replace hB:=hB.tr0 hs;replace hb1:=hb1.tr0 hs;replace hb2:=hb2.tr0 hs;refine⟨_,rfl,?_⟩;refine waI rfl (zx (e_S (zz (z4 (wmI rfl (wl (jq rfl rfl) (zx (e_S ?_))))))));refine qv rfl (fun c73=>?_) (fun c73=>?_)
  ·have hty:=rnF (l:=l) (fs:=fs) hlt hnm hsn;refine zz (z4 (wmI rfl (wmI rfl (wl (jk (v0:= .int _ _) (v1:= .int _ _) (fun v0 v1=>#[v0,v1]) rfl rfl kR) ?_))));refine qk hb2 rfl rfl zy rfl qY (fun w19 hq hs=>?_);replace hB:=hB.tr1 hs lo2;replace hb2:=hq;refine zx (e_S (qq (x8 (qV (yq (x8 (qV (x7 (.inl rfl) rfl (qy U43 rfl rfl hb2.range0 zy) ?_))))))));exact⟨xK (Yx h0 hf3 h38 (hR'.trans (xy om hty c73)) c73),hB⟩
  have hty0:=(rnF (l:=l) (fs:=fs) hlt hnm hsn).trans (Decidable.not_not.1 c73);refine zK (e_B (e_S (z4 (wl (y6 rfl rfl rfl om) (wmI rfl (zx (yV (rs.length - (k + 1)) om agA ?_)))))));exact⟨k + 1,by omega,rfl,rfl,hB,hb1,hb2,hR'.trans (vY hlt hty0)⟩
 have hRz:y9 (oJ l fs rs) 0 rs.length=(0,0):=hR'.trans (jw om);refine xw (vK (yv (vV (e_S (zz (zz (z4 (wl (q8 U32 T4 dE rfl rfl rfl) (wl (zQ (v:= .slice _ _ _) U27 rfl rfl (hb1.cell rfl)) (wl (xk U27 rfl) (wmI rfl (zx (e_S (qz ?_))))))))))))));refine xj [9,10,11,81,82,83,84,85,86,87,88,89,90,91,92,93,94,95] (fun m g w'=>∃ q:Nat,q≤xs.length∧m=xs.length - q∧g 81= .int .i64 q∧Bel w w'∧Blk w' b1 32 #[.slice AT l.length ct,.slice AF fs.length cf,.slice AR rs.length cr,.slice AX xs.length cx,.slice AS st.length cst]∧Blk w' b2 43 #[.int .i64 0,.int .i64 0]∧y9 (Mv l fs xs) 0 xs.length=y9 (Mv l fs xs) q (xs.length - q)) (xs.length) ?_ (fun m g24 w20 hI=>?_)
 ·exact⟨0,Nat.zero_le _,rfl,rfl,hB,hb1,hb2,rfl⟩
 obtain⟨q,hq,hm,h81,hB,hb1,hb2,hL'⟩:=hI;refine qx 81 (.int .i64 q) h81 nu (zz (z4 (wl (xv rfl rfl) (zx (e_S (zz ?_))))));refine qv rfl (fun c82=>?_) (fun c82=>?_)
 ·have hlq:q < xs.length:=by omega
  obtain⟨ub,uo,Gk,cgk,Sk,csk,Bk,mk,rfl,hub,hszq,hur,hGk,hSk,hTk⟩:=hLx.at_ hB hlq;refine zK (e_S (zz (qz (zz (z4 (wmI rfl (wl (xQ (i:=q) U27 K3 rfl rfl om rfl) (wl (zV U56 rfl rfl hur K3) ?_))))))));refine y8 (cs:=#[.string ⟨#[]⟩,.slice none 0 0,.int .i64 0,.int .i64 0,.string ⟨#[]⟩,.int .i64 0,.string ⟨#[]⟩,.slice none 0 0,.slice none 0 0]) ze56_GFt rfl (fun b10 w21 hb10 hs hr=>?_);have:=nLL hb1.lt hr;have:=nLL hb2.lt hr;have lo10:=nLT (Bel.size hB) hr;replace hB:=hB.tr0 hs;replace hb1:=hb1.tr0 hs;replace hb2:=hb2.tr0 hs;refine waI rfl ?_;refine qk hb10 rfl rfl K3 rfl qY (fun w22 hq hs=>?_);replace hB:=hB.tr1 hs lo10;replace hb1:=hb1.tr1 hs om;replace hb2:=hb2.tr1 hs om;replace hb10:=hq;refine zx (e_S (zz (z4 (wl (q8 U32 QW dE rfl rfl rfl) (wl (zV U25 rfl rfl (hb1.sub (n:=2) (xs:=[_,_]) rfl) QW) (wl (zV U56 rfl rfl hb10.range0 K3) ?_))))));refine qJ fn45 (lexr_any AT AF Gk Sk Bk ct cf cgk csk mk l fs (xs[q]'hlq) _ (hTy.mono hB) hS.vt hS.le (hF.mono hB) hfo (hGk.mono hB) (hSk.mono hB) (hTk.mono hB) hszq) rfl (fun e' w23 hr=>?_);obtain⟨rfl,hs⟩:=hr;replace hs:=sB hs;replace hB:=hB.tr0 hs;replace hb1:=hb1.tr0 hs;replace hb2:=hb2.tr0 hs;refine⟨_,rfl,?_⟩;refine waI rfl (zx (e_S (zz (z4 (wmI rfl (wl (jq rfl rfl) (zx (e_S ?_))))))));refine qv rfl (fun c91=>?_) (fun c91=>?_)
  ·have hly:=lnF (l:=l) (fs:=fs) hlq;refine zz (z4 (wmI rfl (wmI rfl (wl (jk (v0:= .int _ _) (v1:= .int _ _) (fun v0 v1=>#[v0,v1]) rfl rfl kR) ?_))));refine qk hb2 rfl rfl zy rfl qY (fun w24 hq hs=>?_);replace hB:=hB.tr1 hs lo2;replace hb2:=hq;refine zx (e_S (qq (x8 (qV (yq (x8 (qV (x7 (.inl rfl) rfl (qy U43 rfl rfl hb2.range0 zy) ?_))))))));exact⟨xK (gr_lex h0 hf3 h38 hRz (hL'.trans (xy om hly c91)) c91),hB⟩
  have hly0:=(lnF (l:=l) (fs:=fs) hlq).trans (Decidable.not_not.1 c91);refine zK (e_B (e_S (z4 (wl (y6 rfl rfl rfl om) (wmI rfl (zx (yV (xs.length - (q + 1)) om agA ?_)))))));exact⟨q + 1,by omega,rfl,rfl,hB,hb1,hb2,hL'.trans (vY hlq hly0)⟩
 have hLz:y9 (Mv l fs xs) 0 xs.length=(0,0):=hL'.trans (jw om);refine xw (vK (yv (vV (e_S (zz (zz (z4 (wl (q8 U32 QW dE rfl rfl rfl) (wl (zV U25 rfl rfl (hb1.sub (n:=2) (xs:=[_,_]) rfl) QW) (wl (q8 U32 X7 dE rfl rfl rfl) (wl (zV U30 rfl rfl (hb1.sub (n:=1) (xs:=[_]) rfl) X7) ?_)))))))))));refine qJ fn15 (BW AT AF AS ct cf cst l fs st _ (hTy.mono hB) hS.vt hS.le (hF.mono hB) (hG.mono hB) hfo) rfl (fun e' w25 hr=>?_);obtain⟨rfl,hs⟩:=hr;replace hs:=sB hs;replace hB:=hB.tr0 hs;replace hb1:=hb1.tr0 hs;replace hb2:=hb2.tr0 hs;refine⟨_,rfl,?_⟩;refine vx (cs:=#[.int .i64 0,.int .i64 0]) y7 rfl (fun _=>rfl) (fun _=>rfl) zy rfl qY (fun b12 w27 hb12 hs hr=>?_);replace hB:=hB.tr0 hs;replace hb2:=hb2.tr0 hs;refine zx (e_S (zz (z4 (wl (q8 U43 zX dE rfl rfl rfl) (wl (zQ (v:= .int _ _) U3 rfl rfl (hb12.cell rfl)) (wl (jq rfl rfl) (zx (e_S ?_))))))));refine qv rfl (fun c103=>?_) (fun c103=>?_)
 ·refine zz (z4 (wl (q8 U43 zX dE rfl rfl rfl) (wl (zQ (v:= .int _ _) U3 rfl rfl (hb12.cell rfl)) (wl (jk (v0:= .int _ _) (v1:= .int _ _) (fun v0 v1=>#[v0,v1]) rfl rfl kR) ?_))));refine qk hb2 rfl rfl zy rfl qY (fun w28 hq hs=>?_);replace hB:=hB.tr1 hs lo2;replace hb2:=hq;refine zx (e_S (qq (qV (x7 (.inl rfl) rfl (qy U43 rfl rfl hb2.range0 zy) ?_))));exact⟨xK (Rq h0 hf3 h38 hRz hLz c103),hB⟩
 refine zK (e_S (zz (z4 (wl (ZY (vs:=#[]) (cs:=#[.int .i64 0,.int .i64 0]) (by simp) kR) ?_))));refine qk hb2 rfl rfl zy rfl qY (fun w29 hq hs=>?_);replace hB:=hB.tr1 hs lo2;replace hb2:=hq;refine zx (e_S (qq (x7 (.inl rfl) rfl (qy U43 rfl rfl hb2.range0 zy) ?_)));exact⟨xK (gr_ok h0 hf3 h38 hRz hLz (Decidable.not_not.1 c103)),hB⟩
end Go.Proofs.YtfkbjncidemcbaaDoor
namespace Go.Proofs.YtfkbjncidemcbaaDoor
open Go.RowKit
theorem Fk:Rz smallT smallF smallRs smallXs smallS=true:=by decide +kernel
theorem LW:Rz twinT twinF twinRs twinXs twinS=true:=by decide +kernel
theorem twin_ok:uj twinT twinF twinR twinX twinS=(0,0):=gram_ok LW
def badR:List Rl:=W6 1 3 xZ
theorem bad_fault:uj smallT smallF badR smallX smallS=(5,1):=by
  have hB:=Fk;simp only [Rz,Bool.and_eq_true,decide_eq_true_eq] at hB;obtain⟨⟨⟨⟨⟨⟨h1,h2⟩,h3⟩,h4⟩,h5⟩,h6⟩,h7⟩:=hB;have hl:badR.length=6:=rfl;have e0:oJ smallT smallF badR 0=0:=Hj h5 (i:=0) dE;have e1:oJ smallT smallF badR 1=5:=by
    rw [rnF (i:=1) dE (by decide +kernel) (by decide +kernel)];refine rl_pl (by decide +kernel) ?_ (by decide +kernel);rw [S3 (by decide +kernel)]
  refine Yx h1 om dE ?_ dE;rw [hl];exact(vY (i:=0) (n:=6) dE e0).trans (xy dE e1 dE)
theorem badval {w:World} {AT AF AR AX AS:Option Addr} {ct cf cr cx cst:Nat} (hTab:TabIn w) (hU:U8In w) (hTy:TypesIn w AT smallT) (hF:FeatsIn w AF smallF) (hRu:RulesIn w AR badR) (hLx:LexesIn w AX smallX) (hG:NodesIn w AS smallS):Calls Tryd.prog 8 #[.agg #[.slice AT smallT.length ct,.slice AF smallF.length cf,.slice AR 6 cr,.slice AX smallX.length cx,.slice AS smallS.length cst]] w fun e w'=>e= .returned (.agg #[.int .i64 5,.int .i64 1])∧Bel w w':=by
  have h:=Vx AT AF AR AX AS ct cf cr cx cst smallT smallF badR smallX smallS w hTab hU hTy hF hRu hLx hG;rw [bad_fault] at h;exact h
theorem twinval {w:World} {AT AF AR AX AS:Option Addr} {ct cf cr cx cst:Nat} (hTab:TabIn w) (hU:U8In w) (hTy:TypesIn w AT twinT) (hF:FeatsIn w AF twinF) (hRu:RulesIn w AR twinR) (hLx:LexesIn w AX twinX) (hG:NodesIn w AS twinS):Calls Tryd.prog 8 #[.agg #[.slice AT twinT.length ct,.slice AF twinF.length cf,.slice AR twinR.length cr,.slice AX twinX.length cx,.slice AS twinS.length cst]] w fun e w'=>e= .returned (.agg #[.int .i64 0,.int .i64 0])∧Bel w w':=by
  have h:=Vx AT AF AR AX AS ct cf cr cx cst twinT twinF twinR twinX twinS w hTab hU hTy hF hRu hLx hG;rw [twin_ok] at h;exact h
theorem fd43:(Tryd.prog.fieldsOf 43).toList.map (fun f=>(f.name == "_",f.type,f.offset))= [(false,3,0),(false,3,1)]:=by kernel_rfl
theorem fn10:qZ Tryd.prog 10=true:=by kernel_rfl
theorem fn7:qZ Tryd.prog 7=true:=by kernel_rfl
theorem fn8:qZ Tryd.prog 8=true:=by kernel_rfl
theorem fn9:qZ Tryd.prog 9=true:=by kernel_rfl
theorem ft43:Tryd.prog.underlying 43=some (.struct (Tryd.prog.fieldsOf 43)):=by kernel_rfl
set_option maxRecDepth 100000 in
set_option maxHeartbeats 4000000 in
theorem law31_any (AT AF AR AX AS:Option Addr) (ct cf cr cx cst:Nat) (l:List Ty) (fs:List Ft) (rs:List Rl) (xs:List Lx) (st:List Nd) (w:World) (hTab:TabIn w) (hU:U8In w) (hct:l.length≤ct) (hcf:fs.length≤cf) (hcr:rs.length≤cr) (hTy:TypesIn w AT l) (hF:FeatsIn w AF fs) (hRu:RulesIn w AR rs) (hLx:LexesIn w AX xs) (hG:NodesIn w AS st):Calls Tryd.prog 3 #[.agg #[.slice AT l.length ct,.slice AF fs.length cf,.slice AR rs.length cr,.slice AX xs.length cx,.slice AS st.length cst]] w fun e w'=>e= .returned (.bool true)∧Bel w w':=by
 refine enter Tryd.func3 Tryd.ntmps3 rfl (Nat.le_of_ble_eq_true rfl) ?_;have hB:Bel w w:=Below.refl _ _;refine zz (z4 ?_);refine yQ (v:= .agg #[_,_,_,_,_]) (cs:=#[_,_,_,_,_]) rfl rfl (fun b1 w1 hb1 hs hr=>?_);replace hB:=hB.tr0 hs;refine waB rfl (zx (e_S (zz (z4 ?_))));have hsb0:=Bel.size hB;have hz1:=hb1.lt;refine qJ fn7 (small_d _) rfl (fun e' w2 hr=>?_);obtain⟨⟨_,rfl,At1,ct1,Bf1,cf1,br,cells,A1,cap1,AS1,cst1,n1,rfl,lor,hbr,hD⟩,hs⟩:=hr;replace hs:=sB hs;replace hB:=hB.tr0 hs;replace hb1:=hb1.tr0 hs;have:=nLL hz1 lor;replace lor:=nLT hsb0 lor;refine⟨_,rfl,?_⟩;refine vx (cs:=#[.slice none 0 0,.slice none 0 0,.slice none 0 0,.slice none 0 0,.slice none 0 0]) ze32 rfl (fun _=>rfl) (fun _=>rfl) Ok rfl qY (fun b3 w4 hb3 hs hr=>?_);have:=nLL hbr.lt hr;replace hB:=hB.tr0 hs;replace hb1:=hb1.tr0 hs;replace hbr:=hbr.tr0 hs;replace hD:=hD.tr0 hs;refine zx (e_S (zz ?_));have hbl:0 + 1 * 10 + 2 < cells.size:=by
   have h:=hD.now.2.2.1.len;rw [Array.length_toList] at h;rw [h];decide
 have hne3:b3≠br:=by omega
 refine z4 (wl (q8 U32 Xw dE rfl rfl rfl) (wl (zQ (v:= .slice _ _ _) U26 rfl rfl (hb3.cell rfl)) (wl (xQ (i:=1) U26 M3 rfl rfl dE rfl) (wl (q8 U41 zX dE rfl rfl rfl) ?_))));refine j8 (v:= .int _ _) hbr rfl rfl zX hbl rfl rfl (fun w5 hq hs=>?_);replace hB:=hB.tr1 hs lor;replace hb1:=hb1.tr1 hs om;replace hD:=hD.sp1 hs hbr (.inl dE);replace hb3:=hb3.tr1 hs om;replace hbr:=hq;have hbq:Blk w5 br 41 (cells.toList.set (1 * 10 + 2) (.int .i64 3)).toArray:=by
   have e:cells.setIfInBounds 12 (.int .i64 3)=(cells.toList.set (1 * 10 + 2) (.int .i64 3)).toArray:=by apply Array.toList_inj.1;simp
   rw [← e];exact hbr
 refine zx (e_S (zz (zz (z4 (wl (zV U32 rfl rfl hb3.range0 Ok) ?_)))));refine qJ fn8 (badval (hTab.mono hB) (hU.mono hB) hD.now.1 hD.now.2.1 ((hD.now.2.2.1.kids 3 1 dE).rules hbq dE) hD.now.2.2.2.1 hD.now.2.2.2.2) rfl (fun e' w6 hr=>?_);obtain⟨rfl,hs⟩:=hr;replace hs:=sB hs;replace hB:=hB.tr0 hs;replace hb1:=hb1.tr0 hs;refine⟨_,rfl,?_⟩;refine wl (jk (v0:= .int _ _) (v1:= .int _ _) (fun v0 v1=>#[v0,v1]) rfl rfl kR) (wl (r_neF Tryd.eqGuardType43 ft43 Tryd.stoodInHeld43 fd43 U3 rfl rfl) (wl (qw (v:= .bool false) rfl) (zk 13 rfl rfl ?_)));refine qJ fn9 (twin_d _) rfl (fun e' w7 hr=>?_);obtain⟨⟨_,rfl,At2,ct2,Bf2,cf2,br2,cells2,A2,cap2,AS2,cst2,n2,rfl,lor2,hbr2,hD2⟩,hs⟩:=hr;replace hs:=sB hs;replace hB:=hB.tr0 hs;replace hb1:=hb1.tr0 hs;refine⟨_,rfl,?_⟩;refine zk 13 rfl rfl ?_;refine qJ fn8 (twinval (hTab.mono hB) (hU.mono hB) hD2.now.1 hD2.now.2.1 (hD2.now.2.2.1.rules hbr2 dE) hD2.now.2.2.2.1 hD2.now.2.2.2.2) rfl (fun e' w8 hr=>?_);obtain⟨rfl,hs⟩:=hr;replace hs:=sB hs;replace hB:=hB.tr0 hs;replace hb1:=hb1.tr0 hs;refine⟨_,rfl,?_⟩;refine zk 13 rfl rfl (wl (ZY (vs:=#[]) (cs:=#[.int .i64 0,.int .i64 0]) (by simp) kR) (zk 13 rfl rfl (wl (r_neF Tryd.eqGuardType43 ft43 Tryd.stoodInHeld43 fd43 U3 rfl rfl) (wl (xq (v:= .bool _) rfl rfl) (zx (e_S ?_))))));refine qv rfl (fun c18=>?_) (fun c18=>?_)
 ·exact absurd c18 dE
 refine zK (e_S (zz ?_));refine vy 6 [19,20,21,22,23,2] (fun _=>false) (fun ix v wv=>match ix with | 0=>v= .agg #[.slice AT l.length ct,.slice AF fs.length cf,.slice AR rs.length cr,.slice AX xs.length cx,.slice AS st.length cst] | 1=>v= .agg #[.int .i64 (uj l fs rs xs st).1,.int .i64 (uj l fs rs xs st).2] | 2=>v= .agg #[.slice AT l.length ct,.slice AF fs.length cf,.slice AR rs.length cr,.slice AX xs.length cx,.slice AS st.length cst] | 3=>v= .agg #[.int .i64 (uj l fs rs xs st).1,.int .i64 (uj l fs rs xs st).2] | 4=>v= .bool true | 5=>v= .bool true | _=>True) kR kR ?_ ?_ ?_
 ·intro ix v wv wv2 h hs
  match ix,h with
  | 0,h=>exact h
  | 1,h=>exact h
  | 2,h=>exact h
  | 3,h=>exact h
  | 4,h=>exact h
  | 5,h=>exact h
  | _ + 6,h=>exact trivial
 ·intro ix o hix hoq gg wx hs hd hdis
  match ix,hix,hoq with
  | 0,_,hoq=>
   cases sI hoq;replace hb1:=hb1.tr0 hs;exact oV (zV U32 rfl rfl hb1.range0 Ok) rfl
  | 1,_,hoq=>
   cases sI hoq;replace hB:=hB.tr0 hs;refine zq 19 (.agg #[.slice AT l.length ct,.slice AF fs.length cf,.slice AR rs.length cr,.slice AX xs.length cx,.slice AS st.length cst]) (hd 0 (zj kR)) nu ?_;refine x5 fn8 (Vx AT AF AR AX AS ct cf cr cx cst l fs rs xs st wx (hTab.mono hB) (hU.mono hB) (hTy.mono hB) (hF.mono hB) (hRu.mono hB) (hLx.mono hB) (hG.mono hB)) rfl (fun e' w2 hr=>?_);obtain⟨rfl,hs⟩:=hr;exact⟨_,rfl,sB hs,rfl,zY⟩
  | 2,_,hoq=>
   cases sI hoq;replace hb1:=hb1.tr0 hs;exact oV (zV U32 rfl rfl hb1.range0 Ok) rfl
  | 3,_,hoq=>
   cases sI hoq;replace hB:=hB.tr0 hs;refine zq 21 (.agg #[.slice AT l.length ct,.slice AF fs.length cf,.slice AR rs.length cr,.slice AX xs.length cx,.slice AS st.length cst]) (hd 2 (zj kR)) nu ?_;refine x5 fn10 (Oy AT AF AR AX AS ct cf cr cx cst l fs rs xs st wx hct hcf hcr (hTy.mono hB) (hF.mono hB) (hRu.mono hB) (hLx.mono hB) (hG.mono hB)) rfl (fun e' w2 hr=>?_);obtain⟨rfl,hs⟩:=hr;exact⟨_,rfl,sB hs,rfl,zY⟩
  | 4,_,hoq=>
   cases sI hoq;refine zq 20 (.agg #[.int .i64 (uj l fs rs xs st).1,.int .i64 (uj l fs rs xs st).2]) (hd 1 (zj kR)) nu (zq 22 (.agg #[.int .i64 (uj l fs rs xs st).1,.int .i64 (uj l fs rs xs st).2]) (hd 3 (zj kR)) nu ?_);exact oV (r_eqF Tryd.eqGuardType43 ft43 Tryd.stoodInHeld43 fd43 U3 rfl rfl) ((congrArg Value.bool (decide_eq_true ⟨rfl,rfl⟩)))
  | 5,_,hoq=>
   cases sI hoq;refine zq 23 (.bool true) (hd 4 (zj kR)) nu ?_;exact oV (oK (v:= .bool _) rfl) rfl
  | _ + 6,hix,_=>exact absurd hix om
 intro gg w9 hs hR hdis;replace hB:=hB.tr0 hs;refine xx 2 (.bool true) (hR 5 dE) nu (zx (e_S (qq (x7 (.inl rfl) rfl rfl ?_))));exact⟨rfl,hB⟩
end Go.Proofs.YtfkbjncidemcbaaDoor
namespace Go.Proofs.YtfkbjncidemcbaaDoor
open Go.RowKit Go.ChangeShapes Go.WideShapes Go.Deep Go.Joins
section
variable {H:Type} {enc:TypeId×Value→H} {P:Program} {w:World} {base:Nat} {spare:Nat→Bool} {held:Bool}
theorem W4 {t e ti:TypeId} {f0 f1:Field} {fuel:Nat} {v:Value} {x:DataW H×List MemPlace} (ht:P.underlying t=some (.slice e)) (he:P.underlying e=some (.struct #[f0,f1])) (hsz:P.cellsOf e=2) (o0:f0.offset=0) (o1:f1.offset=1) (e0:f0.type=ti) (e1:f1.type=ti)
    (hi:P.underlying ti=some (.int .i64)) (hc1:P.cellsOf ti=1) (h:DataW.trod enc P w base spare held fuel t [v]=some x):
    ∃ A xs c,v= .slice A (List.length xs) c∧xs.length≤c∧LinksIn w A xs:=by
  obtain⟨A,len,c,rfl,hl,hm,hx⟩:=Ky ht hsz dE h;by_cases h0:len=0
  · subst h0
    exact⟨A,[],c,rfl,Nat.zero_le _,Nat.zero_le _,fun h=>absurd rfl h⟩
  · obtain⟨b,o,rfl,hlt,hc⟩:=hx h0
    obtain⟨xs,hxl,hxs⟩:=u1 (p:=fun i (z:Int×Int)=>w.rangeAt b (o + i * 2) [.int .i64 z.1,.int .i64 z.2]) (n:=len) (fun i hi'=>by
      obtain⟨cs,k,y,h1,h2,h3⟩:=hc i hi';obtain⟨v0,v1,n,y0,y1,rfl,g0,g1⟩:=M2 he h1 o0 o1 (by rw [e0];exact hc1) (by rw [e1];exact hc1) h3;rw [e0] at g0;rw [e1] at g1;obtain⟨z1,h5,_,_⟩:=DataW.trod_int hi g0;obtain⟨z2,h6,_,_⟩:=DataW.trod_int hi g1;rw [kJ h5,kJ h6] at h2
      exact⟨(z1,z2),h2⟩)
    subst hxl;exact⟨_,xs,c,rfl,hl,nLT hl hm,fun _=>⟨b,o,rfl,hlt,hxs⟩⟩
theorem FW {t e ti tl te:TypeId} {f0 f1 g0 g1:Field} {fuel:Nat} {v:Value} {x:DataW H×List MemPlace} (ht:P.underlying t=some (.slice e)) (he:P.underlying e=some (.struct #[f0,f1])) (hsz:P.cellsOf e=2) (o0:f0.offset=0) (o1:f1.offset=1) (e0:f0.type=ti) (e1:f1.type=tl)
    (htl:P.underlying tl=some (.slice te)) (hte:P.underlying te=some (.struct #[g0,g1])) (hst:P.cellsOf te=2) (p0:g0.offset=0) (p1:g1.offset=1) (d0:g0.type=ti) (d1:g1.type=ti) (hcl:P.cellsOf tl=1)
    (hi:P.underlying ti=some (.int .i64)) (hc1:P.cellsOf ti=1) (h:DataW.trod enc P w base spare held fuel t [v]=some x):
    ∃ A gr c,v= .slice A (List.length gr) c∧gr.length≤c∧NodesIn w A gr:=by
  obtain⟨A,len,c,rfl,hl,hm,hx⟩:=Ky ht hsz dE h;by_cases h0:len=0
  · subst h0
    exact⟨A,[],c,rfl,Nat.zero_le _,Nat.zero_le _,fun h=>absurd rfl h⟩
  · obtain⟨b,o,rfl,hlt,hc⟩:=hx h0
    obtain⟨gr,hxl,hxs⟩:=u1 (p:=fun i (z:Nd)=>NdIn w b (o + i * 2) z) (n:=len) (fun i hi'=>by
      obtain⟨cs,k,y,h1,h2,h3⟩:=hc i hi';obtain⟨v0,v1,n,y0,y1,rfl,q0,q1⟩:=M2 he h1 o0 o1 (by rw [e0];exact hc1) (by rw [e1];exact hcl) h3;rw [e0] at q0;rw [e1] at q1;obtain⟨z1,h5,_,_⟩:=DataW.trod_int hi q0;obtain⟨A',xs,c',rfl,_,hin⟩:=W4 htl hte hst p0 p1 d0 d1 hi hc1 q1;rw [kJ h5] at h2
      exact⟨⟨z1,xs⟩,A',c',h2,hin⟩)
    subst hxl;exact⟨_,gr,c,rfl,hl,nLT hl hm,fun _=>⟨b,o,rfl,hlt,hxs⟩⟩
theorem one_cell {e:TypeId} {f0:Field} {fuel:Nat} {cs:List Value} {x:DataW H×List MemPlace} (he:P.underlying e=some (.struct #[f0])) (hl:cs.length=1) (o0:f0.offset=0) (c0:P.cellsOf f0.type=1) (h:DataW.trod enc P w base spare held fuel e cs=some x):
    ∃ v0 n y0,cs= [v0]∧DataW.trod enc P w base spare held n f0.type [v0]=some y0:=by
  obtain⟨y0,n,_,_,h0⟩:=trod_struct1 he h
  match cs,hl with
  | [v0],_=>
    simp [o0,c0] at h0;exact⟨v0,n,y0,rfl,h0⟩
end
end Go.Proofs.YtfkbjncidemcbaaDoor
namespace Go.Proofs.YtfkbjncidemcbaaDoor
open Go.RowKit Go.ChangeShapes Go.WideShapes Go.Deep Go.Joins
section
variable {H:Type} {enc:TypeId×Value→H} {P:Program} {w:World} {base:Nat} {spare:Nat→Bool} {held:Bool}
def Lw (P:Program) (t:TypeId) (d:DataW H):Prop:=∀ n ∈ d.weights P t,n≤reachBytes
theorem MK {e:TypeId}:∀ {l:List (DataW H)} {d:DataW H},d ∈ l→∀ n ∈ d.weights P e,n ∈ DataW.weightsAll P e l
  | [],_,h,_,_=>nomatch h
  | a :: r,d,h,n,hn=>by
    simp only [DataW.weightsAll,List.mem_append]
    rcases List.mem_cons.1 h with rfl | h
    · exact .inl hn
    · exact .inr (MK h n hn)
theorem Wq {t:TypeId} {fs:Array Field} {fuel:Nat} {cs:List Value} {x:DataW H×List MemPlace} (ht:P.underlying t=some (.struct fs)) (h:DataW.trod enc P w base spare held fuel t cs=some x):
    ∃ n,n < fuel∧cs.length=P.cellsOf t∧∀ (i:Nat) (f:Field),fs[i]? =some f→∃ y,DataW.trod enc P w base spare held n f.type ((cs.drop f.offset).take (P.cellsOf f.type))=some y∧(Lw P t x.1→Lw P f.type y.1):=by
  obtain⟨xs,n,rfl,rfl,hl,hlen,hf⟩:=DataW.trod_struct ht h;refine⟨n,Nat.lt_succ_self n,hl,fun i f hi=>?_⟩;have hil:i < xs.length:=by rw [hlen];exact(Array.getElem?_eq_some_iff.1 hi).1
  have h1:=hf i f hi;rw [List.getElem?_eq_getElem hil] at h1;refine⟨xs[i],h1,fun hw m hm=>hw m ?_⟩;show m ∈ DataW.weights P t (.agg (xs.map (·.1)));simp only [DataW.weights,ht];refine DataW.weights_mem_each (j:=i) (t:=f.type) (d:=(xs[i]).1) ?_ ?_ m hm
  · rw [List.getElem?_map,Array.getElem?_toList,hi];rfl
  · rw [List.getElem?_map,List.getElem?_eq_getElem hil];rfl
theorem slF {t e:TypeId} {sz fuel:Nat} {v:Value} {x:DataW H×List MemPlace} (ht:P.underlying t=some (.slice e)) (hsz:P.cellsOf e=sz) (hpos:0 < sz) (h:DataW.trod enc P w base spare held fuel t [v]=some x):
    ∃ A len c,v= .slice A len c∧len≤c∧c≤kY∧(len≠0→∃ b o,A=some ⟨b,o,none⟩∧b < w.heap.size∧∀ i,i < len→∃ cs k y,k < fuel∧cs.length=sz∧w.rangeAt b (o + i * sz) cs∧DataW.trod enc P w base spare held k e cs=some y∧(Lw P t x.1→Lw P e y.1)):=by
  rcases DataW.trod_slice ht h with ⟨hc,_⟩ | ⟨a,len,cap,elems,rest,n,rfl,hc,rfl,hb,hl,hm,hlen,hel,_⟩
  · rw [kJ hc]
    exact⟨none,0,0,rfl,Nat.le_refl _,Nat.zero_le _,fun h=>absurd rfl h⟩
  · rw [kJ hc]
    rw [hsz] at hel;have hi:∀ i (hi:i < len),∃ cs',w.cells? base (a.add (i * sz)) sz=some cs'∧DataW.trod enc P w base spare held n e cs'=some (elems[i]'om):=fun i hi=>by
      have key:=hel i hi;rw [List.getElem?_eq_getElem om] at key;exact Option.bind_eq_some_iff.1 key
    refine⟨some a,len,cap,rfl,hl,hm,fun h0=>?_⟩;obtain⟨b,o,s⟩:=a;have hsp:s=none∧b < w.heap.size:=by
      obtain⟨cs,h1,_⟩:=hi 0 om;obtain⟨_,h3,h4⟩:=World.cells?_some h1;have h5:=h4 0 hpos;have h6:cs[0]? =some (cs[0]'om):=List.getElem?_eq_getElem om;have h7:(Addr.add (Addr.add ⟨b,o,s⟩ (0 * sz)) 0)=⟨b,o,s⟩:=by simp [Addr.add]
      rw [h7,h6] at h5;exact⟨World.cell?_spot h5,Go.Clock.block_lt h5⟩
    obtain⟨rfl,hlt⟩:=hsp;refine⟨b,o,rfl,hlt,fun i hil=>?_⟩;obtain⟨cs,h1,h2⟩:=hi i om;obtain⟨_,h3,h4⟩:=World.cells?_some h1;refine⟨cs,n,_,Nat.lt_succ_self n,h3,fun j v hj=>?_,h2,fun hw m hm=>hw m ?_⟩
    · have hjl:=(List.getElem?_eq_some_iff.1 hj).1
      have h5:=h4 j om;rw [Addr.add_mid,Addr.add_mid] at h5;rw [h5];exact hj
    · show m ∈ DataW.weights P t (.slice (elems.map (·.1)) (rest.map (·.1)))
      simp only [DataW.weights,ht,List.mem_cons,List.mem_append];exact .inr (.inl (MK (List.mem_map.2 ⟨_,List.getElem_mem om,rfl⟩) m hm))
theorem YJ {t:TypeId} {fuel:Nat} {v:Value} {x:DataW H×List MemPlace} (ht:P.underlying t=some .string) (h:DataW.trod enc P w base spare held fuel t [v]=some x):∃ s:ByteArray,v= .string s∧(Lw P t x.1→s.size < 9223372036854775807):=by
  obtain⟨s,h1,rfl,_⟩:=DataW.trod_string ht h;refine⟨s,kJ h1,fun hw=>?_⟩;have:=hw s.data.toList.length (by simp [DataW.weights]);have h2:s.data.toList.length=s.size:=Array.length_toList;unfold reachBytes at this;omega
structure SmT (P:Program) (e ts tstr:TypeId) (f0 f1:Field):Prop where
  he:P.underlying e=some (.struct #[f0,f1])
  hsz:P.cellsOf e=2
  o0:f0.offset=0
  o1:f1.offset=1
  e0:f0.type=tstr
  e1:f1.type=ts
  hts:P.underlying ts=some (.slice e)
  hs:P.underlying tstr=some .string
  cs:P.cellsOf tstr=1
  ct:P.cellsOf ts=1
theorem sims_open {e ts tstr:TypeId} {f0 f1:Field} (T:SmT P e ts tstr f0 f1):∀ (fuel:Nat) (v:Value) (x:DataW H×List MemPlace),DataW.trod enc P w base spare held fuel ts [v]=some x→∃ A l c,v= .slice A (List.length l) c∧l.length≤c∧SimsIn w A l:=by
  intro fuel
  induction fuel using Nat.strongRecOn with
  | ind fuel ih=>
    intro v x h;obtain⟨A,len,c,rfl,hl,hm,hx⟩:=slF T.hts T.hsz dE h;by_cases h0:len=0
    · subst h0
      exact⟨A,[],c,rfl,Nat.zero_le _,.nil⟩
    · obtain⟨b,o,rfl,hlt,hc⟩:=hx h0
      obtain⟨l,hxl,hxs⟩:=u1 (p:=fun i (z:Sm)=>SimAt w b (o + i * 2) z) (n:=len) (fun i hi=>by
        obtain⟨cs,k,y,hk,h1,h2,h3,_⟩:=hc i hi;obtain⟨n,hn,hlc,hf⟩:=Wq T.he h3;obtain⟨y0,g0,_⟩:=hf 0 f0 rfl;obtain⟨y1,g1,_⟩:=hf 1 f1 rfl
        match cs,h1 with
        | [v0,v1],_=>
          rw [T.e0,T.o0,T.cs] at g0;rw [T.e1,T.o1,T.ct] at g1;obtain⟨s,rfl,_⟩:=YJ T.hs (show DataW.trod enc P w base spare held n tstr [v0]=some y0 from g0);obtain⟨A',l',c',rfl,_,hin⟩:=ih n om v1 y1 g1
          exact⟨.mk s l',.mk hlt h2 hin⟩)
      subst hxl;exact⟨_,l,c,rfl,hl,.more (nLT hl hm) hlt hxs⟩
theorem sim_open {e ts tstr:TypeId} {f0 f1:Field} (T:SmT P e ts tstr f0 f1) {fuel:Nat} {v0 v1:Value} {x:DataW H×List MemPlace} (h:DataW.trod enc P w base spare held fuel e [v0,v1]=some x):∃ (s:Sm) (A:Option Addr) (c:Nat),v0= .string s.base∧v1= .slice A s.args.length c∧SimsIn w A s.args:=by
  obtain⟨n,hn,hlc,hf⟩:=Wq T.he h;obtain⟨y0,g0,_⟩:=hf 0 f0 rfl;obtain⟨y1,g1,_⟩:=hf 1 f1 rfl;rw [T.e0,T.o0,T.cs] at g0;rw [T.e1,T.o1,T.ct] at g1;obtain⟨s,rfl,_⟩:=YJ T.hs (show DataW.trod enc P w base spare held n tstr [v0]=some y0 from g0);obtain⟨A',l',c',rfl,_,hin⟩:=sims_open T n v1 y1 g1;exact⟨.mk s l',A',c',rfl,rfl,hin⟩
structure TmT (P:Program) (m tm ti tstr e ts:TypeId) (f0 f1:Field) (g0 g1 g2 g3 g4:Field):Prop where
  S:SmT P e ts tstr f0 f1
  he:P.underlying m=some (.struct #[g0,g1,g2,g3,g4])
  hsz:P.cellsOf m=6
  o0:g0.offset=0
  o1:g1.offset=1
  o2:g2.offset=2
  o3:g3.offset=3
  o4:g4.offset=5
  e0:g0.type=ti
  e1:g1.type=tstr
  e2:g2.type=ti
  e3:g3.type=e
  e4:g4.type=tm
  htm:P.underlying tm=some (.slice m)
  hi:P.underlying ti=some (.int .i64)
  ci:P.cellsOf ti=1
  ct:P.cellsOf tm=1
section tm
variable {m tm ti tstr e ts:TypeId} {f0 f1 g0 g1 g2 g3 g4:Field}
theorem SY (T:TmT P m tm ti tstr e ts f0 f1 g0 g1 g2 g3 g4) {fuel:Nat} {cs:List Value} {x:DataW H×List MemPlace} (hl:cs.length=6) (h:DataW.trod enc P w base spare held fuel m cs=some x):
    ∃ (k i:Int) (nm:ByteArray) (s:Sm) (A:Option Addr) (c:Nat) (v:Value) (n:Nat) (y:DataW H×List MemPlace),n < fuel∧cs= [.int .i64 k,.string nm,.int .i64 i,.string s.base,.slice A s.args.length c,v]∧SimsIn w A s.args∧DataW.trod enc P w base spare held n tm [v]=some y:=by
  obtain⟨n,hn,hlc,hf⟩:=Wq T.he h;obtain⟨y0,q0,_⟩:=hf 0 g0 rfl;obtain⟨y1,q1,_⟩:=hf 1 g1 rfl;obtain⟨y2,q2,_⟩:=hf 2 g2 rfl;obtain⟨y3,q3,_⟩:=hf 3 g3 rfl;obtain⟨y4,q4,_⟩:=hf 4 g4 rfl
  match cs,hl with
  | [v0,v1,v2,v3,v4,v5],_=>
    rw [T.e0,T.o0,T.ci] at q0;rw [T.e1,T.o1,T.S.cs] at q1;rw [T.e2,T.o2,T.ci] at q2;rw [T.e3,T.o3,T.S.hsz] at q3;rw [T.e4,T.o4,T.ct] at q4;obtain⟨k,h5,_,_⟩:=DataW.trod_int T.hi (show DataW.trod enc P w base spare held n ti [v0]=some y0 from q0);obtain⟨nm,rfl,_⟩:=YJ T.S.hs (show DataW.trod enc P w base spare held n tstr [v1]=some y1 from q1);obtain⟨i,h6,_,_⟩:=DataW.trod_int T.hi (show DataW.trod enc P w base spare held n ti [v2]=some y2 from q2);obtain⟨s,A,c,rfl,rfl,hS⟩:=sim_open T.S (show DataW.trod enc P w base spare held n e [v3,v4]=some y3 from q3);rw [kJ h5,kJ h6];exact⟨k,i,nm,s,A,c,v5,n,y4,hn,rfl,hS,q4⟩
theorem tms_open (T:TmT P m tm ti tstr e ts f0 f1 g0 g1 g2 g3 g4):∀ (fuel:Nat) (v:Value) (x:DataW H×List MemPlace),DataW.trod enc P w base spare held fuel tm [v]=some x→∃ A l c,v= .slice A (List.length l) c∧l.length≤c∧TmsIn w A l:=by
  intro fuel
  induction fuel using Nat.strongRecOn with
  | ind fuel ih=>
    intro v x h;obtain⟨A,len,c,rfl,hl,hm,hx⟩:=slF T.htm T.hsz dE h;by_cases h0:len=0
    · subst h0
      exact⟨A,[],c,rfl,Nat.zero_le _,.nil⟩
    · obtain⟨b,o,rfl,hlt,hc⟩:=hx h0
      obtain⟨l,hxl,hxs⟩:=u1 (p:=fun i (z:Tm)=>TmAt w b (o + i * 6) z) (n:=len) (fun i hi=>by
        obtain⟨cs,k,y,hk,h1,h2,h3,_⟩:=hc i hi;obtain⟨kd,ix,nm,s,A1,c1,v',n,y',hn,rfl,hS,h4⟩:=SY T h1 h3;obtain⟨A',l',c',rfl,_,hin⟩:=ih n om v' y' h4
        exact⟨.mk kd nm ix s l',.mk hlt h2 hS hin⟩)
      subst hxl;exact⟨_,l,c,rfl,hl,.more (nLT hl hm) hlt hxs⟩
theorem H0 (T:TmT P m tm ti tstr e ts f0 f1 g0 g1 g2 g3 g4) {fuel:Nat} {cs:List Value} {x:DataW H×List MemPlace} (hl:cs.length=6) (h:DataW.trod enc P w base spare held fuel m cs=some x):
    ∃ (t:Tm) (A:Option Addr) (c:Nat) (B:Option Addr) (d:Nat),cs= [.int .i64 t.kind,.string t.name,.int .i64 t.index,.string t.type.base,.slice A t.type.args.length c,.slice B t.args.length d]∧SimsIn w A t.type.args∧TmsIn w B t.args:=by
  obtain⟨kd,ix,nm,s,A1,c1,v',n,y',hn,rfl,hS,h4⟩:=SY T hl h;obtain⟨A',l',c',rfl,_,hin⟩:=tms_open T n v' y' h4;exact⟨.mk kd nm ix s l',A1,c1,A',c',rfl,hS,hin⟩
end tm
structure GrfT (P:Program) (tg tn e ti tl te:TypeId) (q0 f0 f1 g0 g1:Field):Prop where
  hg:P.underlying tg=some (.struct #[q0])
  hgz:P.cellsOf tg=1
  r0:q0.offset=0
  s0:q0.type=tn
  hcn:P.cellsOf tn=1
  htn:P.underlying tn=some (.slice e)
  he:P.underlying e=some (.struct #[f0,f1])
  hsz:P.cellsOf e=2
  o0:f0.offset=0
  o1:f1.offset=1
  e0:f0.type=ti
  e1:f1.type=tl
  htl:P.underlying tl=some (.slice te)
  hte:P.underlying te=some (.struct #[g0,g1])
  hst:P.cellsOf te=2
  p0:g0.offset=0
  p1:g1.offset=1
  d0:g0.type=ti
  d1:g1.type=ti
  hcl:P.cellsOf tl=1
  hi:P.underlying ti=some (.int .i64)
  hc1:P.cellsOf ti=1
theorem BY {tg tn e ti tl te:TypeId} {q0 f0 f1 g0 g1:Field} (T:GrfT P tg tn e ti tl te q0 f0 f1 g0 g1) {fuel:Nat} {v:Value} {x:DataW H×List MemPlace} (h:DataW.trod enc P w base spare held fuel tg [v]=some x):∃ A gr c,v= .slice A (List.length gr) c∧NodesIn w A gr:=by
  obtain⟨v0,n,y0,h1,h2⟩:=one_cell T.hg rfl T.r0 (by rw [T.s0];exact T.hcn) h;rw [T.s0] at h2;obtain⟨A,gr,c,rfl,_,hin⟩:=FW T.htn T.he T.hsz T.o0 T.o1 T.e0 T.e1 T.htl T.hte T.hst T.p0 T.p1 T.d0 T.d1 T.hcl T.hi T.hc1 h2;exact⟨A,gr,c,kJ h1,hin⟩
section rl
variable {m tm ti tstr e ts:TypeId} {f0 f1 g0 g1 g2 g3 g4:Field} {tg tn te' tl tk:TypeId} {q0 a0 a1 b0 b1:Field}
theorem FZ {t r:TypeId} {x0 x1 x2 x3 x4:Field} (T:TmT P m tm ti tstr e ts f0 f1 g0 g1 g2 g3 g4) (G:GrfT P tg tn te' ti tl tk q0 a0 a1 b0 b1) (ht:P.underlying t=some (.slice r)) (hr:P.underlying r=some (.struct #[x0,x1,x2,x3,x4])) (hsz:P.cellsOf r=10)
    (o0:x0.offset=0) (o1:x1.offset=1) (o2:x2.offset=2) (o3:x3.offset=3) (o4:x4.offset=4) (t0:x0.type=tstr) (t1:x1.type=tg) (t2:x2.type=ti) (t3:x3.type=ti) (t4:x4.type=m) {fuel:Nat} {v:Value} {x:DataW H×List MemPlace} (h:DataW.trod enc P w base spare held fuel t [v]=some x):
    ∃ A l c,v= .slice A (List.length l) c∧l.length≤c∧RulesIn w A l:=by
  obtain⟨A,len,c,rfl,hl,hm,hx⟩:=slF ht hsz dE h;by_cases h0:len=0
  · subst h0
    exact⟨A,[],c,rfl,Nat.zero_le _,Nat.zero_le _,fun h=>absurd rfl h⟩
  · obtain⟨b,o,rfl,hlt,hc⟩:=hx h0
    obtain⟨l,hxl,hxs⟩:=u1 (p:=fun i (z:Rl)=>RlIn w b (o + i * 10) z) (n:=len) (fun i hi=>by
      obtain⟨cs,k,y,hk,h1,h2,h3,_⟩:=hc i hi;obtain⟨n,hn,hlc,hf⟩:=Wq hr h3;obtain⟨y0,p0,_⟩:=hf 0 x0 rfl;obtain⟨y1,p1,_⟩:=hf 1 x1 rfl;obtain⟨y2,p2,_⟩:=hf 2 x2 rfl;obtain⟨y3,p3,_⟩:=hf 3 x3 rfl;obtain⟨y4,p4,_⟩:=hf 4 x4 rfl
      match cs,h1 with
      | [v0,v1,v2,v3,v4,v5,v6,v7,v8,v9],_=>
        rw [t0,o0,T.S.cs] at p0;rw [t1,o1,G.hgz] at p1;rw [t2,o2,T.ci] at p2;rw [t3,o3,T.ci] at p3;rw [t4,o4,T.hsz] at p4;obtain⟨nm,rfl,_⟩:=YJ T.S.hs (show DataW.trod enc P w base spare held n tstr [v0]=some y0 from p0);obtain⟨B,gr,d,rfl,hG⟩:=BY G (show DataW.trod enc P w base spare held n tg [v1]=some y1 from p1);obtain⟨kd,h5,_,_⟩:=DataW.trod_int T.hi (show DataW.trod enc P w base spare held n ti [v2]=some y2 from p2);obtain⟨wt,h6,_,_⟩:=DataW.trod_int T.hi (show DataW.trod enc P w base spare held n ti [v3]=some y3 from p3);obtain⟨tt,A2,c2,B2,d2,h7,hS,hT⟩:=H0 T rfl (show DataW.trod enc P w base spare held n m [v4,v5,v6,v7,v8,v9]=some y4 from p4);rw [kJ h5,kJ h6,h7] at h2
        exact⟨⟨nm,gr,kd,wt,tt⟩,B,d,A2,c2,B2,d2,h2,hG,hS,hT⟩)
    subst hxl;exact⟨_,l,c,rfl,hl,nLT hl hm,fun _=>⟨b,o,rfl,hlt,hxs⟩⟩
theorem W5 {t r:TypeId} {x0 x1 x2 x3:Field} (T:TmT P m tm ti tstr e ts f0 f1 g0 g1 g2 g3 g4) (G:GrfT P tg tn te' ti tl tk q0 a0 a1 b0 b1) (ht:P.underlying t=some (.slice r)) (hr:P.underlying r=some (.struct #[x0,x1,x2,x3])) (hsz:P.cellsOf r=9)
    (o0:x0.offset=0) (o1:x1.offset=1) (o2:x2.offset=2) (o3:x3.offset=3) (t0:x0.type=tstr) (t1:x1.type=tg) (t2:x2.type=ti) (t3:x3.type=m) {fuel:Nat} {v:Value} {x:DataW H×List MemPlace} (hw:Lw P t x.1) (h:DataW.trod enc P w base spare held fuel t [v]=some x):
    ∃ A l c,v= .slice A (List.length l) c∧l.length≤c∧LexesIn w A l:=by
  obtain⟨A,len,c,rfl,hl,hm,hx⟩:=slF ht hsz dE h;by_cases h0:len=0
  · subst h0
    exact⟨A,[],c,rfl,Nat.zero_le _,Nat.zero_le _,fun h=>absurd rfl h⟩
  · obtain⟨b,o,rfl,hlt,hc⟩:=hx h0
    obtain⟨l,hxl,hxs⟩:=u1 (p:=fun i (z:Lx)=>LxIn w b (o + i * 9) z) (n:=len) (fun i hi=>by
      obtain⟨cs,k,y,hk,h1,h2,h3,hwy⟩:=hc i hi;obtain⟨n,hn,hlc,hf⟩:=Wq hr h3;obtain⟨y0,p0,hw0⟩:=hf 0 x0 rfl;obtain⟨y1,p1,_⟩:=hf 1 x1 rfl;obtain⟨y2,p2,_⟩:=hf 2 x2 rfl;obtain⟨y3,p3,_⟩:=hf 3 x3 rfl
      match cs,h1 with
      | [v0,v1,v2,v3,v4,v5,v6,v7,v8],_=>
        rw [t0,o0,T.S.cs] at p0;rw [t0] at hw0;rw [t1,o1,G.hgz] at p1;rw [t2,o2,T.ci] at p2;rw [t3,o3,T.hsz] at p3;obtain⟨nm,rfl,hws⟩:=YJ T.S.hs (show DataW.trod enc P w base spare held n tstr [v0]=some y0 from p0);obtain⟨B,gr,d,rfl,hG⟩:=BY G (show DataW.trod enc P w base spare held n tg [v1]=some y1 from p1);obtain⟨wt,h6,_,_⟩:=DataW.trod_int T.hi (show DataW.trod enc P w base spare held n ti [v2]=some y2 from p2);obtain⟨tt,A2,c2,B2,d2,h7,hS,hT⟩:=H0 T rfl (show DataW.trod enc P w base spare held n m [v3,v4,v5,v6,v7,v8]=some y3 from p3);rw [kJ h6,h7] at h2
        exact⟨⟨nm,gr,wt,tt⟩,hws (hw0 (hwy hw)),B,d,A2,c2,B2,d2,h2,hG,hS,hT⟩)
    subst hxl;exact⟨_,l,c,rfl,hl,nLT hl hm,fun _=>⟨b,o,rfl,hlt,hxs⟩⟩
end rl
theorem lw_arg {ts:List TypeId} {ds:List (DataW H)} (h:(DataW.weightsEach P ts ds).all (·≤reachBytes)=true) {j:Nat} {t:TypeId} {d:DataW H} (ht:ts[j]? =some t) (hd:ds[j]? =some d):Lw P t d:=fun n hn=>by
  have:=List.all_eq_true.1 h _ (DataW.weights_mem_each ht hd n hn)
  simpa using this
end
end Go.Proofs.YtfkbjncidemcbaaDoor
