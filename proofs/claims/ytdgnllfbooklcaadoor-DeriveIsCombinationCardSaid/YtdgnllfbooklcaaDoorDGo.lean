/- What these functions of the program compute, at every world: glosswright/lexrule.Places, glosswright/lexrule.Entry, glosswright/grammar.Rule, glosswright/grammar.fault. What these functions of the program compute, at every world: glosswright/grammar.Validate. What these functions of the program compute, at every world: glosswright/grammar.Combine. What these functions of the program compute, at every world: glosswright/glosswrightequal.graphOf. -/
import Derived.Test.YtdgnllfbooklcaaDoorU
import Derived.Test.YtdgnllfbooklcaaDoorSim
import Derived.Test.YtdgnllfbooklcaaDoorTurn
import Derived.Test.YtdgnllfbooklcaaDoorWWd
import Derived.Test.YtdgnllfbooklcaaDoorNTv
import Derived.Test.YtdgnllfbooklcaaDoorGro
import Derived.Test.YtdgnllfbooklcaaDoorYJo
import Derived.Test.YtdgnllfbooklcaaDoorStk
import Derived.Test.YtdgnllfbooklcaaDoorNSv
namespace Go.Proofs.YtdgnllfbooklcaaDoor
open Go.RowKit
theorem MK {a b:Int} (h:b=a):Ending.returned (.int .i64 a)= .returned (.int .i64 b):=by rw [h]
theorem ret_b {a b:Bool} (h:b=a):Ending.returned (.bool a)= .returned (.bool b):=by rw [h]
theorem I6:zZ Tryd.prog 30=true:=by kernel_rfl
theorem fn59_GEn:zZ Tryd.prog 59=true:=by kernel_rfl
theorem fn65:zZ Tryd.prog 65=true:=by kernel_rfl
theorem fn66:zZ Tryd.prog 66=true:=by kernel_rfl
theorem fn67:zZ Tryd.prog 67=true:=by kernel_rfl
theorem Fy (G:Option Addr) (cg nf:Nat) (gr:List Nd) (k:Int) (w:World) (hG:NodesIn w G gr) (h0:0 < gr.length) (hl:y6 nf gr.length (-1) (gr[0]'h0).ln=0) (hw:(gr[0]'h0).ln.length≤1000):Calls Tryd.prog 65 #[.agg #[.slice G (gr).length cg],.int .i64 k] w fun e w'=>e= .returned (.bool (uZ gr k))∧Bel w w':=by
 refine enter Tryd.func65 Tryd.ntmps65 rfl (Nat.le_of_ble_eq_true rfl) ?_;have hB:Bel w w:=Below.refl _ _;refine zn2 ?_;refine xz (v:= .agg #[_]) (cs:=#[_]) rfl rfl (fun b2 w1 hb2 s1 hr=>?_);refine jy ?_;replace hB:=hB.tr0 s1;refine qJ [4,5,6,7,8,9,10,11,12,13,14,15,16,17] (fun m g w'=>∃ j:Nat,j≤4∧m=4 - j∧g 6= .int .i64 j∧Bel w w'∧Blk w' b2 30 #[.slice G (gr).length cg]∧∀ f,f < j→plN gr k f=true) (4) ?_ (fun m g2 w2 hI=>?_)
 ·exact⟨0,by omega,rfl,rfl,hB,hb2,fun f hf=>by omega⟩
 obtain⟨j,hj,hm,h6,hB,hb2,hall⟩:=hI;refine zQ 6 _ h6 nu (zn6 ?_);refine zJ rfl (fun c7=>?_) (fun c7=>?_)
 ·refine Yq ?_;refine zX fn59_GEn (Jj G cg nf gr 0 ((j:Nat):Int) _ (hG.mono hB) h0 hl hw) rfl (fun e' w3 hr=>?_);obtain⟨rfl,s2⟩:=hr;replace s2:=sB s2;refine⟨_,rfl,?_⟩;refine zn4 ?_;refine wl (r_neqB U4 rfl rfl) (zW (e_S ?_));replace hB:=hB.tr0 s2;refine kv rfl (fun c16=>?_) (fun c16=>?_)
  ·have hpl:plN gr k j=false:=by
     have h:=c16;rw [Bool.not_eq_true'] at h;rw [plN_of h0];exact h
   refine vQ ?_;exact⟨ret_b (pl_no om hpl),hB⟩
  have hpl:plN gr k j=true:=by
    have h:=c16;rw [Bool.not_eq_false'] at h;rw [plN_of h0];exact h
  refine zn7 ?_;refine yq (4 - (j + 1)) om agA ?_;replace hb2:=hb2.tr0 s2
  exact⟨j + 1,by omega,rfl,rfl,hB,hb2,fun f hf=>by
    by_cases e:f=j
    · rw [e];exact hpl
    · exact hall f om⟩
 refine vQ ?_;exact⟨ret_b (pl_yes (fun f hf=>hall f om)),hB⟩
theorem entry_any (A B G SA BA:Option Addr) (c d cg cs mB bu bd:Nat) (l:List Ty) (fs:List Ft) (x:Lx) (w:World) (hU:U8In w) (hI:TableIn w l bu bd) (h60:l.length≤60) (hF:FeatsIn w B fs) (hfo:FOk l.length fs) (hG:NodesIn w G x.gr) (hS:SimsIn w SA x.mean.type.args) (hT:TmsIn w BA x.mean.args) (hsz:x.word.size < 9223372036854775807):Calls Tryd.prog 48 #[.agg #[.slice A l.length c,.slice B fs.length d],OQ l.length bu bd,.agg #[.string (x).word,.slice G (x).gr.length cg,.int .i64 (x).wt,.int .i64 ((x).mean).kind,.string ((x).mean).name,.int .i64 ((x).mean).index,.string ((x).mean).type.base,.slice SA ((x).mean).type.args.length cs,.slice BA ((x).mean).args.length mB]] w fun e w'=>e= .returned (.int .i64 (O1 l fs x))∧Bel w w':=by
 refine enter Tryd.func48 Tryd.ntmps48 rfl (Nat.le_of_ble_eq_true rfl) ?_;have hB:Bel w w:=Below.refl _ _;refine zn2 ?_;refine xz (v:= .agg #[_,_]) (cs:=#[_,_]) rfl rfl (fun b3 w1 hb3 s1 hr=>?_);refine xz (v:= .agg #[_,_]) (cs:=#[_,_]) rfl rfl (fun b4 w2 hb4 s2 hr=>?_);refine xz (v:= .agg #[_,_,_,_,_,_,_,_,_]) (cs:=#[_,_,_,_,_,_,_,_,_]) rfl rfl (fun b5 w3 hb5 s3 hr=>?_);refine zn8 ?_;replace hB:=hB.tr0 (s1.trans (s2.trans s3));refine zX fn67 (word_p x.word _ (hU.mono hB) hsz) rfl (fun e' w4 hr=>?_);obtain⟨rfl,s4⟩:=hr;replace s4:=sB s4;refine⟨_,rfl,?_⟩;refine zn3 ?_;replace hB:=hB.tr0 s4;refine kv rfl (fun c11=>?_) (fun c11=>?_)
 ·have hwd:u9 x.word=false:=by simpa using c11
  refine zn8 ?_;exact⟨MK (CJ hwd),hB⟩
 have hwd:u9 x.word=true:=by simpa using c11
 refine zn4 ?_;refine yQ [12,13,14,15,16,17,18,19] 19 (.bool (decide (x.wt < 0∨1000000 < x.wt))) nu ?_ (fun gq=>?_)
 ·refine zn5 ?_;refine zV 15 rfl (fun g15=>?_) (fun g15=>?_)
  ·refine zn4 ?_;refine zW (e_R ⟨rfl,agA,?_⟩);exact clA
  refine zn7 ?_;refine zW (e_R ⟨rfl,agA,?_⟩);exact clA
 refine e_S ?_;refine zJ rfl (fun c19=>?_) (fun c19=>?_)
 ·refine zn8 ?_;exact⟨MK (FY hwd c19),hB⟩
 refine zn8 ?_;replace hb5:=hb5.tr0 s4;refine wl (qW U30 rfl rfl (hb5.sub (n:=1) (xs:=[_]) rfl) Z8) ?_;refine zX I6 (Xw A B G c d cg bu bd l fs x.gr _ (hI.mono hB) h60 (hF.mono hB) (hG.mono hB) hfo) rfl (fun e' w5 hr=>?_);obtain⟨rfl,s5⟩:=hr;replace s5:=sB s5;refine⟨_,rfl,?_⟩;refine yj (cs:=#[.int .i64 0,.int .i64 0]) zY rfl (fun _=>rfl) (fun _=>rfl) zz rfl zK (fun b7 w7 hb7 s6 hr=>?_);refine zn9 ?_;replace hB:=hB.tr0 (s5.trans s6);refine zJ rfl (fun c27=>?_) (fun c27=>?_)
 ·refine jy ?_;exact⟨MK (lx_gr hwd c19 c27),hB⟩
 have hin:=Decidable.not_not.1 c27;refine zn5 ?_;replace hb5:=hb5.tr0 (s5.trans s6);refine wl (qW U44 rfl rfl (hb5.sub (n:=6) (xs:=[_,_,_,_,_,_]) rfl) N9) ?_;refine zX fn66 (BV SA BA cs mB x.mean _ (hS.mono hB) (hT.mono hB)) rfl (fun e' w8 hr=>?_);obtain⟨rfl,s7⟩:=hr;replace s7:=sB s7;refine⟨_,rfl,?_⟩;refine wl (HJ (v:= .int _ _) U36 rfl U3 rfl rfl rfl) (zn5 ?_);replace hB:=hB.tr0 s7;exact⟨MK (lx_ok hwd c19 hin),hB⟩
theorem rule_any (A B G SA BA:Option Addr) (c d cg cs mB bu bd:Nat) (l:List Ty) (fs:List Ft) (r:Rl) (w:World) (hI:TableIn w l bu bd) (h60:l.length≤60) (hF:FeatsIn w B fs) (hfo:FOk l.length fs) (h40:fs.length≤40) (hG:NodesIn w G r.gr) (hS:SimsIn w SA r.mean.type.args) (hT:TmsIn w BA r.mean.args):Calls Tryd.prog 47 #[.agg #[.slice A l.length c,.slice B fs.length d],OQ l.length bu bd,.agg #[.string (r).name,.slice G (r).gr.length cg,.int .i64 (r).kids,.int .i64 (r).wt,.int .i64 ((r).mean).kind,.string ((r).mean).name,.int .i64 ((r).mean).index,.string ((r).mean).type.base,.slice SA ((r).mean).type.args.length cs,.slice BA ((r).mean).args.length mB]] w fun e w'=>e= .returned (.int .i64 (V9 l fs r))∧Bel w w':=by
 refine enter Tryd.func47 Tryd.ntmps47 rfl (Nat.le_of_ble_eq_true rfl) ?_;have hB:Bel w w:=Below.refl _ _;refine zn2 ?_;refine xz (v:= .agg #[_,_]) (cs:=#[_,_]) rfl rfl (fun b3 w1 hb3 s1 hr=>?_);refine xz (v:= .agg #[_,_]) (cs:=#[_,_]) rfl rfl (fun b4 w2 hb4 s2 hr=>?_);refine xz (v:= .agg #[_,_,_,_,_,_,_,_,_,_]) (cs:=#[_,_,_,_,_,_,_,_,_,_]) rfl rfl (fun b5 w3 hb5 s3 hr=>?_);refine zn5 ?_;replace hB:=hB.tr0 (s1.trans (s2.trans s3));refine yQ [8,9,10,11,12,13,14,15,16,17,18,19,20,21,22,23,24,25] 25 (.bool (decide (r.kids < 1∨3 < r.kids∨r.wt < 0∨1000000 < r.wt))) nu ?_ (fun gq=>?_)
 ·refine zn5 ?_;refine zV 11 rfl (fun g11=>?_) (fun g11=>?_)
  ·refine Yq ?_;refine zW (e_R ⟨rfl,agA,?_⟩);exact clA
  refine zn8 ?_;refine zV 16 rfl (fun g16=>?_) (fun g16=>?_)
  ·refine zn9 ?_;refine zW (e_R ⟨rfl,agA,?_⟩);exact clA
  refine zn8 ?_;refine zV 21 rfl (fun g21=>?_) (fun g21=>?_)
  ·refine zn4 ?_;refine zW (e_R ⟨rfl,agA,?_⟩);exact clA
  refine zn7 ?_;refine zW (e_R ⟨rfl,agA,?_⟩);exact clA
 refine e_S ?_;refine zJ rfl (fun c25=>?_) (fun c25=>?_)
 ·refine zn8 ?_;exact⟨MK (Cv c25),hB⟩
 refine zn8 ?_;refine wl (qW U30 rfl rfl (hb5.sub (n:=1) (xs:=[_]) rfl) Z8) ?_;refine zX I6 (Xw A B G c d cg bu bd l fs r.gr _ (hI.mono hB) h60 (hF.mono hB) (hG.mono hB) hfo) rfl (fun e' w4 hr=>?_);obtain⟨rfl,s4⟩:=hr;replace s4:=sB s4;refine⟨_,rfl,?_⟩;refine yj (cs:=#[.int .i64 0,.int .i64 0]) zY rfl (fun _=>rfl) (fun _=>rfl) zz rfl zK (fun b7 w6 hb7 s5 hr=>?_);refine zn9 ?_;replace hB:=hB.tr0 (s4.trans s5);refine zJ rfl (fun c33=>?_) (fun c33=>?_)
 ·refine jy ?_;exact⟨MK (rl_gr c25 c33),hB⟩
 have hin:=Decidable.not_not.1 c33;have hl0:=Rw hin;have hk0:=W9 hl0;have hw0:=hk0.few 0 hk0.pos;refine zn6 ?_;replace hb5:=hb5.tr0 (s4.trans s5);refine wl (qW U30 rfl rfl (hb5.sub (n:=1) (xs:=[_]) rfl) Z8) (zn2 ?_);refine zX fn65 (Fy G cg fs.length r.gr r.kids _ (hG.mono hB) hk0.pos (Vw hl0 0 hk0.pos) om) rfl (fun e' w7 hr=>?_);obtain⟨rfl,s6⟩:=hr;replace s6:=sB s6;refine⟨_,rfl,?_⟩;refine zn3 ?_;replace hB:=hB.tr0 s6;refine kv rfl (fun c41=>?_) (fun c41=>?_)
 ·have hpl:uZ r.gr r.kids=false:=by simpa using c41
  refine zn8 ?_;exact⟨MK (rl_pl c25 hin hpl),hB⟩
 have hpl:uZ r.gr r.kids=true:=by simpa using c41
 refine zn5 ?_;replace hb5:=hb5.tr0 s6;refine wl (qW U44 rfl rfl (hb5.sub (n:=6) (xs:=[_,_,_,_,_,_]) rfl) N9) ?_;refine zX fn66 (BV SA BA cs mB r.mean _ (hS.mono hB) (hT.mono hB)) rfl (fun e' w8 hr=>?_);obtain⟨rfl,s7⟩:=hr;replace s7:=sB s7;refine⟨_,rfl,?_⟩;refine wl (HJ (v:= .int _ _) U36 rfl U3 rfl rfl rfl) (zn5 ?_);replace hB:=hB.tr0 s7;exact⟨MK (rl_ok c25 hin hpl),hB⟩
theorem vV (a b:Int) (w:World):Calls Tryd.prog 28 #[.int .i64 a,.int .i64 b] w fun e w'=>e= .returned (flV (a,b))∧Bel w w':=by
 refine enter Tryd.func28 Tryd.ntmps28 rfl (Nat.le_of_ble_eq_true rfl) ?_;have hB:Bel w w:=Below.refl _ _;refine zn2 ?_;refine qw (cs:=#[.int .i64 0,.int .i64 0]) zY rfl (fun b4 w1 hb4 s1 hr=>?_);have lo4:=nLT (Bel.size hB) hr;refine zn6 ?_;refine wl (Z9 (v0:= .int _ _) (v1:= .int _ _) (fun v0 v1=>#[v0,v1]) rfl rfl kR) ?_;refine zk hb4 rfl rfl zz rfl zK (fun w2 hq s2=>?_);replace hb4:=hq;refine zn3 ?_;refine xX (.inl rfl) rfl (zw U36 rfl rfl hb4.range0 zz) ?_;replace hB:=(hB.tr0 s1).tr1 s2 lo4;exact⟨xW rfl,hB⟩
end Go.Proofs.YtdgnllfbooklcaaDoor
namespace Go.Proofs.YtdgnllfbooklcaaDoor
open Go.RowKit
theorem Pz:zZ Tryd.prog 28=true:=by kernel_rfl
theorem Oz:zZ Tryd.prog 29=true:=by kernel_rfl
theorem fn45_GVd:zZ Tryd.prog 45=true:=by kernel_rfl
theorem fn47:zZ Tryd.prog 47=true:=by kernel_rfl
theorem fn48:zZ Tryd.prog 48=true:=by kernel_rfl
theorem sz46:(Tryd.prog.info? 46).map (·.size)=some 9:=by kernel_rfl
theorem sz49:(Tryd.prog.info? 49).map (·.size)=some 10:=by kernel_rfl
theorem ze25:(Tryd.prog.info? 25).map (·.zero)=some (some (.agg #[.slice none 0 0,.slice none 0 0])):=by kernel_rfl
theorem ze46:(Tryd.prog.info? 46).map (·.zero)=some (some (.agg #[.string ⟨#[]⟩,.slice none 0 0,.int .i64 0,.int .i64 0,.string ⟨#[]⟩,.int .i64 0,.string ⟨#[]⟩,.slice none 0 0,.slice none 0 0])):=by kernel_rfl
theorem ze49:(Tryd.prog.info? 49).map (·.zero)=some (some (.agg #[.string ⟨#[]⟩,.slice none 0 0,.int .i64 0,.int .i64 0,.int .i64 0,.string ⟨#[]⟩,.int .i64 0,.string ⟨#[]⟩,.slice none 0 0,.slice none 0 0])):=by kernel_rfl
theorem Bv:(Tryd.prog.info? 86).map (·.zero)=some (some (.agg #[.slice none 0 0,.slice none 0 0])):=by kernel_rfl
set_option maxHeartbeats 2000000 in
theorem N4 (AT AF AR AX AS:Option Addr) (ct cf cr cx cst:Nat) (l:List Ty) (fs:List Ft) (rs:List Rl) (xs:List Lx) (st:List Nd) (w:World) (hTab:TabIn w) (hU:U8In w) (hTy:TypesIn w AT l) (hF:FeatsIn w AF fs) (hRu:RulesIn w AR rs) (hLx:LexesIn w AX xs) (hG:NodesIn w AS st):Calls Tryd.prog 27 #[.agg #[.slice AT l.length ct,.slice AF fs.length cf,.slice AR rs.length cr,.slice AX xs.length cx,.slice AS st.length cst]] w fun e w'=>e= .returned (flV (qy l fs rs xs st))∧Bel w w':=by
 refine enter Tryd.func27 Tryd.ntmps27 rfl (Nat.le_of_ble_eq_true rfl) ?_;have hB:Bel w w:=Below.refl _ _;refine zn2 ?_;refine xz (v:= .agg #[_,_,_,_,_]) (cs:=#[_,_,_,_,_]) rfl rfl (fun b1 w1 hb1 s1 hr=>?_);refine qw (cs:=#[.int .i64 0,.int .i64 0]) zY rfl (fun b2 w2 hb2 s2 hr=>?_);replace hB:=hB.tr0 s1;have lo2:=nLT (Bel.size hB) hr;refine zn5 ?_;replace hb1:=hb1.tr0 s2;refine wl (qW U25 rfl rfl (hb1.sub (n:=2) (xs:=[_,_]) rfl) sz25) ?_;refine yj (cs:=#[.slice none 0 0,.slice none 0 0]) ze25 rfl (fun _=>rfl) (fun _=>rfl) sz25 rfl zK (fun b3 w4 hb3 s3 hr=>?_);refine zn6 ?_;replace hB:=hB.tr0 (s2.trans s3);refine zX fn45_GVd (DK AT AF ct cf l fs _ (hTab.mono hB) (hTy.mono hB) (hF.mono hB)) rfl (fun e' w5 hr=>?_);obtain⟨rfl,s4⟩:=hr;replace s4:=sB s4;refine⟨_,rfl,?_⟩;refine yj (cs:=#[.int .i64 0,.int .i64 0]) zY rfl (fun _=>rfl) (fun _=>rfl) zz rfl zK (fun b4 w7 hb4 s5 hr=>?_);refine zn9 ?_;replace hb2:=hb2.tr0 (s3.trans (s4.trans s5));replace hB:=hB.tr0 (s4.trans s5);refine zJ rfl (fun c22=>?_) (fun c22=>?_)
 ·refine zn3 ?_;refine zk hb2 rfl rfl zz rfl zK (fun w8 hq s6=>?_);replace hb2:=hq;refine zn4 ?_;refine xX (.inl rfl) rfl (zw U36 rfl rfl hb2.range0 zz) ?_;replace hB:=hB.tr1 s6 lo2;exact⟨xW (J2 c22),hB⟩
 have h0:=Decidable.not_not.1 c22;have hS:=K8 h0;have hfo:=Wz h0;have h40:=feats_few h0;refine gj ?_;refine zJ rfl (fun c27=>?_) (fun c27=>?_)
 ·refine zn2 ?_;refine zX Pz (vV _ _ _) rfl (fun e' w9 hr=>?_);obtain⟨rfl,s7⟩:=hr;replace s7:=sB s7;refine⟨_,rfl,?_⟩;replace hb2:=hb2.tr0 s7;refine zk hb2 rfl rfl zz rfl zK (fun w10 hq s8=>?_);replace hb2:=hq;refine zn4 ?_;refine xX (.inl rfl) rfl (zw U36 rfl rfl hb2.range0 zz) ?_;replace hB:=(hB.tr0 s7).tr1 s8 lo2;exact⟨xW (O7 h0 om),hB⟩
 have hf3:¬fs.length≤3:=by omega
 refine zn4 ?_;refine yQ [29,30,31,32,33,34,35,36,37,38] 38 (.bool (decide (40 < rs.length∨100 < xs.length))) nu ?_ (fun gq=>?_)
 ·refine zn6 ?_;refine zV 33 rfl (fun g33=>?_) (fun g33=>?_)
  ·refine zn5 ?_;refine zW (e_R ⟨rfl,agA,?_⟩);exact clA
  refine zn9 ?_;refine zW (e_R ⟨rfl,agA,?_⟩);exact clA
 refine e_S ?_;refine zJ rfl (fun h38=>?_) (fun h38=>?_)
 ·refine zn2 ?_;refine zX Pz (vV _ _ _) rfl (fun e' w11 hr=>?_);obtain⟨rfl,s9⟩:=hr;replace s9:=sB s9;refine⟨_,rfl,?_⟩;replace hb2:=hb2.tr0 s9;refine zk hb2 rfl rfl zz rfl zK (fun w12 hq s10=>?_);replace hb2:=hq;refine zn4 ?_;refine xX (.inl rfl) rfl (zw U36 rfl rfl hb2.range0 zz) ?_;replace hB:=(hB.tr0 s9).tr1 s10 lo2;exact⟨xW (I5 h0 hf3 h38),hB⟩
 refine zn6 ?_;refine zX Oz (XZ AT ct l _ (hTy.mono hB) hS.vt hS.le) rfl (fun e' w13 hr=>?_);obtain⟨bu,bd,rfl,hTI,s11⟩:=hr;replace s11:=sB s11;obtain⟨wT,hwT⟩:∃ x,x=w13:=⟨_,rfl⟩
 have hBT:Bel wT w13:=by rw [hwT];exact Below.refl _ _
 rw [← hwT] at hTI;refine⟨_,rfl,?_⟩;refine yj (cs:=#[.slice none 0 0,.slice none 0 0]) Bv rfl (fun _=>rfl) (fun _=>rfl) Gv rfl zK (fun b5 w15 hb5 s12 hr=>?_);refine zn4 ?_;refine wl_mm (fun b43 w16 hb43 s13 hr=>?_);replace hb1:=hb1.tr0 (s3.trans (s4.trans (s5.trans (s11.trans s12))));have:=nLL hb1.lt hr;replace hb2:=hb2.tr0 (s11.trans s12);have:=nLL hb2.lt hr;replace hb3:=hb3.tr0 (s4.trans (s5.trans (s11.trans s12)));have:=nLL hb3.lt hr;have:=nLL hb5.lt hr;replace hB:=hB.tr0 (s11.trans s12);have lo43:=nLT (Bel.size hB) hr;replace hBT:=hBT.tr0 s12;have lo_hBT_b43:=nLT (Bel.size hBT) hr;refine wl (kQ (v:= .map _) rfl) (vQ ?_);replace hB:=hB.tr0 s13;replace hb1:=hb1.tr0 s13;replace hb2:=hb2.tr0 s13;replace hb3:=hb3.tr0 s13;replace hBT:=hBT.tr0 s13;replace hb5:=hb5.tr0 s13;refine qJ [7,8,9,10,11,47,48,49,50,51,52,53,54,55,56,57,58,59,60,61,62,63,64,65,66,67,68,69,70,71,72,73,74,75,76,77,78,79,80,81] (fun m g w'=>∃ (k:Nat) (mp:List (ByteArray×Value)),k≤rs.length∧m=rs.length - k∧g 47= .int .i64 k∧Bel w w'∧Bel wT w'∧Blk w' b1 32 #[.slice AT l.length ct,.slice AF fs.length cf,.slice AR rs.length cr,.slice AX xs.length cx,.slice AS st.length cst]∧Blk w' b2 36 #[.int .i64 0,.int .i64 0]∧Blk w' b3 25 #[.slice AT l.length ct,.slice AF fs.length cf]∧Blk w' b5 86 #[.slice (some ⟨bu,0,none⟩) l.length l.length,.slice (some ⟨bd,0,none⟩) l.length l.length]∧MapS w' b43 mp∧(∀ s,lkB mp s=uy ((rs.take k).map (·.name)) s)∧qv (jq l fs rs) 0 rs.length=qv (jq l fs rs) k (rs.length - k)) (rs.length) ?_ (fun m g12 w17 hI=>?_)
 ·exact⟨0,[],Nat.zero_le _,rfl,rfl,hB,hBT,hb1,hb2,hb3,hb5,hb43,fun s=>rfl,rfl⟩
 obtain⟨k,mp,hk,hm,h47,hB,hBT,hb1,hb2,hb3,hb5,hb43,hmp,hR'⟩:=hI;refine zQ 47 _ h47 nu (zn6 ?_);refine zJ rfl (fun c48=>?_) (fun c48=>?_)
 ·have hlt:k < rs.length:=by omega
  obtain⟨tb,to,Gk,cgk,Sk,csk,Bk,mk,rfl,htb,htr,hGk,hSk,hTk⟩:=hRu.at_ hB hlt;refine zn8 ?_;refine wl (qW U49 rfl rfl htr sz49) ?_;refine qw (cs:=#[.string ⟨#[]⟩,.slice none 0 0,.int .i64 0,.int .i64 0,.int .i64 0,.string ⟨#[]⟩,.int .i64 0,.string ⟨#[]⟩,.slice none 0 0,.slice none 0 0]) ze49 rfl (fun b8 w18 hb8 s14 hr=>?_);have:=nLL hb1.lt hr;have:=nLL hb2.lt hr;have:=nLL hb3.lt hr;have:=nLL hb5.lt hr;have:=nLL hb43.lt hr;have lo8:=nLT (Bel.size hB) hr;have lo_hBT_b8:=nLT (Bel.size hBT) hr;refine waI rfl ?_;refine zk hb8 rfl rfl sz49 rfl zK (fun w19 hq s15=>?_);replace hb8:=hq;refine zn7 ?_;refine zX TW (I1 _ _) rfl (fun e' w20 hr=>?_);obtain⟨rfl,rfl⟩:=hr;refine⟨_,rfl,?_⟩;refine zn3 ?_;replace hB:=(hB.tr0 s14).tr1 s15 lo8;replace hb2:=(hb2.tr0 s14).tr1 s15 om;refine kv rfl (fun c55=>?_) (fun c55=>?_)
  ·have hty:=rn10 (l:=l) (fs:=fs) hlt (by simpa using c55);refine zn3 ?_;refine zX Pz (vV _ _ _) rfl (fun e' w21 hr=>?_);obtain⟨rfl,s16⟩:=hr;replace s16:=sB s16;refine⟨_,rfl,?_⟩;replace hb2:=hb2.tr0 s16;refine zk hb2 rfl rfl zz rfl zK (fun w22 hq s17=>?_);replace hb2:=hq;refine zn9 ?_;refine xX (.inl rfl) rfl (zw U36 rfl rfl hb2.range0 zz) ?_;replace hB:=(hB.tr0 s16).tr1 s17 lo2;exact⟨xW (Y5 h0 hf3 h38 (hR'.trans (y9 om hty (show (10:Int)≠0 by decide))) (show (10:Int)≠0 by decide)),hB⟩
  have hnm:y8 (rs[k]'hlt).name=true:=by simpa using c55
  refine zn5 ?_;refine wl (x5 (v:= .map _) rfl) (zn2 ?_);replace hb43:=(hb43.tr0 s14).tr1 s15 om;refine wl (r_lkS hb43 R9 U9 gk rfl rfl) (wmT rfl (wl (yk (v:=_) rfl rfl) (wl (yk (v:= .bool _) rfl rfl) (wl (kQ (v:=_) rfl) (zn8 ?_)))));refine kv rfl (fun c65=>?_) (fun c65=>?_)
  ·have hty:=rn7 (l:=l) (fs:=fs) hlt hnm ((hmp _).symm.trans c65);refine zn3 ?_;refine zX Pz (vV _ _ _) rfl (fun e' w23 hr=>?_);obtain⟨rfl,s18⟩:=hr;replace s18:=sB s18;refine⟨_,rfl,?_⟩;replace hb2:=hb2.tr0 s18;refine zk hb2 rfl rfl zz rfl zK (fun w24 hq s19=>?_);replace hb2:=hq;refine zn9 ?_;refine xX (.inl rfl) rfl (zw U36 rfl rfl hb2.range0 zz) ?_;replace hB:=(hB.tr0 s18).tr1 s19 lo2;exact⟨xW (Y5 h0 hf3 h38 (hR'.trans (y9 om hty (show (7:Int)≠0 by decide))) (show (7:Int)≠0 by decide)),hB⟩
  have hsn:uy ((rs.take k).map (·.name)) (rs[k]'hlt).name=false:=by rw [← hmp];exact c65
  replace hBT:=(hBT.tr0 s14).tr1 s15 lo_hBT_b8;have hmp':∀ s,lkB (IY mp (rs[k]'hlt).name (.int .i64 k)) s=uy ((rs.take (k + 1)).map (·.name)) s:=fun s=>by
    rw [uV _ _ _ c65,oZ rs hlt,List.map_append,List.map_cons,List.map_nil,M3,← hmp];simp [lkB]
  refine zn4 ?_;refine wl (x5 (v:= .map _) rfl) (zn3 ?_);refine Rv (v:= .int _ _) hb43 R9 U9 rfl rfl rfl (fun w25 hq s20=>?_);replace hb43:=hq;refine zn7 ?_;replace hB:=hB.tr1 s20 lo43;replace hBT:=hBT.tr1 s20 lo_hBT_b43;refine zX fn47 (rule_any AT AF Gk Sk Bk ct cf cgk csk mk bu bd l fs (rs[k]'hlt) _ (hTI.mono hBT) hS.le (hF.mono hB) hfo h40 (hGk.mono hB) (hSk.mono hB) (hTk.mono hB)) rfl (fun e' w26 hr=>?_);obtain⟨rfl,s21⟩:=hr;replace s21:=sB s21;refine⟨_,rfl,?_⟩;refine zn9 ?_;replace hb2:=(hb2.tr1 s20 om).tr0 s21;replace hB:=hB.tr0 s21;refine zJ rfl (fun c77=>?_) (fun c77=>?_)
  ·have hty:=rnF (l:=l) (fs:=fs) hlt hnm hsn;refine zn4 ?_;refine zX Pz (vV _ _ _) rfl (fun e' w27 hr=>?_);obtain⟨rfl,s22⟩:=hr;replace s22:=sB s22;refine⟨_,rfl,?_⟩;replace hb2:=hb2.tr0 s22;refine zk hb2 rfl rfl zz rfl zK (fun w28 hq s23=>?_);replace hb2:=hq;refine zn8 ?_;refine xX (.inl rfl) rfl (zw U36 rfl rfl hb2.range0 zz) ?_;replace hB:=(hB.tr0 s22).tr1 s23 lo2;exact⟨xW (Y5 h0 hf3 h38 (hR'.trans (y9 om hty c77)) c77),hB⟩
  have hty0:=(rnF (l:=l) (fs:=fs) hlt hnm hsn).trans (Decidable.not_not.1 c77);refine zn7 ?_;refine yq (rs.length - (k + 1)) om agA ?_;replace hb1:=(((hb1.tr0 s14).tr1 s15 om).tr1 s20 om).tr0 s21;replace hb3:=(((hb3.tr0 s14).tr1 s15 om).tr1 s20 om).tr0 s21;replace hb5:=(((hb5.tr0 s14).tr1 s15 om).tr1 s20 om).tr0 s21;replace hBT:=hBT.tr0 s21;replace hb43:=hb43.tr0 s21;exact⟨k + 1,IY mp (rs[k]'hlt).name (.int .i64 k),by omega,rfl,rfl,hB,hBT,hb1,hb2,hb3,hb5,hb43,hmp',hR'.trans (jY hlt hty0)⟩
 have hRz:qv (jq l fs rs) 0 rs.length=(0,0):=hR'.trans (uq om);refine Ow ?_;refine qJ [12,13,14,85,86,87,88,89,90,91,92,93,94,95,96,97,98,99] (fun m g w'=>∃ q:Nat,q≤xs.length∧m=xs.length - q∧g 85= .int .i64 q∧Bel w w'∧Bel wT w'∧Blk w' b1 32 #[.slice AT l.length ct,.slice AF fs.length cf,.slice AR rs.length cr,.slice AX xs.length cx,.slice AS st.length cst]∧Blk w' b2 36 #[.int .i64 0,.int .i64 0]∧Blk w' b3 25 #[.slice AT l.length ct,.slice AF fs.length cf]∧Blk w' b5 86 #[.slice (some ⟨bu,0,none⟩) l.length l.length,.slice (some ⟨bd,0,none⟩) l.length l.length]∧qv (J4 l fs xs) 0 xs.length=qv (J4 l fs xs) q (xs.length - q)) (xs.length) ?_ (fun m g25 w29 hI=>?_)
 ·exact⟨0,Nat.zero_le _,rfl,rfl,hB,hBT,hb1,hb2,hb3,hb5,rfl⟩
 obtain⟨q,hq,hm,h85,hB,hBT,hb1,hb2,hb3,hb5,hL'⟩:=hI;refine zQ 85 _ h85 nu (zn6 ?_);refine zJ rfl (fun c86=>?_) (fun c86=>?_)
 ·have hlq:q < xs.length:=by omega
  obtain⟨ub,uo,Gk,cgk,Sk,csk,Bk,mk,rfl,hub,hszq,hur,hGk,hSk,hTk⟩:=hLx.at_ hB hlq;refine zn8 ?_;refine wl (qW U46 rfl rfl hur sz46) ?_;refine qw (cs:=#[.string ⟨#[]⟩,.slice none 0 0,.int .i64 0,.int .i64 0,.string ⟨#[]⟩,.int .i64 0,.string ⟨#[]⟩,.slice none 0 0,.slice none 0 0]) ze46 rfl (fun b13 w30 hb13 s24 hr=>?_);have:=nLL hb1.lt hr;have:=nLL hb2.lt hr;have:=nLL hb3.lt hr;have:=nLL hb5.lt hr;have lo13:=nLT (Bel.size hB) hr;have lo_hBT_b13:=nLT (Bel.size hBT) hr;refine waI rfl ?_;refine zk hb13 rfl rfl sz46 rfl zK (fun w31 hq s25=>?_);replace hb13:=hq;refine zn7 ?_;replace hB:=(hB.tr0 s24).tr1 s25 lo13;replace hBT:=(hBT.tr0 s24).tr1 s25 lo_hBT_b13;refine zX fn48 (entry_any AT AF Gk Sk Bk ct cf cgk csk mk bu bd l fs (xs[q]'hlq) _ (hU.mono hB) (hTI.mono hBT) hS.le (hF.mono hB) hfo (hGk.mono hB) (hSk.mono hB) (hTk.mono hB) hszq) rfl (fun e' w32 hr=>?_);obtain⟨rfl,s26⟩:=hr;replace s26:=sB s26;refine⟨_,rfl,?_⟩;refine zn9 ?_;replace hb2:=((hb2.tr0 s24).tr1 s25 om).tr0 s26;replace hB:=hB.tr0 s26;refine zJ rfl (fun c95=>?_) (fun c95=>?_)
  ·have hly:=lnF (l:=l) (fs:=fs) hlq;refine zn4 ?_;refine zX Pz (vV _ _ _) rfl (fun e' w33 hr=>?_);obtain⟨rfl,s27⟩:=hr;replace s27:=sB s27;refine⟨_,rfl,?_⟩;replace hb2:=hb2.tr0 s27;refine zk hb2 rfl rfl zz rfl zK (fun w34 hq s28=>?_);replace hb2:=hq;refine zn8 ?_;refine xX (.inl rfl) rfl (zw U36 rfl rfl hb2.range0 zz) ?_;replace hB:=(hB.tr0 s27).tr1 s28 lo2;exact⟨xW (W7 h0 hf3 h38 hRz (hL'.trans (y9 om hly c95)) c95),hB⟩
  have hly0:=(lnF (l:=l) (fs:=fs) hlq).trans (Decidable.not_not.1 c95);refine zn7 ?_;refine yq (xs.length - (q + 1)) om agA ?_;replace hb1:=((hb1.tr0 s24).tr1 s25 om).tr0 s26;replace hb3:=((hb3.tr0 s24).tr1 s25 om).tr0 s26;replace hb5:=((hb5.tr0 s24).tr1 s25 om).tr0 s26;replace hBT:=hBT.tr0 s26;exact⟨q + 1,by omega,rfl,rfl,hB,hBT,hb1,hb2,hb3,hb5,hL'.trans (jY hlq hly0)⟩
 have hLz:qv (J4 l fs xs) 0 xs.length=(0,0):=hL'.trans (uq om);refine gj ?_;refine wl (qW U30 rfl rfl (hb1.sub (n:=1) (xs:=[_]) rfl) Z8) ?_;refine zX I6 (Xw AT AF AS ct cf cst bu bd l fs st _ (hTI.mono hBT) hS.le (hF.mono hB) (hG.mono hB) hfo) rfl (fun e' w35 hr=>?_);obtain⟨rfl,s29⟩:=hr;replace s29:=sB s29;refine⟨_,rfl,?_⟩;refine yj (cs:=#[.int .i64 0,.int .i64 0]) zY rfl (fun _=>rfl) (fun _=>rfl) zz rfl zK (fun b15 w37 hb15 s30 hr=>?_);refine zn9 ?_;replace hB:=hB.tr0 (s29.trans s30);replace hb2:=hb2.tr0 (s29.trans s30);refine zJ rfl (fun c107=>?_) (fun c107=>?_)
 ·refine zn4 ?_;refine zX Pz (vV _ _ _) rfl (fun e' w38 hr=>?_);obtain⟨rfl,s31⟩:=hr;replace s31:=sB s31;refine⟨_,rfl,?_⟩;replace hb2:=hb2.tr0 s31;refine zk hb2 rfl rfl zz rfl zK (fun w39 hq s32=>?_);replace hb2:=hq;refine zn4 ?_;refine xX (.inl rfl) rfl (zw U36 rfl rfl hb2.range0 zz) ?_;replace hB:=(hB.tr0 s31).tr1 s32 lo2;exact⟨xW (gr_start h0 hf3 h38 hRz hLz c107),hB⟩
 refine zn4 ?_;refine wl (uJ (vs:=#[]) (cs:=#[.int .i64 0,.int .i64 0]) (by simp) kR) ?_;refine zk hb2 rfl rfl zz rfl zK (fun w40 hq s33=>?_);replace hb2:=hq;refine zn3 ?_;refine xX (.inl rfl) rfl (zw U36 rfl rfl hb2.range0 zz) ?_;replace hB:=hB.tr1 s33 lo2;exact⟨xW (gr_ok h0 hf3 h38 hRz hLz (Decidable.not_not.1 c107)),hB⟩
end Go.Proofs.YtdgnllfbooklcaaDoor
namespace Go.Proofs.YtdgnllfbooklcaaDoor
open Go.RowKit
def kdR (rs:List Rl) (ri:Int):Int:=((rs[ri.toNat]?).map (·.kids)).getD 0
def grR (rs:List Rl) (ri:Int):List Nd:=((rs[ri.toNat]?).map (·.gr)).getD []
noncomputable def wiN (l:List Ty) (fs:List Ft) (ks:List (List Nd)) (i:Nat):Int:=(xj l fs (ks.getD i [])).1
noncomputable def Iq (l:List Ty) (fs:List Ft) (rs:List Rl) (xs:List Lx) (st:List Nd) (ri:Int) (ks:List (List Nd)):Fl:=
  if ¬(qy l fs rs xs st).1=0 then qy l fs rs xs st else if ri < 0∨(rs.length:Int)≤ri then (3,-2) else if ¬(ks.length:Int)=kdR rs ri then (9,-3) else qv (wiN l fs ks) 0 ks.length
section cmb
variable {l:List Ty} {fs:List Ft} {rs:List Rl} {xs:List Lx} {st:List Nd} {ri:Int} {ks:List (List Nd)}
theorem cmb_g (h:¬(qy l fs rs xs st).1=0):Iq l fs rs xs st ri ks=((qy l fs rs xs st).1,(qy l fs rs xs st).2):=if_pos h
theorem cmb_r (h:(qy l fs rs xs st).1=0) (h2:ri < 0∨(rs.length:Int)≤ri):Iq l fs rs xs st ri ks=(3,-2):=by unfold Iq;rw [if_neg (fun e=>e h),if_pos h2]
theorem cmb_k (h:(qy l fs rs xs st).1=0) (h2:¬(ri < 0∨(rs.length:Int)≤ri)) (h3:¬(ks.length:Int)=kdR rs ri):Iq l fs rs xs st ri ks=(9,-3):=by unfold Iq;rw [if_neg (fun e=>e h),if_neg h2,if_pos h3]
theorem cmb_w {f:Fl} (h:(qy l fs rs xs st).1=0) (h2:¬(ri < 0∨(rs.length:Int)≤ri)) (h3:(ks.length:Int)=kdR rs ri) (h4:qv (wiN l fs ks) 0 ks.length=f):Iq l fs rs xs st ri ks=f:=by unfold Iq;rw [if_neg (fun e=>e h),if_neg h2,if_neg (fun e=>e h3),h4]
theorem kdR_at {i:Nat} (hi:i < rs.length):kdR rs (i:Int)=(rs[i]).kids:=by simp [kdR,hi]
theorem grR_at {i:Nat} (hi:i < rs.length):grR rs (i:Int)=(rs[i]).gr:=by simp [grR,hi]
theorem Ry {i:Nat} (hi:i < ks.length):wiN l fs ks i=(xj l fs ks[i]).1:=by simp [wiN,List.getD,hi]
def CombS (l:List Ty) (fs:List Ft) (rs:List Rl) (xs:List Lx) (st:List Nd) (ri:Int) (ks:List (List Nd)) (ok:Bool) (Y:List Nd):Prop:=
  (¬(Iq l fs rs xs st ri ks).1=0∧ok=false∧Y= [])∨(Iq l fs rs xs st ri ks=(0,0)∧QJ l (grR rs ri) 0 ks ok Y)
theorem gr_jok (h:(qy l fs rs xs st).1=0) {i:Nat} (hi:i < rs.length):(qj l fs).1=0∧Jok l fs (rs[i]).kids (rs[i]).gr:=by
  have h1:(qj l fs).1=0:=by
    refine Classical.byContradiction (fun e=>?_);rw [J2 e] at h;exact e h
  have h2:¬fs.length≤3:=fun e=>by rw [O7 h1 e] at h;cases h
  have h3:¬(40 < rs.length∨100 < xs.length):=fun e=>by rw [I5 h1 h2 e] at h;cases h
  have h4:(qv (jq l fs rs) 0 rs.length).1=0:=by
    refine Classical.byContradiction (fun e=>?_);rw [Y5 (c:=(qv (jq l fs rs) 0 rs.length).1) (i:=(qv (jq l fs rs) 0 rs.length).2) h1 h2 h3 rfl e] at h;exact e h
  have q5:=oW _ _ h4 i (Nat.zero_le _) om;have q6:y8 (rs[i]).name=true:=by
    cases e:y8 (rs[i]).name with
    | true=>rfl
    | false=>rw [rn10 hi e] at q5;cases q5
  have q7:uy ((rs.take i).map (·.name)) (rs[i]).name=false:=by
    cases e:uy ((rs.take i).map (·.name)) (rs[i]).name with
    | false=>rfl
    | true=>rw [rn7 hi q6 e] at q5;cases q5
  rw [rnF hi q6 q7] at q5;have q8:¬Q4 rs[i]:=fun e=>by rw [Cv e] at q5;cases q5
  have q9:(xj l fs (rs[i]).gr).1=0:=by
    refine Classical.byContradiction (fun e=>?_);rw [rl_gr q8 e] at q5;exact e q5
  have q10:uZ (rs[i]).gr (rs[i]).kids=true:=by
    cases e:uZ (rs[i]).gr (rs[i]).kids with
    | true=>rfl
    | false=>rw [rl_pl q8 q9 e] at q5;cases q5
  refine⟨h1,jok_rule h1 q9 q10 ?_⟩;unfold Q4 at q8;omega
end cmb
theorem fn27_YCb:zZ Tryd.prog 27=true:=by kernel_rfl
theorem fn31:zZ Tryd.prog 31=true:=by kernel_rfl
set_option maxRecDepth 100000 in
set_option maxHeartbeats 4000000 in
theorem combine_d (AT AF AR AX AS:Option Addr) (ct cf cr cx cst:Nat) (l:List Ty) (fs:List Ft) (rs:List Rl) (xs:List Lx) (st:List Nd) (ri:Int) {kc:Nat} {KA:Option Addr} {ks:List (List Nd)} (w:World) (hTab:TabIn w) (hU:U8In w) (hTy:TypesIn w AT l) (hF:FeatsIn w AF fs) (hRu:RulesIn w AR rs) (hLx:LexesIn w AX xs) (hG:NodesIn w AS st) (hK:GrsIn w KA ks):Calls Tryd.prog 6 #[.agg #[.slice AT l.length ct,.slice AF fs.length cf,.slice AR rs.length cr,.slice AX xs.length cx,.slice AS st.length cst],.int .i64 ri,.slice KA ks.length kc] w fun e w'=>(∃ A Y ok c,e= .returned (.tuple #[.agg #[.slice A (List.length Y) c],.bool ok,flV (Iq l fs rs xs st ri ks)])∧(∀ w2,FrSame w.heap.size w' w2→NodesIn w2 A Y)∧CombS l fs rs xs st ri ks ok Y)∧Bel w w':=by
 have hrx:=hRu.1;have hkx:=hK.1;unfold vz at hrx hkx;refine enter Tryd.func6 Tryd.ntmps6 rfl (Nat.le_of_ble_eq_true rfl) ?_;have hB:Bel w w:=Below.refl _ _;refine zn2 ?_;refine xz (v:= .agg #[_,_,_,_,_]) (cs:=#[_,_,_,_,_]) rfl rfl (fun b3 w1 hb3 s1 hr=>?_);have lo3:=nLT (Bel.size hB) hr;refine qw (cs:=#[.slice none 0 0]) vX rfl (fun b6 w2 hb6 s2 hr=>?_);have:=nLL hb3.lt hr;replace hB:=hB.tr0 s1;have lo6:=nLT (Bel.size hB) hr;refine waB rfl ?_;refine qw (cs:=#[.int .i64 0,.int .i64 0]) zY rfl (fun b8 w3 hb8 s3 hr=>?_);replace hb3:=hb3.tr0 s2;have:=nLL hb3.lt hr;have:=nLL hb6.lt hr;replace hB:=hB.tr0 s2;have lo8:=nLT (Bel.size hB) hr;refine zn6 ?_;replace hB:=hB.tr0 s3;refine zX fn27_YCb (N4 AT AF AR AX AS ct cf cr cx cst l fs rs xs st _ (hTab.mono hB) (hU.mono hB) (hTy.mono hB) (hF.mono hB) (hRu.mono hB) (hLx.mono hB) (hG.mono hB)) rfl (fun e' w4 hr=>?_);obtain⟨rfl,s4⟩:=hr;replace s4:=sB s4;refine⟨_,rfl,?_⟩;refine yj (cs:=#[.int .i64 0,.int .i64 0]) zY rfl (fun _=>rfl) (fun _=>rfl) zz rfl zK (fun b9 w6 hb9 s5 hr=>?_);replace hb3:=hb3.tr0 (s3.trans s4);have:=nLL hb3.lt hr;replace hb6:=hb6.tr0 (s3.trans s4);have:=nLL hb6.lt hr;replace hb8:=hb8.tr0 s4;have:=nLL hb8.lt hr;replace hB:=hB.tr0 s4;have lo9:=nLT (Bel.size hB) hr;refine zn9 ?_;replace hB:=hB.tr0 s5;replace hb6:=hb6.tr0 s5;replace hb8:=hb8.tr0 s5;refine zJ rfl (fun c20=>?_) (fun c20=>?_)
 ·refine xK ?_;refine R5 5 [21,22,7] [b6,b8] (fun ix v wv=>match ix with | 0=>v= .agg #[.slice none 0 0] | 1=>v= .agg #[.int .i64 (qy l fs rs xs st).1,.int .i64 (qy l fs rs xs st).2] | 2=>Blk wv b6 30 #[.slice none 0 0] | 3=>v= .bool false | 4=>Blk wv b8 36 #[.int .i64 (qy l fs rs xs st).1,.int .i64 (qy l fs rs xs st).2] | _=>True) (fun wq=>(∃ z,Blk wq b6 30 #[z])∧∃ z y,Blk wq b8 36 #[z,y]) kR kR ?_ ?_ ⟨⟨_,hb6⟩,_,_,hb8⟩ ?_ ?_
  ·intro ix v wv wv2 h s6
   match ix,h with
   | 0,h=>exact h
   | 1,h=>exact h
   | 2,h=>exact(show Blk wv b6 30 #[.slice none 0 0] from h).tr0 s6
   | 3,h=>exact h
   | 4,h=>exact(show Blk wv b8 36 #[.int .i64 (qy l fs rs xs st).1,.int .i64 (qy l fs rs xs st).2] from h).tr0 s6
   | _ + 5,h=>exact trivial
  ·intro wv wv2 h s7;obtain⟨⟨z1,hb6⟩,z2,z3,hb8⟩:=h;replace hb6:=hb6.tr0 s7;replace hb8:=hb8.tr0 s7;exact⟨⟨_,hb6⟩,_,_,hb8⟩
  ·intro ix o hix hoq gg wx s8 hJ hd
   match ix,hix,hoq with
   | 0,_,hoq=>
    cases sI hoq;show OS _ _ _ _ _ _;exact oVq (uJ (vs:=#[]) (cs:=#[.slice none 0 0]) (by simp) kR) rfl
   | 1,_,hoq=>
    cases sI hoq;replace hb9:=hb9.tr s8 (fun hx=>by simp only [List.mem_cons,List.not_mem_nil,or_false] at hx;omega);show OS _ _ _ _ _ _;exact oVq (qW U36 rfl rfl hb9.range0 zz) rfl
   | 2,_,hoq=>
    cases sI hoq;show OS _ _ _ _ _ _;refine zq 21 _ (hd 0 _ (zj kR) rfl) nu ?_;obtain⟨⟨z1,hb6⟩,z2,z3,hb8⟩:=hJ;refine M7 (fun ops Q K=>?_);refine zk hb6 rfl rfl qx rfl zK (fun w2 hq hs2=>?_);have K2:=K w2;refine K2 ⟨hs2.weak (by simp),?_,hq,fun kx v hne h=>?_⟩
    ·replace hb8:=hb8.tr hs2 (by simp;omega);replace hb6:=hq;exact⟨⟨_,hb6⟩,_,_,hb8⟩
    match kx,hne,h with
    | 0,_,h=>exact h
    | 1,_,h=>exact h
    | 2,hne,_=>exact absurd rfl hne
    | 3,_,h=>exact h
    | 4,_,h=>exact(show Blk wx b8 36 #[.int .i64 (qy l fs rs xs st).1,.int .i64 (qy l fs rs xs st).2] from h).tr hs2 (by simp;omega)
    | _ + 5,_,_=>exact trivial
   | 3,_,hoq=>
    cases sI hoq;show OS _ _ _ _ _ _;exact oVq (kQ (v:= .bool _) rfl) rfl
   | 4,_,hoq=>
    cases sI hoq;show OS _ _ _ _ _ _;refine zq 22 _ (hd 1 _ (zj kR) rfl) nu ?_;obtain⟨⟨z1,hb6⟩,z2,z3,hb8⟩:=hJ;refine M7 (fun ops Q K=>?_);refine zk hb8 rfl rfl zz rfl zK (fun w2 hq hs2=>?_);have K2:=K w2;refine K2 ⟨hs2.weak (by simp),?_,hq,fun kx v hne h=>?_⟩
    ·replace hb6:=hb6.tr hs2 (by simp;omega);replace hb8:=hq;exact⟨⟨_,hb6⟩,_,_,hb8⟩
    match kx,hne,h with
    | 0,_,h=>exact h
    | 1,_,h=>exact h
    | 2,_,h=>exact(show Blk wx b6 30 #[.slice none 0 0] from h).tr hs2 (by simp;omega)
    | 3,_,h=>exact h
    | 4,hne,_=>exact absurd rfl hne
    | _ + 5,_,_=>exact trivial
   | _ + 5,hix,_=>exact absurd hix om
  intro gg w7 s9 hJ hR;replace hB:=hB.tr s9 (fun q hx=>by simp only [List.mem_cons,List.not_mem_nil,or_false] at hx;omega);have hq2:Blk w7 b6 30 #[.slice none 0 0]:=hR 2 _ rfl;have hq4:Blk w7 b8 36 #[.int .i64 (qy l fs rs xs st).1,.int .i64 (qy l fs rs xs st).2]:=hR 4 _ rfl;replace hb6:=hq2;replace hb8:=hq4;refine qY 7 _ (hR 3 _ rfl) nu (zn4 ?_);refine Pq (.inl rfl) rfl (zw U30 rfl rfl hb6.range0 qx) rfl (zw U36 rfl rfl hb8.range0 zz) ?_;exact⟨⟨none,[],false,0,by rw [cmb_g c20];rfl,fun w2 _=>oX w2 none,.inl ⟨by rw [cmb_g c20];exact c20,rfl,rfl⟩⟩,hB⟩
 have hg0:=Classical.not_not.1 c20;refine zn4 ?_;refine yQ [23,24,25,26,27,28,29,30,31] 31 (.bool (decide (ri < 0∨(rs.length:Int)≤ri))) nu ?_ (fun gq=>?_)
 ·refine zn4 ?_;refine zV 25 rfl (fun g25=>?_) (fun g25=>?_)
  ·refine zn6 ?_;refine zW (e_R ⟨rfl,agA,?_⟩);exact clA
  refine gj ?_;refine zW (e_R ⟨rfl,agA,?_⟩);exact clA
 refine e_S ?_;refine zJ rfl (fun c31=>?_) (fun c31=>?_)
 ·refine zn2 ?_;refine wl (uJ (vs:=#[]) (cs:=#[.slice none 0 0]) (by simp) kR) ?_;refine zX Pz (vV _ _ _) rfl (fun e' w8 hr=>?_);obtain⟨rfl,s10⟩:=hr;replace s10:=sB s10;refine⟨_,rfl,?_⟩;replace hb6:=hb6.tr0 s10;refine zk hb6 rfl rfl qx rfl zK (fun w9 hq s11=>?_);replace hb6:=hq;refine waB rfl ?_;replace hb8:=(hb8.tr0 s10).tr1 s11 om;refine zk hb8 rfl rfl zz rfl zK (fun w10 hq s12=>?_);replace hb8:=hq;refine zn4 ?_;replace hb6:=hb6.tr1 s12 om;refine Pq (.inl rfl) rfl (zw U30 rfl rfl hb6.range0 qx) rfl (zw U36 rfl rfl hb8.range0 zz) ?_;replace hB:=((hB.tr0 s10).tr1 s11 lo6).tr1 s12 lo8;exact⟨⟨none,[],false,0,by rw [cmb_r hg0 c31];rfl,fun w2 _=>oX w2 none,.inl ⟨by rw [cmb_r hg0 c31];exact dE,rfl,rfl⟩⟩,hB⟩
 obtain⟨rn,hrn⟩:=Int.eq_ofNat_of_zero_le (show 0≤ri by omega);subst hrn;have hril:rn < rs.length:=by omega
 obtain⟨rb,ro,Gk,cgk,Sk,csk,Bk,mk,hAR,hrb,hrr,_,_,_⟩:=hRu.at_ hB hril;have hkd:=kdR_at (rs:=rs) hril;obtain⟨h0,hjk⟩:=gr_jok hg0 hril;have hS:=K8 h0;have hfo:=Wz h0;refine zn4 ?_;subst hAR;refine zn5 ?_;refine wl (x5 (v:= .int .i64 ((rn:Nat):Int)) rfl) (zn2 ?_);refine wl (qK (v:= .int _ _) U3 rfl rfl (hrr 2 _ rfl)) (zn3 ?_);refine zJ rfl (fun c42=>?_) (fun c42=>?_)
 ·refine zn2 ?_;refine wl (uJ (vs:=#[]) (cs:=#[.slice none 0 0]) (by simp) kR) ?_;refine zX Pz (vV _ _ _) rfl (fun e' w11 hr=>?_);obtain⟨rfl,s13⟩:=hr;replace s13:=sB s13;refine⟨_,rfl,?_⟩;replace hb6:=hb6.tr0 s13;refine zk hb6 rfl rfl qx rfl zK (fun w12 hq s14=>?_);replace hb6:=hq;refine waB rfl ?_;replace hb8:=(hb8.tr0 s13).tr1 s14 om;refine zk hb8 rfl rfl zz rfl zK (fun w13 hq s15=>?_);replace hb8:=hq;refine zn4 ?_;replace hb6:=hb6.tr1 s15 om;refine Pq (.inl rfl) rfl (zw U30 rfl rfl hb6.range0 qx) rfl (zw U36 rfl rfl hb8.range0 zz) ?_;replace hB:=((hB.tr0 s13).tr1 s14 lo6).tr1 s15 lo8;exact⟨⟨none,[],false,0,by rw [cmb_k hg0 c31 (by rw [hkd];exact c42)];rfl,fun w2 _=>oX w2 none,.inl ⟨by rw [cmb_k hg0 c31 (by rw [hkd];exact c42)];exact dE,rfl,rfl⟩⟩,hB⟩
 have hkl:=Classical.not_not.1 c42;refine zn7 ?_;refine zX Oz (XZ AT ct l _ (hTy.mono hB) hS.vt hS.le) rfl (fun e' w14 hr=>?_);obtain⟨bu,bd,rfl,hTI,s16⟩:=hr;replace s16:=sB s16;obtain⟨wT,hwT⟩:∃ x,x=w14:=⟨_,rfl⟩
 have hBT:Bel wT w14:=by rw [hwT];exact Below.refl _ _
 rw [← hwT] at hTI;refine⟨_,rfl,?_⟩;refine yj (cs:=#[.slice none 0 0,.slice none 0 0]) Bv rfl (fun _=>rfl) (fun _=>rfl) Jv rfl zK (fun b10 w16 hb10 s17 hr=>?_);replace hb3:=hb3.tr0 (s5.trans s16);have:=nLL hb3.lt hr;replace hb6:=hb6.tr0 s16;have:=nLL hb6.lt hr;replace hb8:=hb8.tr0 s16;have:=nLL hb8.lt hr;replace hb9:=hb9.tr0 s16;have:=nLL hb9.lt hr;replace hB:=hB.tr0 s16;have lo10:=nLT (Bel.size hB) hr;have lo_hBT_b10:=nLT (Bel.size hBT) hr;refine gj ?_;replace hB:=hB.tr0 s17;replace hb3:=hb3.tr0 s17;replace hb6:=hb6.tr0 s17;replace hb8:=hb8.tr0 s17;replace hBT:=hBT.tr0 s17;refine qJ [7,11,12,13,51,52,53,54,55,56,57,58,59,60,61,62,63,64,65,66,67,68,69] (fun m g w'=>∃ k:Nat,k≤ks.length∧m=ks.length - k∧g 51= .int .i64 k∧Bel w w'∧Bel wT w'∧Blk w' b3 32 #[.slice AT l.length ct,.slice AF fs.length cf,.slice (some ⟨rb,ro,none⟩) rs.length cr,.slice AX xs.length cx,.slice AS st.length cst]∧Blk w' b6 30 #[.slice none 0 0]∧Blk w' b8 36 #[.int .i64 0,.int .i64 0]∧Blk w' b10 86 #[.slice (some ⟨bu,0,none⟩) l.length l.length,.slice (some ⟨bd,0,none⟩) l.length l.length]∧qv (wiN l fs ks) 0 ks.length=qv (wiN l fs ks) k (ks.length - k)∧∀ i (hi:i < ks.length),i < k→(xj l fs ks[i]).1=0) (ks.length) ?_ (fun m g10 w17 hI=>?_)
 ·exact⟨0,Nat.zero_le _,rfl,rfl,hB,hBT,hb3,hb6,hb8,hb10,rfl,fun i hi h=>by omega⟩
 obtain⟨k,hk,hm,h51,hB,hBT,hb3,hb6,hb8,hb10,hR,hz⟩:=hI;refine zQ 51 _ h51 nu (zn6 ?_);refine zJ rfl (fun c52=>?_) (fun c52=>?_)
 ·have hlt:k < ks.length:=by omega
  obtain⟨gb,go,GA,gc,rfl,hgr,hgn⟩:=hK.at_ hB hlt;refine zn7 ?_;refine wl (yJ (i:=k) U33 qx rfl rfl hlt rfl) (wl (qW U30 rfl rfl hgr qx) ?_);refine qw (cs:=#[.slice none 0 0]) vX rfl (fun b12 w18 hb12 s18 hr=>?_);have:=nLL hb3.lt hr;have:=nLL hb6.lt hr;have:=nLL hb8.lt hr;have:=nLL hb10.lt hr;have lo12:=nLT (Bel.size hB) hr;have lo_hBT_b12:=nLT (Bel.size hBT) hr;refine waI rfl ?_;refine zk hb12 rfl rfl qx rfl zK (fun w19 hq s19=>?_);replace hb12:=hq;refine zn5 ?_;replace hb3:=(hb3.tr0 s18).tr1 s19 om;refine wl (qW U25 rfl rfl (hb3.sub (n:=2) (xs:=[_,_]) rfl) F4) (zn2 ?_);replace hB:=(hB.tr0 s18).tr1 s19 lo12;replace hBT:=(hBT.tr0 s18).tr1 s19 lo_hBT_b12;refine zX I6 (Xw AT AF GA ct cf gc bu bd l fs (ks[k]) _ (hTI.mono hBT) hS.le (hF.mono hB) (hgn.mono hB) hfo) rfl (fun e' w20 hr=>?_);obtain⟨rfl,s20⟩:=hr;replace s20:=sB s20;refine⟨_,rfl,?_⟩;refine yj (cs:=#[.int .i64 0,.int .i64 0]) zY rfl (fun _=>rfl) (fun _=>rfl) zz rfl zK (fun b13 w22 hb13 s21 hr=>?_);replace hb3:=hb3.tr0 s20;have:=nLL hb3.lt hr;replace hb6:=((hb6.tr0 s18).tr1 s19 om).tr0 s20;have:=nLL hb6.lt hr;replace hb8:=((hb8.tr0 s18).tr1 s19 om).tr0 s20;have:=nLL hb8.lt hr;replace hb10:=((hb10.tr0 s18).tr1 s19 om).tr0 s20;have:=nLL hb10.lt hr;replace hb12:=hb12.tr0 s20;have:=nLL hb12.lt hr;replace hB:=hB.tr0 s20;have lo13:=nLT (Bel.size hB) hr;replace hBT:=hBT.tr0 s20;have lo_hBT_b13:=nLT (Bel.size hBT) hr;refine zn9 ?_;replace hB:=hB.tr0 s21;replace hb6:=hb6.tr0 s21;replace hb8:=hb8.tr0 s21;refine zJ rfl (fun c63=>?_) (fun c63=>?_)
  ·have hcm:Iq l fs rs xs st (rn:Int) ks=((xj l fs ks[k]).1,(k:Int)):=cmb_w hg0 c31 (by rw [hkd];exact hkl) (hR.trans (y9 om (Ry hlt) c63));refine zn2 ?_;refine wl (uJ (vs:=#[]) (cs:=#[.slice none 0 0]) (by simp) kR) (zn3 ?_);refine zX Pz (vV _ _ _) rfl (fun e' w23 hr=>?_);obtain⟨rfl,s22⟩:=hr;replace s22:=sB s22;refine⟨_,rfl,?_⟩;replace hb6:=hb6.tr0 s22;refine zk hb6 rfl rfl qx rfl zK (fun w24 hq s23=>?_);replace hb6:=hq;refine waB rfl ?_;replace hb8:=(hb8.tr0 s22).tr1 s23 om;refine zk hb8 rfl rfl zz rfl zK (fun w25 hq s24=>?_);replace hb8:=hq;refine zn8 ?_;replace hb6:=hb6.tr1 s24 om;refine Pq (.inl rfl) rfl (zw U30 rfl rfl hb6.range0 qx) rfl (zw U36 rfl rfl hb8.range0 zz) ?_;replace hB:=((hB.tr0 s22).tr1 s23 lo6).tr1 s24 lo8;exact⟨⟨none,[],false,0,by rw [hcm];rfl,fun w2 _=>oX w2 none,.inl ⟨by rw [hcm];exact c63,rfl,rfl⟩⟩,hB⟩
  have hwz:=Classical.not_not.1 c63;refine zn7 ?_;refine yq (ks.length - (k + 1)) om agA ?_;replace hb3:=hb3.tr0 s21;replace hBT:=hBT.tr0 s21;replace hb10:=hb10.tr0 s21;refine⟨k + 1,by omega,rfl,rfl,hB,hBT,hb3,hb6,hb8,hb10,hR.trans (jY hlt (by rw [Ry hlt];exact hwz)),fun i hi h=>?_⟩;by_cases e:i=k
  · subst e;exact hwz
  · exact hz i hi om
 have hke:k=ks.length:=by omega
 have hcm:Iq l fs rs xs st (rn:Int) ks=(0,0):=cmb_w hg0 c31 (by rw [hkd];exact hkl) (hR.trans (uq om));have hkv:∀ q ∈ ks,GV l fs q:=fun q hq=>by
   obtain⟨i,hi,rfl⟩:=List.getElem_of_mem hq;exact(Mk h0 (hz i hi om)).1
 refine gj ?_;have z6:=hb6.lt;have z8:=hb8.lt;have hszV:=Bel.size hB;refine zX fn31 (Tk AT AF (some ⟨rb,ro,none⟩) AX AS ct cf cr cx cst l fs rs xs st (bu:=bu) (bd:=bd) (ri:=rn) _ (hTab.mono hB) (hTI.mono hBT) (hRu.mono hB) hril hjk (hK.mono hB) hkv hkl) rfl (fun e' w26 hr=>?_);obtain⟨⟨AJ,YJ,okJ,cJ,rfl,hNJ,hJR⟩,s25⟩:=hr;replace s25:=sB s25;have hKJ:=jQ hNJ;refine⟨_,rfl,?_⟩;refine wmT rfl (wl (yk (v:=_) rfl rfl) (wl (yk (v:=_) rfl rfl) ?_));refine yj (cs:=#[.slice none 0 0]) vX rfl (fun _=>rfl) (fun _=>rfl) qx rfl zK (fun b14 w28 hb14 s26 hr=>?_);replace hb3:=hb3.tr0 s25;have:=nLL hb3.lt hr;replace hb6:=hb6.tr0 s25;have:=nLL hb6.lt hr;replace hb8:=hb8.tr0 s25;have:=nLL hb8.lt hr;replace hb10:=hb10.tr0 s25;have:=nLL hb10.lt hr;have or_hKJ_b14:=(nLT hKJ.1 hr)
 replace hB:=hB.tr0 s25;have lo14:=nLT (Bel.size hB) hr;refine zn7 ?_;refine wl (uJ (vs:=#[]) (cs:=#[.int .i64 0,.int .i64 0]) (by simp) kR) ?_;replace hb6:=hb6.tr0 s26;refine zk hb6 rfl rfl qx rfl zK (fun w29 hq s27=>?_);replace hb6:=hq;refine waB rfl ?_;replace hb8:=(hb8.tr0 s26).tr1 s27 om;refine zk hb8 rfl rfl zz rfl zK (fun w30 hq s28=>?_);replace hb8:=hq;refine zn3 ?_;replace hb6:=hb6.tr1 s28 om;refine Pq (.inl rfl) rfl (zw U30 rfl rfl hb6.range0 qx) rfl (zw U36 rfl rfl hb8.range0 zz) ?_;replace hB:=((hB.tr0 s26).tr1 s27 lo6).tr1 s28 lo8;replace hKJ:=((hKJ.tr0 s26).tr1 s27 om).tr1 s28 om;exact⟨⟨AJ,YJ,okJ,cJ,by rw [hcm];rfl,QZ hKJ hszV,.inr ⟨hcm,by rw [grR_at hril];exact hJR⟩⟩,hB⟩
end Go.Proofs.YtdgnllfbooklcaaDoor
namespace Go.Proofs.YtdgnllfbooklcaaDoor
open Go.RowKit
theorem in93_DGo:(Tryd.prog.info? 93).map (fun i=>(i.zero,i.size,i.bytes))=some (some (.agg #[.int .i64 0,.slice none 0 0]),2,32):=by kernel_rfl
theorem in95_DGo:(Tryd.prog.info? 95).map (fun i=>(i.zero,i.size,i.bytes))=some (some (.agg #[.int .i64 0,.int .i64 0]),2,16):=by kernel_rfl
theorem sz28_DGo:(Tryd.prog.info? 28).map (·.size)=some 1:=by kernel_rfl
theorem qq:(Tryd.prog.info? 3).map (·.size)=some 1:=by kernel_rfl
theorem Eq:(Tryd.prog.info? 30).map (·.size)=some 1:=by kernel_rfl
theorem xJ:(Tryd.prog.info? 70).map (·.size)=some 1:=by kernel_rfl
theorem S5:(Tryd.prog.info? 91).map (·.size)=some 1:=by kernel_rfl
theorem S4:(Tryd.prog.info? 93).map (·.size)=some 2:=by kernel_rfl
theorem sz95_DGo:(Tryd.prog.info? 95).map (·.size)=some 2:=by kernel_rfl
theorem By:(Tryd.prog.info? 30).map (·.zero)=some (some (.agg #[.slice none 0 0])):=by kernel_rfl
theorem Bj:(Tryd.prog.info? 93).map (·.zero)=some (some (.agg #[.int .i64 0,.slice none 0 0])):=by kernel_rfl
theorem ze95_DGo:(Tryd.prog.info? 95).map (·.zero)=some (some (.agg #[.int .i64 0,.int .i64 0])):=by kernel_rfl
set_option maxHeartbeats 2000000 in
theorem oK (A:Option Addr) (c:Nat) (rs:List (List Int)) (w:World) (hR:RowsIn w A rs):Calls Tryd.prog 20 #[.slice A rs.length c] w fun e w'=>(∃ A' cap,e= .returned (.agg #[.slice A' rs.length cap])∧Fz [] w'.heap.size TS w' (fun w=>NodesIn w A' (rs.map Yk)))∧Bel w w':=by
 have hrl:=hR.1;have hrr:=hR.2.1;refine enter Tryd.func20 Tryd.ntmps20 rfl (Nat.le_of_ble_eq_true rfl) ?_;have hB:Bel w w:=Below.refl _ _;refine zn2 ?_;refine qw (cs:=#[.slice none 0 0]) By rfl (fun b2 w1 hb2 s1 hr=>?_);have lo2:=nLT (Bel.size hB) hr;refine zn4 ?_;refine qw (cs:=#[.slice none 0 0]) By rfl (fun b3 w2 hb3 s2 hr=>?_);have:=nLL hb2.lt hr;replace hB:=hB.tr0 s1;have lo3:=nLT (Bel.size hB) hr;refine gj ?_;replace hB:=hB.tr0 s2;replace hb2:=hb2.tr0 s2;refine qJ [5,6,7,10,11,12,13,14,15,16,17,18,19,20,21,22,23,24,25,26,27,28,29,30,31,32,33,34,35,36,37,38,39,40,41,42,43,44,45,46] (fun m g w'=>∃ (k:Nat) (A3:Option Addr) (cap3:Nat) (xs3:List Value) (n3:Nat),k≤rs.length∧m=rs.length - k∧g 10= .int .i64 k∧Bel w w'∧Blk w' b2 30 #[.slice none 0 0]∧Blk w' b3 30 #[.slice A3 k cap3]∧Own w' (b3 + 1) 93 2 A3 k cap3 xs3∧Fz [] n3 TS1 w' (fun w=>NdData w ((rs.take k).map Yk) xs3)) (rs.length) ?_ (fun m g3 w3 hI=>?_)
 ·exact⟨0,none,0,[],_,Nat.zero_le _,rfl,rfl,hB,hb2,hb3,Own.nil _ _ _ _,Fz.triv [] _ TS1 (fun _=>NdData.nil)⟩
 obtain⟨k,A3,cap3,xs3,n3,hk,hm,h10,hB,hb2,hb3,ho3,hnd⟩:=hI;refine zQ 10 _ h10 nu (zn6 ?_);refine zJ rfl (fun c11=>?_) (fun c11=>?_)
 ·have hlt:k < rs.length:=by omega
  have hrk:=hrr _ (List.getElem_mem hlt);obtain⟨rb,ro,Ar,cr,rfl,hrc,hri⟩:=hR.at_ hB hlt;refine zn7 ?_;refine wl (qK (v:= .slice _ _ _) U70 rfl rfl hrc) (zn4 ?_);obtain⟨pb,po,rfl,hpb,hpc⟩:=hri.2 (by intro h;rw [h] at hrk;simp at hrk);have hc0:=hB.cell hpb (hpc 0 hrk.1);obtain⟨z0,hz0⟩:∃ z,z=(rs[k]'hlt)[0]'hrk.1:=⟨_,rfl⟩
  rw [← hz0] at hc0;refine zn2 ?_;refine wl (yJ (i:=0) U70 qq rfl rfl om rfl) (wl (qK (v:= .int _ _) U3 rfl rfl hc0) (wl (KV (v0:= .int _ _) (fun v0=>#[v0,.slice none 0 0]) rfl kR) ?_));refine yj (cs:=#[.int .i64 0,.slice none 0 0]) Bj rfl (fun _=>rfl) (fun _=>rfl) S4 rfl zK (fun b6 w5 hb6 s3 hr=>?_);have:=nLL hb2.lt hr;have:=nLL hb3.lt hr;have or_ho3_b6:=fun g hg=>nLL (ho3.lt g hg).2 hr
  have or_hnd_b6:=nLT hnd.le hr;have lo6:=nLT (Bel.size hB) hr;refine zn9 ?_;replace hB:=hB.tr0 s3;replace hb2:=hb2.tr0 s3;replace hb3:=hb3.tr0 s3;replace ho3:=ho3.tr0 s3;replace hnd:=hnd.tr0 s3;refine qJ [7,18,19,20,21,22,23,24,25,26,27,28,29,30,31,32,33,34,35,36,37,38,39] (fun m g w'=>∃ (i j:Nat) (A6:Option Addr) (cap6:Nat) (ls6:List (Int×Int)),1≤i∧j≤i∧i≤(rs[k]'hlt).length + 1∧m=(rs[k]'hlt).length + 2 - i∧g 7= .int .i64 i∧QW ((rs[k]'hlt).drop 1)=ls6 ++ QW ((rs[k]'hlt).drop i)∧Bel w w'∧Blk w' b2 30 #[.slice none 0 0]∧Blk w' b3 30 #[.slice A3 k cap3]∧Own w' (b3 + 1) 93 2 A3 k cap3 xs3∧Blk w' b6 93 #[.int .i64 z0,.slice A6 j cap6]∧Own w' (b6 + 1) 95 2 A6 j cap6 (lnC ls6)∧Fz [] n3 TS1 w' (fun w=>NdData w ((rs.take k).map Yk) xs3)) ((rs[k]'hlt).length + 1) ?_ (fun m g7 w6 hI=>?_)
  ·exact⟨1,0,none,0,[],Nat.le_refl _,Nat.zero_le _,by omega,rfl,rfl,rfl,hB,hb2,hb3,ho3,hb6,Own.nil _ _ _ _,hnd⟩
  obtain⟨i,j,A6,cap6,ls6,hi1,hji,hil,hm7,h7,hpr,hB,hb2,hb3,ho3,hb6,ho6,hnd⟩:=hI;refine zQ 7 _ h7 nu (zn4 ?_);refine wl (Q5 (c:=((i + 1:Nat):Int)) rfl rfl rfl om) (zn5 ?_);refine zJ rfl (fun c22=>?_) (fun c22=>?_)
  ·have hi0:i < (rs[k]'hlt).length:=by omega
   have hi2:i + 1 < (rs[k]'hlt).length:=by omega
   have hca:=hB.cell hpb (hpc i hi0);have hcb:=hB.cell hpb (hpc (i + 1) hi2);obtain⟨za,hza⟩:∃ z,z=(rs[k]'hlt)[i]'hi0:=⟨_,rfl⟩
   obtain⟨zb,hzb⟩:∃ z,z=(rs[k]'hlt)[i + 1]'hi2:=⟨_,rfl⟩
   rw [← hza] at hca;rw [← hzb] at hcb;have hpr2:QW ((rs[k]'hlt).drop 1)=(ls6 ++ [(za,zb)]) ++ QW ((rs[k]'hlt).drop (i + 2)):=by rw [hpr,FQ hi2,← hza,← hzb,List.append_assoc];rfl
   refine zn4 ?_;have z2:=hb2.lt;have z3:=hb3.lt;have z6:=hb6.lt;have zo3:=fun g hg=>(ho3.lt g hg).2
   have zo6:=fun g hg=>(ho6.lt g hg).2
   have hsz:=Bel.size hB;replace hca:=fun(w1:World) (h:Bel w6 w1)=>h.cell (nLL hpb hsz) hca
   replace hcb:=fun(w1:World) (h:Bel w6 w1)=>h.cell (nLL hpb hsz) hcb
   refine uj 13 [25,26,27,28,29,30,31,32,33,34,35,36,37] (fun ix=>Nat.beq ix 12) (fun ix v wv=>match ix with | 0=>v= .pointer (some ⟨b6,1,none⟩) | 1=>v= .slice A6 j cap6 | 2=>v= .slice (some ⟨pb,po,none⟩) (rs[k]'hlt).length cr | 3=>v= .int .i64 i | 4=>v= .pointer (some ⟨pb,po + i * 1,none⟩) | 5=>v= .int .i64 za | 6=>v= .slice (some ⟨pb,po,none⟩) (rs[k]'hlt).length cr | 7=>v= .int .i64 i | 8=>v= .int .i64 ((i + 1:Nat):Int) | 9=>v= .pointer (some ⟨pb,po + (i + 1) * 1,none⟩) | 10=>v= .int .i64 zb | 11=>v= .agg #[.int .i64 za,.int .i64 zb] | 12=>∃ b,v= .slice (some ⟨b,0,none⟩) 1 1∧w6.heap.size≤b∧Blk wv b 95 #[.int .i64 za,.int .i64 zb] | _=>True) kR kR ?_ ?_ ?_
   ·intro ix v wv wv2 h s4
    match ix,h with
    | 0,h=>exact h
    | 1,h=>exact h
    | 2,h=>exact h
    | 3,h=>exact h
    | 4,h=>exact h
    | 5,h=>exact h
    | 6,h=>exact h
    | 7,h=>exact h
    | 8,h=>exact h
    | 9,h=>exact h
    | 10,h=>exact h
    | 11,h=>exact h
    | 12,h=>
     obtain⟨b37,e37,lo37,hb37⟩:=h;exact⟨b37,e37,lo37,hb37.tr0 s4⟩
    | _ + 13,h=>exact trivial
   ·intro ix o hix hoq gg wx s5 hd hdis
    match ix,hix,hoq with
    | 0,_,hoq=>
     cases sI hoq;exact oVq (o7 U93 S5 dE rfl rfl rfl) rfl
    | 1,_,hoq=>
     cases sI hoq;refine zq 25 _ (hd 0 (zj kR)) nu ?_;replace hb6:=hb6.tr0 s5;exact oVq (qK (v:= .slice _ _ _) U91 rfl rfl (hb6.cell rfl)) rfl
    | 2,_,hoq=>
     cases sI hoq;exact oVq (x5 (v:= .slice _ _ _) rfl) rfl
    | 3,_,hoq=>
     cases sI hoq;exact oVq (x5 (v:= .int _ _) rfl) rfl
    | 4,_,hoq=>
     cases sI hoq;refine zq 27 _ (hd 2 (zj kR)) nu (zq 28 _ (hd 3 (zj kR)) nu ?_);exact oVq (yJ (i:=i) U70 qq rfl rfl om rfl) rfl
    | 5,_,hoq=>
     cases sI hoq;have hs0:=s5;refine zq 29 _ (hd 4 (zj kR)) nu ?_;exact oVq (qK (v:= .int _ _) U3 rfl rfl (hca _ hs0.bel)) rfl
    | 6,_,hoq=>
     cases sI hoq;exact oVq (x5 (v:= .slice _ _ _) rfl) rfl
    | 7,_,hoq=>
     cases sI hoq;exact oVq (x5 (v:= .int _ _) rfl) rfl
    | 8,_,hoq=>
     cases sI hoq;refine zq 32 _ (hd 7 (zj kR)) nu ?_;exact oVq (Q5 (c:=((i + 1:Nat):Int)) rfl rfl rfl om) rfl
    | 9,_,hoq=>
     cases sI hoq;refine zq 31 _ (hd 6 (zj kR)) nu (zq 33 _ (hd 8 (zj kR)) nu ?_);exact oVq (yJ (i:=i + 1) U70 qq rfl rfl om rfl) rfl
    | 10,_,hoq=>
     cases sI hoq;have hs0:=s5;refine zq 34 _ (hd 9 (zj kR)) nu ?_;exact oVq (qK (v:= .int _ _) U3 rfl rfl (hcb _ hs0.bel)) rfl
    | 11,_,hoq=>
     cases sI hoq;refine zq 30 _ (hd 5 (zj kR)) nu (zq 35 _ (hd 10 (zj kR)) nu ?_);exact oVq (Z9 (v0:= .int _ _) (v1:= .int _ _) (fun v0 v1=>#[v0,v1]) rfl rfl kR) rfl
    | 12,_,hoq=>
     cases sI hoq;have hs0:=s5;refine zq 36 _ (hd 11 (zj kR)) nu ?_;refine vK (fun ops Q K=>?_);refine qZ (cs:=#[_,_]) [(0,.agg _)] rfl U91 sz95_DGo ze95_DGo dE dE kR rfl (fun b37 w7 hb37 s6 hr=>?_);exact K _ _ ⟨s6,⟨_,rfl,nLT hs0.size hr,hb37⟩,fRq hr hb37.lt⟩
    | _ + 13,hix,_=>exact absurd hix om
   intro gg w8 s7 hR hdis;have hs0:=s7;obtain⟨b37,e37,lo37,hb37⟩:=hR 12 dE;have hsm:_≤w8.heap.size:=hs0.size;refine qY 26 _ (hR 1 dE) nu (qY 37 _ e37 nu ?_);replace ho6:=ho6.tr0 s7;refine j9 U91 in95_DGo rfl dE ho6 hb37 rfl rfl rfl zK dE om om (nLT z6 hsm) (fun g38 cap38 w9 ho38 s8 hg=>?_);replace hb2:=hb2.tr0 s7;replace hb3:=hb3.tr0 s7;replace hb6:=hb6.tr0 s7;have ne_ho38_b2:g38≠b2:=fun e=>by
    have hl:=hb2.lt;rcases hg with hg | hg
    · have h1:=ho6.lt g38 (by rw [hg];exact List.mem_singleton.2 rfl)
      (try have:=or_ho6_b2 g38 (by rw [hg];exact List.mem_singleton.2 rfl));omega
    · omega
   have ne_ho38_b3:g38≠b3:=fun e=>by
    have hl:=hb3.lt;rcases hg with hg | hg
    · have h1:=ho6.lt g38 (by rw [hg];exact List.mem_singleton.2 rfl)
      (try have:=or_ho6_b3 g38 (by rw [hg];exact List.mem_singleton.2 rfl));omega
    · omega
   have ne_ho38_b6:g38≠b6:=fun e=>by
    have hl:=hb6.lt;rcases hg with hg | hg
    · have h1:=ho6.lt g38 (by rw [hg];exact List.mem_singleton.2 rfl)
      (try have:=or_ho6_b6 g38 (by rw [hg];exact List.mem_singleton.2 rfl));omega
    · omega
   replace hB:=hB.tr0 s7;replace hB:=hB.tr s8 (fun g hg=>nLT (Nat.le_succ_of_le lo6) (ho6.lt g hg).1);replace hb2:=hb2.tr s8 (fun hx=>by have:=(ho6.lt _ hx).1;(try have:=or_ho6_b2 _ hx);omega);replace hb3:=hb3.tr s8 (fun hx=>by have:=(ho6.lt _ hx).1;(try have:=or_ho6_b3 _ hx);omega);replace ho3:=ho3.tr0 s7;replace ho3:=ho3.tr s8 (fun g hg hx=>by have:=(ho6.lt _ hx).1;have:=(ho3.lt _ hg).1;(try have:=or_ho3_b2 _ hg);(try have:=or_ho6_b2 _ hx);(try have:=or_ho3_b3 _ hg);(try have:=or_ho6_b3 _ hx);(try have:=or_ho3_b6 _ hg);(try have:=or_ho6_b6 _ hx);(try have:=or_ho3_b37 _ hg);(try have:=or_ho6_b37 _ hx);omega);replace hnd:=hnd.tr0 s7;replace hnd:=hnd.trX s8 (fun g hg=> .inl (by have:=(ho6.lt g hg).1;omega));replace hb6:=hb6.tr s8 (fun hx=>by have:=(ho6.lt _ hx).1;(try have:=or_ho6_b6 _ hx);omega);refine zn1 ?_;refine xZ (v:= .slice _ _ _) hb6 rfl rfl S5 (by first | decide | simp) rfl rfl (fun w10 hq s9=>?_);replace ho3:=ho3.tr1 s9 (fun g hg=>by have:=(ho3.lt g hg).1;(try have:=or_ho3_b6 g hg);(try simp only [aL] at hg);(try simp only [List.mem_singleton] at hg);omega);replace hnd:=hnd.sp1 s9 hb6 (.inl dE);replace ho38:=ho38.tr1 s9 (fun g hg=>by have:=(ho38.lt g hg).1;(try have:=or_ho38_b6 g hg);(try simp only [aL] at hg);(try simp only [List.mem_singleton] at hg);omega);replace hb6:=hq;refine zn5 ?_;refine wl (Q5 (c:=((i + 2:Nat):Int)) rfl rfl rfl om) (zn2 ?_);refine yq ((rs[k]'hlt).length + 2 - (i + 2)) om agA ?_;replace hB:=hB.tr1 s9 lo6;replace hb2:=hb2.tr1 s9 om;replace hb3:=hb3.tr1 s9 om;exact⟨i + 2,j + 1,_,_,ls6 ++ [(za,zb)],by omega,by omega,by omega,rfl,rfl,hpr2,hB,hb2,hb3,ho3,hb6,by rw [← lnC_snoc];exact ho38,hnd⟩
  have hls:QW ((rs[k]'hlt).drop 1)=ls6:=by rw [hpr,pairs_end om,List.append_nil]
  have hrow:Yk (rs[k]'hlt)=⟨z0,ls6⟩:=by
    unfold Yk;rw [hls,hz0];simp [List.getD,hrk.1]
  have htk:(rs.take (k + 1)).map Yk=(rs.take k).map Yk ++ [⟨z0,ls6⟩]:=by rw [oZ rs hlt,List.map_append,List.map_cons,List.map_nil,hrow]
  refine zn9 ?_;refine qZ (cs:=#[_,_]) [(0,.agg _)] rfl U28 S4 Bj dE dE kR rfl (fun b43 w11 hb43 s10 hr=>?_);have:=nLL hb2.lt hr;have:=nLL hb3.lt hr;have or_ho3_b43:=fun g hg=>nLL (ho3.lt g hg).2 hr
  have or_hnd_b43:=nLT hnd.le hr;have:=nLL hb6.lt hr;have or_ho6_b43:=fun g hg=>nLL (ho6.lt g hg).2 hr
  have lo43:=nLT (Bel.size hB) hr;replace hb3:=hb3.tr0 s10;replace ho3:=ho3.tr0 s10;refine j9 U28 in93_DGo rfl dE ho3 hb43 rfl rfl rfl zK dE om om hb3.lt (fun g44 cap44 w12 ho44 s11 hg=>?_);replace hb2:=hb2.tr0 s10;have ne_ho44_b2:g44≠b2:=fun e=>by
   have hl:=hb2.lt;rcases hg with hg | hg
   · have h1:=ho3.lt g44 (by rw [hg];exact List.mem_singleton.2 rfl)
     (try have:=or_ho3_b2 g44 (by rw [hg];exact List.mem_singleton.2 rfl));omega
   · omega
  have ne_ho44_b3:g44≠b3:=fun e=>by
   have hl:=hb3.lt;rcases hg with hg | hg
   · have h1:=ho3.lt g44 (by rw [hg];exact List.mem_singleton.2 rfl)
     (try have:=or_ho3_b3 g44 (by rw [hg];exact List.mem_singleton.2 rfl));omega
   · omega
  have ne_ho44_b6:g44≠b6:=fun e=>by
   replace hb6:=hb6.tr0 s10;have hl:=hb6.lt;rcases hg with hg | hg
   · have h1:=ho3.lt g44 (by rw [hg];exact List.mem_singleton.2 rfl)
     (try have:=or_ho3_b6 g44 (by rw [hg];exact List.mem_singleton.2 rfl));omega
   · omega
  replace hB:=hB.tr0 s10;replace hB:=hB.tr s11 (fun g hg=>nLT (Nat.le_succ_of_le lo3) (ho3.lt g hg).1);replace hb2:=hb2.tr s11 (fun hx=>by have:=(ho3.lt _ hx).1;(try have:=or_ho3_b2 _ hx);omega);replace hb3:=hb3.tr s11 (fun hx=>by have:=(ho3.lt _ hx).1;(try have:=or_ho3_b3 _ hx);omega);replace hnd:=hnd.tr0 s10;replace hnd:=hnd.trX s11 (fun g hg=>by obtain⟨cs,h⟩:=Qk ho3 g hg;exact .inr (.inr ⟨_,_,h,.inl dE⟩));replace ho6:=ho6.tr0 s10;replace ho6:=ho6.tr s11 (fun g hg hx=>by have:=(ho3.lt _ hx).1;have:=(ho6.lt _ hg).1;(try have:=or_ho6_b2 _ hg);(try have:=or_ho3_b2 _ hx);(try have:=or_ho6_b3 _ hg);(try have:=or_ho3_b3 _ hx);(try have:=or_ho6_b6 _ hg);(try have:=or_ho3_b6 _ hx);(try have:=or_ho6_b43 _ hg);(try have:=or_ho3_b43 _ hx);omega);have hnd2:=gof_more (z:=z0) ho6 hnd;refine zn1 ?_;refine xZ (v:= .slice _ _ _) hb3 rfl rfl sz28_DGo (by first | decide | simp) rfl rfl (fun w13 hq s12=>?_);replace ho44:=ho44.tr1 s12 (fun g hg=>by have:=(ho44.lt g hg).1;(try have:=or_ho44_b3 g hg);(try simp only [aL] at hg);(try simp only [List.mem_singleton] at hg);omega);replace hnd2:=hnd2.sp1 s12 hb3 (.inl dE);replace hb3:=hq;refine zn7 ?_;refine yq (rs.length - (k + 1)) om agA ?_;replace hB:=hB.tr1 s12 lo3;replace hb2:=hb2.tr1 s12 om;exact⟨k + 1,_,_,_,_,by omega,rfl,rfl,hB,hb2,hb3,ho44,by rw [htk];exact hnd2⟩
 have hkl:k=rs.length:=by omega
 subst hkl;rw [List.take_length] at hnd;refine zn8 ?_;refine zk hb2 rfl rfl Eq rfl zK (fun w14 hq s13=>?_);replace ho3:=ho3.tr1 s13 (fun g hg=>by have:=(ho3.lt g hg).1;(try have:=or_ho3_b2 g hg);(try simp only [aL] at hg);(try simp only [List.mem_singleton] at hg);omega);replace hnd:=hnd.sp1 s13 hb2 (.inl dE);replace hb2:=hq;refine zn3 ?_;refine xX (.inl rfl) rfl (zw U30 rfl rfl hb2.range0 Eq) ?_;replace hB:=hB.tr1 s13 lo2;exact⟨⟨_,_,rfl,gof_end ho3 hnd⟩,hB⟩
end Go.Proofs.YtdgnllfbooklcaaDoor
