/- What these functions of the program compute, at every world: glosswright/glosswrightlaw4.DeriveIsCombination. Arguments opened: graphs. Arguments opened: types and terms (structs that hold slices of themselves), rules, words and grammars; and the bounds of strings inside. Arguments opened: trees. -/
import Derived.Test.YtdgnllfbooklcaaDoorU
import Derived.Test.YtdgnllfbooklcaaDoorSim
import Derived.Test.YtdgnllfbooklcaaDoorYLp
import Derived.Test.YtdgnllfbooklcaaDoorGUnr
import Derived.Test.YtdgnllfbooklcaaDoorTurn
import Derived.SizedLaws
namespace Go.Proofs.YtdgnllfbooklcaaDoor
open Go.RowKit
theorem fn10:zZ Tryd.prog 10=true:=by kernel_rfl
theorem fn11:zZ Tryd.prog 11=true:=by kernel_rfl
theorem fn12:zZ Tryd.prog 12=true:=by kernel_rfl
theorem fn13:zZ Tryd.prog 13=true:=by kernel_rfl
theorem fn14:zZ Tryd.prog 14=true:=by kernel_rfl
theorem fn15:zZ Tryd.prog 15=true:=by kernel_rfl
theorem fn5_YLa:zZ Tryd.prog 5=true:=by kernel_rfl
theorem fn6_YLa:zZ Tryd.prog 6=true:=by kernel_rfl
set_option maxRecDepth 100000 in
set_option maxHeartbeats 8000000 in
theorem law41_any (AT AF AR AX AS:Option Addr) (ct cf cr cx cst:Nat) (l:List Ty) (fs:List Ft) (rs:List Rl) (xs:List Lx) (st:List Nd) (t:Dt) (A:Option Addr) (c:Nat) (w:World) (hTab:TabIn w) (hU:U8In w) (hTy:TypesIn w AT l) (hF:FeatsIn w AF fs) (hRu:RulesIn w AR rs) (hLx:LexesIn w AX xs) (hG:NodesIn w AS st) (hT:TresIn w A t.kids):Calls Tryd.prog 4 #[.agg #[.slice AT l.length ct,.slice AF fs.length cf,.slice AR rs.length cr,.slice AX xs.length cx,.slice AS st.length cst],.agg #[.int .i64 (t).rule,.int .i64 (t).lex,.slice A (t).kids.length c]] w fun e w'=>e= .returned (.bool true)∧Bel w w':=by
 have hmx:=hT.le;unfold vz at hmx;have hrx:=hRu.1;unfold vz at hrx;refine enter Tryd.func4 Tryd.ntmps4 rfl (Nat.le_of_ble_eq_true rfl) ?_;have hB:Bel w w:=Below.refl _ _;refine zn2 ?_;refine xz (v:= .agg #[_,_,_,_,_]) (cs:=#[_,_,_,_,_]) rfl rfl (fun b2 w1 hb2 s1 hr=>?_);have lo2:=nLT (Bel.size hB) hr;refine xz (v:= .agg #[_,_,_]) (cs:=#[_,_,_]) rfl rfl (fun b3 w2 hb3 s2 hr=>?_);have:=nLL hb2.lt hr;replace hB:=hB.tr0 s1;have lo3:=nLT (Bel.size hB) hr;refine zn6 ?_;refine zX fn5_YLa (small_d _) rfl (fun e' w3 hr=>?_);obtain⟨⟨_,rfl,At1,ct1,Bf1,cf1,br,cells,A1,cap1,AS1,cst1,n1,rfl,lor,hbr,hD⟩,s3⟩:=hr;replace s3:=sB s3;refine⟨_,rfl,?_⟩;refine zX fn11 (Dz 0 _) rfl (fun e' w4 hr=>?_);obtain⟨rfl,s4⟩:=hr;replace s4:=sB s4;refine⟨_,rfl,?_⟩;refine zX fn11 (Dz 3 _) rfl (fun e' w5 hr=>?_);obtain⟨rfl,s5⟩:=hr;replace s5:=sB s5;refine⟨_,rfl,?_⟩;refine qZ (cs:=#[_,_,_,_,_,_]) [(0,.agg _),(1,.agg _)] rfl Tryd.underlying54 S7 G3 dE dE kR rfl (fun b33 w6 hb33 s6 hr=>?_);replace hb2:=hb2.tr0 (s2.trans (s3.trans (s4.trans s5)));have:=nLL hb2.lt hr;replace hb3:=hb3.tr0 (s3.trans (s4.trans s5));have:=nLL hb3.lt hr;replace hbr:=hbr.tr0 (s4.trans s5);have:=nLL hbr.lt hr;replace hB:=hB.tr0 (s2.trans (s3.trans (s4.trans s5)));have lo33:=nLT (Bel.size hB) hr;refine wl (Z9 (v0:= .int _ _) (v1:= .slice _ _ _) (fun v0 v1=>#[v0,.int .i64 0,v1]) rfl rfl kR) ?_;replace hD:=hD.tr0 (s4.trans (s5.trans s6));replace hB:=hB.tr0 s6;replace hbr:=hbr.tr0 s6;refine zX fn10 (small_wt (hTab.mono hB) (hU.mono hB) hD.now.1 hD.now.2.1 (hD.now.2.2.1.rules hbr dE) hD.now.2.2.2.1 hD.now.2.2.2.2 hb33) rfl (fun e' w7 hr=>?_);obtain⟨rfl,s7⟩:=hr;replace s7:=sB s7;refine⟨_,rfl,?_⟩;refine wmT rfl (wl (yk (v:= .int _ _) rfl rfl) (wl (yk (v:= .agg _) rfl rfl) ?_));refine qw (cs:=#[.int .i64 0,.int .i64 0]) zY rfl (fun b6 w8 hb6 s8 hr=>?_);replace hb2:=hb2.tr0 (s6.trans s7);have:=nLL hb2.lt hr;replace hb3:=hb3.tr0 (s6.trans s7);have:=nLL hb3.lt hr;replace hB:=hB.tr0 s7;have lo6:=nLT (Bel.size hB) hr;refine waI rfl ?_;refine zk hb6 rfl rfl zz rfl zK (fun w9 hq s9=>?_);replace hb6:=hq;refine zn8 ?_;refine zJ rfl (fun c39=>?_) (fun c39=>?_)
 ·exact absurd rfl c39
 refine zn6 ?_;replace hB:=(hB.tr0 s8).tr1 s9 lo6;refine zX fn12 (Lv AT AF AR AX AS ct cf cr cx cst l fs rs xs st t A c _ (hTab.mono hB) (hU.mono hB) (hTy.mono hB) (hF.mono hB) (hRu.mono hB) (hLx.mono hB) (hG.mono hB) (hT.mono hB)) rfl (fun e' w10 hr=>?_);obtain⟨⟨AX1,X,okX,cX,rfl,hNX,hGX⟩,s10⟩:=hr;replace s10:=sB s10;obtain⟨lzX,hzX,hKX⟩:∃ lz hz,Kept lz hz w10 (fun wq=>NodesIn wq AX1 X):=⟨_,_,jQ hNX⟩
 clear hNX;refine⟨_,rfl,?_⟩;refine wmT rfl (wl (yk (v:=_) rfl rfl) (wl (yk (v:=_) rfl rfl) (wl (yk (v:=_) rfl rfl) ?_)));refine qw (cs:=#[.slice none 0 0]) E1 rfl (fun b7 w11 hb7 s11 hr=>?_);replace hb2:=((hb2.tr0 s8).tr1 s9 om).tr0 s10;have:=nLL hb2.lt hr;replace hb3:=((hb3.tr0 s8).tr1 s9 om).tr0 s10;have:=nLL hb3.lt hr;have or_hKX_b7:=(nLT hKX.1 hr)
 replace hB:=hB.tr0 s10;have lo7:=nLT (Bel.size hB) hr;refine qw (cs:=#[.int .i64 0,.int .i64 0]) zY rfl (fun b9 w12 hb9 s12 hr=>?_);replace hb2:=hb2.tr0 s11;have:=nLL hb2.lt hr;replace hb3:=hb3.tr0 s11;have:=nLL hb3.lt hr;replace hKX:=hKX.tr0 s11;have or_hKX_b9:=(nLT hKX.1 hr)
 have:=nLL hb7.lt hr;replace hB:=hB.tr0 s11;have lo9:=nLT (Bel.size hB) hr;replace hb7:=hb7.tr0 s12;refine zk hb7 rfl rfl Z8 rfl zK (fun w13 hq s13=>?_);replace hb7:=hq;refine waB rfl ?_;replace hb9:=hb9.tr1 s13 om;refine zk hb9 rfl rfl zz rfl zK (fun w14 hq s14=>?_);replace hb9:=hq;refine zn4 ?_;replace hB:=((hB.tr0 s12).tr1 s13 lo7).tr1 s14 lo9;refine yQ [47,48,49,50,51,52,53,54] 54 (.bool (decide (¬(if (qy l fs rs xs st).1=0 then yv rs xs.length t else qy l fs rs xs st).1=0∨t.rule < 0))) nu ?_ (fun gq=>?_)
 ·refine zn5 ?_;refine zV 50 rfl (fun g50=>?_) (fun g50=>?_)
  ·refine zn4 ?_;refine zW (e_R ⟨rfl,agA,?_⟩);show Value.bool _=Value.bool _
   first
    | exact congrArg Value.bool (decide_eq_true (Or.inl g50)).symm
    | exact congrArg Value.bool (decide_eq_decide.2 ⟨fun h=>Or.inr h,fun h=>h.resolve_left g50⟩)
  refine zn7 ?_;refine zW (e_R ⟨rfl,agA,?_⟩);show Value.bool _=Value.bool _
  first
   | exact congrArg Value.bool (decide_eq_true (Or.inl g50)).symm
   | exact congrArg Value.bool (decide_eq_decide.2 ⟨fun h=>Or.inr h,fun h=>h.resolve_left g50⟩)
 refine e_S ?_;refine zJ rfl (fun c54=>?_) (fun c54=>?_)
 ·refine zn8 ?_;exact⟨rfl,hB⟩
 have hd0:(if (qy l fs rs xs st).1=0 then yv rs xs.length t else qy l fs rs xs st).1=0:=Classical.byContradiction (fun h=>c54 (.inl h));have hr0:¬t.rule < 0:=fun h=>c54 (.inr h)
 obtain⟨hg0,ht0⟩:=Oq hd0;have H:=LZ hg0;obtain⟨hok,hnd,_⟩:=K3 ht0;obtain⟨hk1,hk2⟩:=hok.at_;obtain⟨_,_,hwr,hwx,_⟩:=Ly hg0;have hdz:=Xv hd0;obtain⟨q1,_,q2⟩:=KW hk1 hr0;obtain⟨ri,hri⟩:=Int.eq_ofNat_of_zero_le (Int.not_lt.1 hr0);have hril:ri < rs.length:=by omega
 obtain⟨hJ,hk0,hk3⟩:=H.rl ri hril;rw [CW hril hri] at q2;have hgr:=Cy hril hri;replace hb2:=((hb2.tr0 s12).tr1 s13 om).tr1 s14 om;replace hb3:=((hb3.tr0 s12).tr1 s13 om).tr1 s14 om;replace hKX:=((hKX.tr0 s12).tr1 s13 om).tr1 s14 om;replace hb7:=hb7.tr1 s14 om;have hTX:TgR l rs xs t okX X:=by
   rcases hGX with ⟨h,_⟩ | ⟨_,h⟩
   · exact absurd hd0 h
   · exact h
 obtain⟨rb,ro,Gk,cgk,Sk,csk,Bk,mk,hAR,hrb,hrr,_,_,_⟩:=hRu.at_ (Below.refl _ _) hril;subst hAR;have hwt:=Rx (rs:=rs) (xs:=xs) hr0;rw [Cw hril hri] at hwt;obtain⟨a1,a2⟩:=hwr _ (List.getElem_mem hril);obtain⟨hw0,hw1⟩:=BQ hwr hwx (SizeOf.sizeOf t + 1) t (Nat.lt_succ_self _) hok;have hndt:=EK t;refine zn6 ?_;refine zX fn13 (BX AT AF (some ⟨rb,ro,none⟩) AX AS ct cf cr cx cst l fs rs xs st t A c _ (hTab.mono hB) (hU.mono hB) (hTy.mono hB) (hF.mono hB) (hRu.mono hB) (hLx.mono hB) (hG.mono hB) (hT.mono hB) hd0) rfl (fun e' w15 hr=>?_);obtain⟨⟨AW,cW,rfl,hNW⟩,s15⟩:=hr;replace s15:=sB s15;obtain⟨lzW,hzW,hKW⟩:∃ lz hz,Kept lz hz w15 (fun wq=>StrsIn wq AW (wdT xs t)):=⟨_,_,jQ hNW⟩
 clear hNW;refine⟨_,rfl,?_⟩;refine wmT rfl (wl (yk (v:=_) rfl rfl) (wl (yk (v:=_) rfl rfl) ?_));refine qw (cs:=#[.int .i64 0,.int .i64 0]) zY rfl (fun b11 w16 hb11 s16 hr=>?_);replace hb2:=hb2.tr0 s15;have:=nLL hb2.lt hr;replace hb3:=hb3.tr0 s15;have:=nLL hb3.lt hr;replace hKX:=hKX.tr0 s15;have or_hKX_b11:=(nLT hKX.1 hr)
 replace hb7:=hb7.tr0 s15;have:=nLL hb7.lt hr;replace hb9:=hb9.tr0 s15;have:=nLL hb9.lt hr;have or_hKW_b11:=(nLT hKW.1 hr)
 replace hB:=hB.tr0 s15;have lo11:=nLT (Bel.size hB) hr;refine wl (kQ (v:= .slice _ _ _) rfl) ?_;refine zk hb11 rfl rfl zz rfl zK (fun w17 hq s17=>?_);replace hb11:=hq;refine zn6 ?_;replace hB:=(hB.tr0 s16).tr1 s17 lo11;refine zX fn10 (Iw AT AF (some ⟨rb,ro,none⟩) AX AS ct cf cr cx cst l fs rs xs st t A c _ (hTab.mono hB) (hU.mono hB) (hTy.mono hB) (hF.mono hB) (hRu.mono hB) (hLx.mono hB) (hG.mono hB) (hT.mono hB) hd0) rfl (fun e' w18 hr=>?_);obtain⟨rfl,s18⟩:=hr;replace s18:=sB s18;refine⟨_,rfl,?_⟩;refine wmT rfl (wl (yk (v:= .int _ _) rfl rfl) (wl (yk (v:= .agg _) rfl rfl) ?_));refine qw (cs:=#[.int .i64 0,.int .i64 0]) zY rfl (fun b13 w19 hb13 s19 hr=>?_);replace hb2:=((hb2.tr0 s16).tr1 s17 om).tr0 s18;have:=nLL hb2.lt hr;replace hb3:=((hb3.tr0 s16).tr1 s17 om).tr0 s18;have:=nLL hb3.lt hr;replace hKX:=((hKX.tr0 s16).tr1 s17 om).tr0 s18;have or_hKX_b13:=(nLT hKX.1 hr)
 replace hb7:=((hb7.tr0 s16).tr1 s17 om).tr0 s18;have:=nLL hb7.lt hr;replace hb9:=((hb9.tr0 s16).tr1 s17 om).tr0 s18;have:=nLL hb9.lt hr;replace hKW:=((hKW.tr0 s16).tr1 s17 om).tr0 s18;have or_hKW_b13:=(nLT hKW.1 hr)
 replace hb11:=hb11.tr0 s18;have:=nLL hb11.lt hr;replace hB:=hB.tr0 s18;have lo13:=nLT (Bel.size hB) hr;refine waI rfl ?_;refine zk hb13 rfl rfl zz rfl zK (fun w20 hq s20=>?_);replace hb13:=hq;refine Bx ?_;replace hb3:=(hb3.tr0 s19).tr1 s20 om;refine wl (qK (v:= .int .i64 ((ri:Nat):Int)) U3 rfl rfl (by rw [← hri];exact hb3.cell rfl)) (zn2 ?_);replace hB:=(hB.tr0 s19).tr1 s20 lo13;refine wl (qK (v:= .int _ _) U3 rfl rfl (hB.cell hrb (hrr 3 _ rfl))) (zn18 ?_);replace hb2:=(hb2.tr0 s19).tr1 s20 om;replace hKX:=(hKX.tr0 s19).tr1 s20 om;replace hb7:=(hb7.tr0 s19).tr1 s20 om;replace hb9:=(hb9.tr0 s19).tr1 s20 om;replace hKW:=(hKW.tr0 s19).tr1 s20 om;refine qJ [4,14,15,16,17,19,20,21,22,23,24,25,26,77,78,79,80,81,82,83,84,85,86,87,88,89,90,91,92,93,94,95,96,97,98,99,100,101,102,103,104,105,106,107,108,109,110,111,112,113,114,115,116,117,118,119,120,121,122,123,124,125,126,127] (fun m g w'=>∃ (j:Nat) (Ys:List (List Nd)) (KA:Option Addr) (cap:Nat) (vs:List Value) (zs:List ByteArray) (LA:Option Addr) (capL:Nat) (acc:Int) (all:Bool),j≤t.kids.length∧m=t.kids.length - j∧g 77= .int .i64 j∧g 14= .slice KA vs.length cap∧g 15= .slice LA zs.length capL∧g 16= .int .i64 acc∧g 17= .bool all∧vs.length=j∧Iy xs t.kids=zs ++ Iy xs (t.kids.drop j)∧zs.length + Qx (t.kids.drop j)≤400∧0≤acc∧wtT rs xs t=acc + Yy rs xs (t.kids.drop j)∧(all=true→gW l rs xs (t.kids.take j) Ys)∧(all=false→TgB l rs xs (t.kids.take j))∧Bel w w'∧Blk w' b2 32 #[.slice AT l.length ct,.slice AF fs.length cf,.slice (some ⟨rb,ro,none⟩) rs.length cr,.slice AX xs.length cx,.slice AS st.length cst]∧Blk w' b3 56 #[.int .i64 t.rule,.int .i64 t.lex,.slice A t.kids.length c]∧Blk w' b7 30 #[.slice AX1 (List.length X) cX]∧Blk w' b9 36 #[.int .i64 (if (qy l fs rs xs st).1=0 then yv rs xs.length t else qy l fs rs xs st).1,.int .i64 (if (qy l fs rs xs st).1=0 then yv rs xs.length t else qy l fs rs xs st).2]∧Blk w' b13 36 #[.int .i64 0,.int .i64 0]∧Own w' (b13 + 1) 30 1 KA vs.length cap vs∧Own w' (b13 + 1) 9 1 LA zs.length capL (zs.map Value.string)∧Kept lzX hzX w' (fun wq=>NodesIn wq AX1 X)∧Kept lzW hzW w' (fun wq=>StrsIn wq AW (wdT xs t))∧KG (aL KA ++ aL LA) w'.heap.size Ys w' vs) (t.kids.length) ?_ (fun m g14 w21 hI=>?_)
 ·exact⟨0,[],none,0,[],[],none,0,_,true,Nat.zero_le _,rfl,rfl,rfl,rfl,rfl,rfl,rfl,rfl,(by show 0 + Qx t.kids≤400;omega),a1,hwt,(fun _=>by rw [List.take_zero,gW]),(fun h=>nomatch h),hB,hb2,hb3,hb7,hb9,hb13,Own.nil _ _ _ _,Own.nil _ _ _ _,hKX,hKW,KG.nil⟩
 obtain⟨j,Ys,KA,cap,vs,zs,LA,capL,acc,all,hj,hm,h77,h14,h15,h16,h17,hlv,hzw,hzn,hacc,hwa,hal1,hal2,hB,hb2,hb3,hb7,hb9,hb13,ho,hoL,hKX,hKW,hK⟩:=hI;refine zQ 77 _ h77 nu (zQ 14 _ h14 nu (zQ 15 _ h15 nu (zQ 16 _ h16 nu (zQ 17 _ h17 nu (zn6 ?_)))));refine zJ rfl (fun c78=>?_) (fun c78=>?_)
 ·have hjl:j < t.kids.length:=by omega
  obtain⟨sb,so,A',c',rfl,hsb,hsr,hs2⟩:=hT.at_ hjl;obtain⟨N,hK⟩:∃ N,KG (aL KA ++ aL LA) N Ys _ vs:=⟨_,hK⟩
  have hmem:=List.getElem_mem hjl;have hdk:=dvx_kid (l:=l) (fs:=fs) (st:=st) hg0 ht0 hmem;have hnk:=HY hmem;rw [T5 hjl] at hzn;have hzw3:=hzw;rw [List.drop_eq_getElem_cons hjl,Iy,← List.append_assoc] at hzw3;have hwl:=RZ xs (t.kids[j]'hjl);have hzn3:(zs ++ wdT xs (t.kids[j]'hjl)).length + Qx (t.kids.drop (j + 1))≤400:=by rw [List.length_append];omega
  have hd9:=Rq hwr hwx (t.kids.drop (j + 1)) (fun y hy=>hk2 y (List.mem_of_mem_drop hy));have hd8:=JW (rs:=rs) (xs:=xs) hjl;have hd7:=(BQ hwr hwx (SizeOf.sizeOf (t.kids[j]'hjl) + 1) _ (Nat.lt_succ_self _) (hk2 _ hmem)).1;refine zn8 ?_;refine yj (cs:=#[.int .i64 0,.int .i64 0,.slice none 0 0]) G3 rfl (fun _=>rfl) (fun _=>rfl) S7 rfl zK (fun b19 w23 hb19 s21 hr=>?_);have:=nLL hb2.lt hr;have:=nLL hb3.lt hr;have:=nLL hb7.lt hr;have:=nLL hb9.lt hr;have:=nLL hb13.lt hr;have or_ho_b19:=fun g hg=>nLL (ho.lt g hg).2 hr
  have or_hoL_b19:=(fun g hg=>nLL (hoL.lt g hg).2 hr)
  have or_hKX_b19:=(nLT hKX.1 hr)
  have or_hKW_b19:=(nLT hKW.1 hr)
  have or_hK_b19:=(nLT hK.1 hr)
  have lo19:=nLT (Bel.size hB) hr;refine zn6 ?_;replace ho:=ho.tr0 s21;have hzo:=fun g hg=>(ho.lt g hg).2
  replace hoL:=hoL.tr0 s21;have hzoL:=fun g hg=>(hoL.lt g hg).2
  replace hB:=hB.tr0 s21;refine zX fn12 (graph_ok AT AF (some ⟨rb,ro,none⟩) AX AS ct cf cr cx cst l fs rs xs st (t.kids[j]'hjl) A' c' _ (hTab.mono hB) (hU.mono hB) (hTy.mono hB) (hF.mono hB) (hRu.mono hB) (hLx.mono hB) (hG.mono hB) (hs2.mono hB) hdk) rfl (fun e' w24 hr=>?_);obtain⟨⟨AY,Y,okY,cY,rfl,hNY,hGY⟩,s22⟩:=hr;replace s22:=sB s22;have hKY:=jQ hNY;refine⟨_,rfl,?_⟩;refine wmT rfl (wl (yk (v:=_) rfl rfl) (wl (yk (v:=_) rfl rfl) (wl (yk (v:=_) rfl rfl) ?_)));refine qw (cs:=#[.slice none 0 0]) E1 rfl (fun b20 w25 hb20 s23 hr=>?_);replace hb2:=hb2.tr0 (s21.trans s22);have:=nLL hb2.lt hr;replace hb3:=hb3.tr0 (s21.trans s22);have:=nLL hb3.lt hr;replace hb7:=hb7.tr0 (s21.trans s22);have:=nLL hb7.lt hr;replace hb9:=hb9.tr0 (s21.trans s22);have:=nLL hb9.lt hr;replace hb13:=hb13.tr0 (s21.trans s22);have:=nLL hb13.lt hr;replace ho:=ho.tr0 s22;have or_ho_b20:=fun g hg=>nLL (ho.lt g hg).2 hr
  replace hoL:=hoL.tr0 s22;have or_hoL_b20:=(fun g hg=>nLL (hoL.lt g hg).2 hr)
  replace hKX:=hKX.tr0 (s21.trans s22);have or_hKX_b20:=(nLT hKX.1 hr)
  replace hKW:=hKW.tr0 (s21.trans s22);have or_hKW_b20:=(nLT hKW.1 hr)
  replace hK:=hK.tr0 (s21.trans s22);have or_hK_b20:=(nLT hK.1 hr)
  replace hb19:=hb19.tr0 s22;have:=nLL hb19.lt hr;have or_hKY_b20:=(nLT hKY.1 hr)
  replace hB:=hB.tr0 s22;have lo20:=nLT (Bel.size hB) hr;refine qw (cs:=#[.int .i64 0,.int .i64 0]) zY rfl (fun b22 w26 hb22 s24 hr=>?_);replace hb2:=hb2.tr0 s23;have:=nLL hb2.lt hr;replace hb3:=hb3.tr0 s23;have:=nLL hb3.lt hr;replace hb7:=hb7.tr0 s23;have:=nLL hb7.lt hr;replace hb9:=hb9.tr0 s23;have:=nLL hb9.lt hr;replace hb13:=hb13.tr0 s23;have:=nLL hb13.lt hr;replace ho:=ho.tr0 s23;have or_ho_b22:=fun g hg=>nLL (ho.lt g hg).2 hr
  replace hoL:=hoL.tr0 s23;have or_hoL_b22:=(fun g hg=>nLL (hoL.lt g hg).2 hr)
  replace hKX:=hKX.tr0 s23;have or_hKX_b22:=(nLT hKX.1 hr)
  replace hKW:=hKW.tr0 s23;have or_hKW_b22:=(nLT hKW.1 hr)
  replace hK:=hK.tr0 s23;have or_hK_b22:=(nLT hK.1 hr)
  replace hb19:=hb19.tr0 s23;have:=nLL hb19.lt hr;replace hKY:=hKY.tr0 s23;have or_hKY_b22:=(nLT hKY.1 hr)
  have:=nLL hb20.lt hr;replace hB:=hB.tr0 s23;have lo22:=nLT (Bel.size hB) hr;replace hb20:=hb20.tr0 s24;refine zk hb20 rfl rfl Z8 rfl zK (fun w27 hq s25=>?_);replace ho:=ho.tr0 s24;replace ho:=ho.tr1 s25 (fun g hg=>by have:=(ho.lt g hg).1;(try have:=or_ho_b20 g hg);(try simp only [aL] at hg);(try simp only [List.mem_singleton] at hg);omega);replace hoL:=hoL.tr0 s24;replace hoL:=hoL.tr1 s25 (fun g hg=>by have:=(hoL.lt g hg).1;(try have:=or_hoL_b20 g hg);omega);replace hK:=hK.tr0 s24;replace hK:=hK.tr1 s25 or_hK_b20;replace hb20:=hq;refine waB rfl ?_;replace hb22:=hb22.tr1 s25 om;refine zk hb22 rfl rfl zz rfl zK (fun w28 hq s26=>?_);replace ho:=ho.tr1 s26 (fun g hg=>by have:=(ho.lt g hg).1;(try have:=or_ho_b22 g hg);(try simp only [aL] at hg);(try simp only [List.mem_singleton] at hg);omega);replace hoL:=hoL.tr1 s26 (fun g hg=>by have:=(hoL.lt g hg).1;(try have:=or_hoL_b22 g hg);omega);replace hK:=hK.tr1 s26 or_hK_b22;replace hb22:=hq;refine zn6 ?_;have hzo2:=fun g hg=>(ho.lt g hg).2
  replace hB:=((hB.tr0 s24).tr1 s25 lo20).tr1 s26 lo22;refine zX fn13 (BX AT AF (some ⟨rb,ro,none⟩) AX AS ct cf cr cx cst l fs rs xs st (t.kids[j]'hjl) A' c' _ (hTab.mono hB) (hU.mono hB) (hTy.mono hB) (hF.mono hB) (hRu.mono hB) (hLx.mono hB) (hG.mono hB) (hs2.mono hB) hdk) rfl (fun e' w29 hr=>?_);obtain⟨⟨AK,cK,rfl,hNS⟩,s27⟩:=hr;replace s27:=sB s27;have hKS:=jQ hNS;refine⟨_,rfl,?_⟩;refine wmT rfl (wl (yk (v:=_) rfl rfl) (wl (yk (v:=_) rfl rfl) ?_));refine qw (cs:=#[.int .i64 0,.int .i64 0]) zY rfl (fun b24 w30 hb24 s28 hr=>?_);replace hb2:=(((hb2.tr0 s24).tr1 s25 om).tr1 s26 om).tr0 s27;have:=nLL hb2.lt hr;replace hb3:=(((hb3.tr0 s24).tr1 s25 om).tr1 s26 om).tr0 s27;have:=nLL hb3.lt hr;replace hb7:=(((hb7.tr0 s24).tr1 s25 om).tr1 s26 om).tr0 s27;have:=nLL hb7.lt hr;replace hb9:=(((hb9.tr0 s24).tr1 s25 om).tr1 s26 om).tr0 s27;have:=nLL hb9.lt hr;replace hb13:=(((hb13.tr0 s24).tr1 s25 om).tr1 s26 om).tr0 s27;have:=nLL hb13.lt hr;replace ho:=ho.tr0 s27;have or_ho_b24:=fun g hg=>nLL (ho.lt g hg).2 hr
  replace hoL:=hoL.tr0 s27;have or_hoL_b24:=(fun g hg=>nLL (hoL.lt g hg).2 hr)
  replace hKX:=(((hKX.tr0 s24).tr1 s25 om).tr1 s26 om).tr0 s27;have or_hKX_b24:=(nLT hKX.1 hr)
  replace hKW:=(((hKW.tr0 s24).tr1 s25 om).tr1 s26 om).tr0 s27;have or_hKW_b24:=(nLT hKW.1 hr)
  replace hK:=hK.tr0 s27;have or_hK_b24:=(nLT hK.1 hr)
  replace hb19:=(((hb19.tr0 s24).tr1 s25 om).tr1 s26 om).tr0 s27;have:=nLL hb19.lt hr;replace hKY:=(((hKY.tr0 s24).tr1 s25 om).tr1 s26 om).tr0 s27;have or_hKY_b24:=(nLT hKY.1 hr)
  replace hb20:=(hb20.tr1 s26 om).tr0 s27;have:=nLL hb20.lt hr;replace hb22:=hb22.tr0 s27;have:=nLL hb22.lt hr;have or_hKS_b24:=(nLT hKS.1 hr)
  replace hB:=hB.tr0 s27;have lo24:=nLT (Bel.size hB) hr;refine wl (kQ (v:= .slice _ _ _) rfl) ?_;refine zk hb24 rfl rfl zz rfl zK (fun w31 hq s29=>?_);replace ho:=ho.tr0 s28;replace ho:=ho.tr1 s29 (fun g hg=>by have:=(ho.lt g hg).1;(try have:=or_ho_b24 g hg);(try simp only [aL] at hg);(try simp only [List.mem_singleton] at hg);omega);replace hoL:=hoL.tr0 s28;replace hoL:=hoL.tr1 s29 (fun g hg=>by have:=(hoL.lt g hg).1;(try have:=or_hoL_b24 g hg);omega);replace hK:=hK.tr0 s28;replace hK:=hK.tr1 s29 or_hK_b24;replace hb24:=hq;refine zn6 ?_;replace hB:=(hB.tr0 s28).tr1 s29 lo24;refine zX fn10 (Iw AT AF (some ⟨rb,ro,none⟩) AX AS ct cf cr cx cst l fs rs xs st (t.kids[j]'hjl) A' c' _ (hTab.mono hB) (hU.mono hB) (hTy.mono hB) (hF.mono hB) (hRu.mono hB) (hLx.mono hB) (hG.mono hB) (hs2.mono hB) hdk) rfl (fun e' w32 hr=>?_);obtain⟨rfl,s30⟩:=hr;replace s30:=sB s30;refine⟨_,rfl,?_⟩;refine wmT rfl (wl (yk (v:= .int _ _) rfl rfl) (wl (yk (v:= .agg _) rfl rfl) ?_));refine qw (cs:=#[.int .i64 0,.int .i64 0]) zY rfl (fun b26 w33 hb26 s31 hr=>?_);replace hb2:=((hb2.tr0 s28).tr1 s29 om).tr0 s30;have:=nLL hb2.lt hr;replace hb3:=((hb3.tr0 s28).tr1 s29 om).tr0 s30;have:=nLL hb3.lt hr;replace hb7:=((hb7.tr0 s28).tr1 s29 om).tr0 s30;have:=nLL hb7.lt hr;replace hb9:=((hb9.tr0 s28).tr1 s29 om).tr0 s30;have:=nLL hb9.lt hr;replace hb13:=((hb13.tr0 s28).tr1 s29 om).tr0 s30;have:=nLL hb13.lt hr;replace ho:=ho.tr0 s30;have or_ho_b26:=fun g hg=>nLL (ho.lt g hg).2 hr
  replace hoL:=hoL.tr0 s30;have or_hoL_b26:=(fun g hg=>nLL (hoL.lt g hg).2 hr)
  replace hKX:=((hKX.tr0 s28).tr1 s29 om).tr0 s30;have or_hKX_b26:=(nLT hKX.1 hr)
  replace hKW:=((hKW.tr0 s28).tr1 s29 om).tr0 s30;have or_hKW_b26:=(nLT hKW.1 hr)
  replace hK:=hK.tr0 s30;have or_hK_b26:=(nLT hK.1 hr)
  replace hb19:=((hb19.tr0 s28).tr1 s29 om).tr0 s30;have:=nLL hb19.lt hr;replace hKY:=((hKY.tr0 s28).tr1 s29 om).tr0 s30;have or_hKY_b26:=(nLT hKY.1 hr)
  replace hb20:=((hb20.tr0 s28).tr1 s29 om).tr0 s30;have:=nLL hb20.lt hr;replace hb22:=((hb22.tr0 s28).tr1 s29 om).tr0 s30;have:=nLL hb22.lt hr;replace hKS:=((hKS.tr0 s28).tr1 s29 om).tr0 s30;have or_hKS_b26:=(nLT hKS.1 hr)
  replace hb24:=hb24.tr0 s30;have:=nLL hb24.lt hr;replace hB:=hB.tr0 s30;have lo26:=nLT (Bel.size hB) hr;refine waI rfl ?_;refine zk hb26 rfl rfl zz rfl zK (fun w34 hq s32=>?_);replace ho:=ho.tr0 s31;replace ho:=ho.tr1 s32 (fun g hg=>by have:=(ho.lt g hg).1;(try have:=or_ho_b26 g hg);(try simp only [aL] at hg);(try simp only [List.mem_singleton] at hg);omega);replace hoL:=hoL.tr0 s31;replace hoL:=hoL.tr1 s32 (fun g hg=>by have:=(hoL.lt g hg).1;(try have:=or_hoL_b26 g hg);omega);replace hK:=hK.tr0 s31;replace hK:=hK.tr1 s32 or_hK_b26;replace hb26:=hq;refine zn4 ?_;refine yQ [100,101,102,103,104,105,106,107,108,109,110,111,112] 112 (.bool (decide (False))) nu ?_ (fun gq=>?_)
  ·refine zn5 ?_;refine zV 103 rfl (fun g103=>?_) (fun g103=>?_)
   ·refine zn9 ?_;refine zW (e_R ⟨rfl,agA,?_⟩);show Value.bool _=Value.bool _
    first | exact absurd rfl g103 | exact absurd rfl g108 | exact congrArg Value.bool dE
   refine zn8 ?_;refine zV 108 rfl (fun g108=>?_) (fun g108=>?_)
   ·refine zn4 ?_;refine zW (e_R ⟨rfl,agA,?_⟩);show Value.bool _=Value.bool _
    first | exact absurd rfl g103 | exact absurd rfl g108 | exact congrArg Value.bool dE
   refine zn7 ?_;refine zW (e_R ⟨rfl,agA,?_⟩);show Value.bool _=Value.bool _
   first | exact absurd rfl g103 | exact absurd rfl g108 | exact congrArg Value.bool dE
  refine e_S ?_;refine zJ rfl (fun c112=>?_) (fun c112=>?_)
  ·exact c112.elim
  refine zn3 ?_;refine yQ [17,113,114,115,116] 17 (.bool (decide (all=true∧okY=true))) nu ?_ (fun gq=>?_)
  ·refine zn3 ?_;refine YZ 114 rfl (fun g114=>?_) (fun g114=>?_)
   ·refine zn4 ?_;refine zW (e_R ⟨rfl,agA,?_⟩);show Value.bool _=Value.bool _;exact congrArg Value.bool (by cases okY <;> simp [g114])
   refine zn3 ?_;refine zW (e_R ⟨rfl,agA,?_⟩);show Value.bool _=Value.bool _;exact congrArg Value.bool (by cases okY <;> simp [g114])
  refine zn5 ?_;refine qZ (cs:=#[_]) [(0,.agg _)] rfl U33 Z8 E1 dE dE kR rfl (fun b119 w35 hb119 s33 hr=>?_);replace hb2:=(hb2.tr0 s31).tr1 s32 om;have:=nLL hb2.lt hr;replace hb3:=(hb3.tr0 s31).tr1 s32 om;have:=nLL hb3.lt hr;replace hb7:=(hb7.tr0 s31).tr1 s32 om;have:=nLL hb7.lt hr;replace hb9:=(hb9.tr0 s31).tr1 s32 om;have:=nLL hb9.lt hr;replace hb13:=(hb13.tr0 s31).tr1 s32 om;have:=nLL hb13.lt hr;have or_ho_b119:=fun g hg=>nLL (ho.lt g hg).2 hr
  have or_hoL_b119:=(fun g hg=>nLL (hoL.lt g hg).2 hr)
  replace hKX:=(hKX.tr0 s31).tr1 s32 om;have or_hKX_b119:=(nLT hKX.1 hr)
  replace hKW:=(hKW.tr0 s31).tr1 s32 om;have or_hKW_b119:=(nLT hKW.1 hr)
  have or_hK_b119:=(nLT hK.1 hr)
  replace hKY:=(hKY.tr0 s31).tr1 s32 om;have or_hKY_b119:=(nLT hKY.1 hr)
  replace hb20:=(hb20.tr0 s31).tr1 s32 om;have:=nLL hb20.lt hr;replace hKS:=(hKS.tr0 s31).tr1 s32 om;have or_hKS_b119:=(nLT hKS.1 hr)
  replace hB:=(hB.tr0 s31).tr1 s32 lo26;have lo119:=nLT (Bel.size hB) hr;replace hK:=hK.tr0 s33;have hN14:=hK.1;replace hKY:=hKY.tr0 s33;have hX14:=hKY.1;replace hoL:=hoL.tr0 s33;have hzL:=fun g hg=>(hoL.lt g hg).2
  replace hb13:=hb13.tr0 s33;replace ho:=ho.tr0 s33;refine j9 U33 TZ rfl dE ho hb119 rfl rfl rfl zK dE om om hb13.lt (fun g120 cap120 w36 ho120 s34 hg=>?_);replace hb2:=hb2.tr0 s33;replace hb3:=hb3.tr0 s33;replace hb7:=hb7.tr0 s33;replace hb9:=hb9.tr0 s33;have ne_ho120_b2:g120≠b2:=fun e=>by
   have hl:=hb2.lt;rcases hg with hg | hg
   · have h1:=ho.lt g120 (by rw [hg];exact List.mem_singleton.2 rfl)
     (try have:=or_ho_b2 g120 (by rw [hg];exact List.mem_singleton.2 rfl));omega
   · omega
  have ne_ho120_b3:g120≠b3:=fun e=>by
   have hl:=hb3.lt;rcases hg with hg | hg
   · have h1:=ho.lt g120 (by rw [hg];exact List.mem_singleton.2 rfl)
     (try have:=or_ho_b3 g120 (by rw [hg];exact List.mem_singleton.2 rfl));omega
   · omega
  have ne_ho120_b7:g120≠b7:=fun e=>by
   have hl:=hb7.lt;rcases hg with hg | hg
   · have h1:=ho.lt g120 (by rw [hg];exact List.mem_singleton.2 rfl)
     (try have:=or_ho_b7 g120 (by rw [hg];exact List.mem_singleton.2 rfl));omega
   · omega
  have ne_ho120_b9:g120≠b9:=fun e=>by
   have hl:=hb9.lt;rcases hg with hg | hg
   · have h1:=ho.lt g120 (by rw [hg];exact List.mem_singleton.2 rfl)
     (try have:=or_ho_b9 g120 (by rw [hg];exact List.mem_singleton.2 rfl));omega
   · omega
  have ne_ho120_b13:g120≠b13:=fun e=>by
   have hl:=hb13.lt;rcases hg with hg | hg
   · have h1:=ho.lt g120 (by rw [hg];exact List.mem_singleton.2 rfl)
     (try have:=or_ho_b13 g120 (by rw [hg];exact List.mem_singleton.2 rfl));omega
   · omega
  have ne_ho120_b20:g120≠b20:=fun e=>by
   replace hb20:=hb20.tr0 s33;have hl:=hb20.lt;rcases hg with hg | hg
   · have h1:=ho.lt g120 (by rw [hg];exact List.mem_singleton.2 rfl)
     (try have:=or_ho_b20 g120 (by rw [hg];exact List.mem_singleton.2 rfl));omega
   · omega
  replace hB:=hB.tr0 s33;replace hB:=hB.tr s34 (fun g hg=>nLT (Nat.le_succ_of_le lo13) (ho.lt g hg).1);replace hb2:=hb2.tr s34 (fun hx=>by have:=(ho.lt _ hx).1;(try have:=or_ho_b2 _ hx);omega);replace hb3:=hb3.tr s34 (fun hx=>by have:=(ho.lt _ hx).1;(try have:=or_ho_b3 _ hx);omega);replace hb7:=hb7.tr s34 (fun hx=>by have:=(ho.lt _ hx).1;(try have:=or_ho_b7 _ hx);omega);replace hb9:=hb9.tr s34 (fun hx=>by have:=(ho.lt _ hx).1;(try have:=or_ho_b9 _ hx);omega);replace hb13:=hb13.tr s34 (fun hx=>by have:=(ho.lt _ hx).1;(try have:=or_ho_b13 _ hx);omega);replace hoL:=hoL.tr s34 (x9 hoL ho dE);replace hKX:=hKX.tr0 s33;replace hKX:=hKX.tr s34 (fun g hg=> .inr (by have:=(ho.lt g hg).1;omega));replace hKW:=hKW.tr0 s33;replace hKW:=hKW.tr s34 (fun g hg=> .inr (by have:=(ho.lt g hg).1;omega));replace hK:=hK.tr s34 (fun g hg=> .inl (List.mem_append_left _ hg));replace hKY:=hKY.tr s34 (fun g hg=> .inl (hzo g hg));replace hKS:=hKS.tr0 s33;replace hKS:=hKS.tr s34 (fun g hg=> .inl (hzo2 g hg))
  replace hK:=KG.snoc (S':=[g120] ++ aL LA) (c:=cY) hK (fun x hx=>by
    rcases List.mem_append.1 hx with h | h
    · cases List.mem_singleton.1 h;exact hg.imp (fun e=>List.mem_append_left _ (by rw [e];exact List.mem_singleton.2 rfl)) (nLT hN14)
    · exact .inl (List.mem_append_right _ h)) hKY (fun x hx=>by
    rcases List.mem_append.1 hx with h | h
    · cases List.mem_singleton.1 h;exact hg.elim (fun e=> .inl (hzo g120 (by rw [e];exact List.mem_singleton.2 rfl))) (fun h=> .inr (nLT hX14 h))
    · exact .inl (hzoL x h))
  refine zn7 ?_;have hkS:=hKS.now;have hsizeL:b13 + 1≤w36.heap.size:=hb13.lt;refine WK (e:=9) (news:=(wdT xs (t.kids[j]'hjl)).map Value.string) U61 in9 rfl dE hoL rfl rfl (fun hm=>GW hkS hm) (by rw [List.length_map,Nat.mul_one]) (sv_one _) om om hsizeL (fun AN capN wN hoN hsN hgN=>?_);have hsN1:Same (aL LA) w36 wN:=hsN;replace hB:=hB.tr hsN (fun g hg=>nLT (Nat.le_succ_of_le lo13) (hoL.lt g hg).1);replace hb2:=hb2.tr hsN (fun hx=>by have:=(hoL.lt _ hx).1;omega);replace hb3:=hb3.tr hsN (fun hx=>by have:=(hoL.lt _ hx).1;omega);replace hb7:=hb7.tr hsN (fun hx=>by have:=(hoL.lt _ hx).1;omega);replace hb9:=hb9.tr hsN (fun hx=>by have:=(hoL.lt _ hx).1;omega);replace hb13:=hb13.tr hsN (fun hx=>by have:=(hoL.lt _ hx).1;omega);replace hKX:=hKX.tr hsN (fun g hg=> .inr (by have:=(hoL.lt g hg).1;omega));replace hKW:=hKW.tr hsN (fun g hg=> .inr (by have:=(hoL.lt g hg).1;omega));have hKn:=hK.1;replace hK:=hK.tr hsN (fun g hg=> .inl (List.mem_append_right _ hg));have ho120b:=ho120.tr hsN (x9 ho120 hoL dE);have hoL2:Own wN (b13 + 1) 9 1 AN (zs ++ wdT xs (t.kids[j]'hjl)).length capN ((zs ++ wdT xs (t.kids[j]'hjl)).map Value.string):=by rw [List.length_append,List.map_append];exact hoN
  have hK2:=KG.sub (S':=[g120] ++ aL AN) hK (fun g hg=>by
    rcases List.mem_append.1 hg with h | h
    · exact .inl (List.mem_append_left _ h)
    · exact(hgN g h).imp (fun e=>List.mem_append_right _ e) (nLT hKn))
  have hKsz:KG ([g120] ++ aL AN) wN.heap.size (Ys ++ [Y]) wN (vs ++ [Value.slice AY (List.length Y) cY]):=⟨Nat.le_refl _,hK2.2.1,fun i v hv=>by
    obtain⟨A5,c5,l5,h5,e5,k5,n5,g5⟩:=hK2.2.2 i v hv
    exact⟨A5,c5,l5,h5,e5,k5,k5.1,g5⟩⟩
  refine zn3 ?_;have hq1:decide (all=true∧okY=true)=true→gW l rs xs (t.kids.take (j + 1)) (Ys ++ [Y]):=fun h=>by
    obtain⟨e1,e2⟩:=of_decide_eq_true h;subst e2;rw [oZ _ hjl];exact E6 (hal1 e1) hGY
  have hq2:decide (all=true∧okY=true)=false→TgB l rs xs (t.kids.take (j + 1)):=fun h=>by
    rw [oZ _ hjl];have h:=of_decide_eq_false h;cases e:all with
    | false=>
      obtain⟨y,hy,hb⟩:=tgB_iff.1 (hal2 e);exact tgB_iff.2 ⟨y,List.mem_append_left _ hy,hb⟩
    | true=>
      have e2:okY=false:=by
        cases e2:okY with
        | false=>rfl
        | true=>exact absurd ⟨e,e2⟩ h
      subst e2;obtain rfl:=tg_no hGY;exact tgB_iff.2 ⟨_,List.mem_append_right _ (List.mem_singleton.2 rfl),hGY⟩
  refine vQ ?_;refine yq (t.kids.length - (j + 1)) om agA ?_;exact⟨j + 1,Ys ++ [Y],some ⟨g120,0,none⟩,cap120,vs ++ [Value.slice AY (List.length Y) cY],zs ++ wdT xs (t.kids[j]'hjl),AN,capN,_,_,by omega,rfl,rfl,(by rw [List.length_append];rfl),(by rw [List.length_append];rfl),rfl,rfl,(by rw [List.length_append,hlv];rfl),hzw3,hzn3,by omega,by rw [hwa,JW hjl];omega,hq1,hq2,hB,hb2,hb3,hb7,hb9,hb13,(by rw [List.length_append];exact ho120b),hoL2,hKX,hKW,hKsz⟩
 have hje:j=t.kids.length:=by omega
 rw [hje,List.drop_length,Iy,List.append_nil] at hzw;rw [hje,List.drop_length,Yy] at hwa;rw [hje,List.take_length] at hal1 hal2;have hzt:wdT xs t=zs:=by rw [wdT_eq,if_neg hr0,List.nil_append];exact hzw
 have hwe:wtT rs xs t=acc:=by omega
 refine jy ?_;refine zX fn14 (seq_any AW LA cW capL (wdT xs t) zs _ hKW.now (own_strs hoL)) rfl (fun e' w37 hr=>?_);obtain⟨rfl,s35⟩:=hr;replace s35:=sB s35;refine⟨_,rfl,?_⟩;refine zn2 ?_;refine YZ 132 rfl (fun g132=>?_) (fun g132=>?_)
 ·refine Ow ?_;exact absurd hzt (by simpa using g132)
 refine zn9 ?_;refine zJ rfl (fun c136=>?_) (fun c136=>?_)
 ·first | exact absurd hzt g132 | exact absurd hwe c136 | exact absurd hwe (by simpa using c136)
 refine zn9 ?_;replace hB:=hB.tr0 s35;refine kv rfl (fun c138=>?_) (fun c138=>?_)
 ·obtain rfl:all=false:=by simpa using c138
  have hokf:=tg_bad H hok hr0 (hal2 rfl) hTX;refine jy ?_;exact⟨by rw [hokf];rfl,hB⟩
 obtain rfl:all=true:=by simpa using c138
 have hTs:=hal1 rfl;have hJX:=tg_join H hok hr0 hTs hTX;rw [hgr] at hJX;have hYl:=K1 hTs;have hcz:=comb_z hg0 hril (by rw [hYl];exact q2) (tgs_gf H hk2 hTs);refine zn6 ?_;replace hb3:=hb3.tr0 s35;refine wl (qK (v:= .int .i64 ((ri:Nat):Int)) U3 rfl rfl (by rw [← hri];exact hb3.cell rfl)) ?_;replace hK:=hK.tr0 s35;refine wl (x5 (v:= .slice KA Ys.length cap) (congrArg (fun n=>Value.slice KA n cap) hK.2.1)) ?_;replace hb7:=hb7.tr0 s35;have z7:=hb7.lt;replace hb9:=hb9.tr0 s35;have z9:=hb9.lt;replace ho:=ho.tr0 s35;have hGs:=hK.grs ho om;refine zX fn6_YLa (combine_d AT AF (some ⟨rb,ro,none⟩) AX AS ct cf cr cx cst l fs rs xs st (ri:Int) (kc:=cap) (KA:=KA) (ks:=Ys) _ (hTab.mono hB) (hU.mono hB) (hTy.mono hB) (hF.mono hB) (hRu.mono hB) (hLx.mono hB) (hG.mono hB) hGs) rfl (fun e' w38 hr=>?_);obtain⟨⟨AZ,Z,okZ,cZ,rfl,hNZ,hCZ⟩,s36⟩:=hr;replace s36:=sB s36;have hJZ:=comb_ok hCZ hcz;rw [grR_at hril] at hJZ;obtain⟨rfl,rfl⟩:=O5 Ys _ 0 _ _ _ _ hJ (tgs_gv H hk2 hTs) (by rw [hYl];omega) hJX hJZ;have hKZ:=jQ hNZ;refine⟨_,rfl,?_⟩;refine wmT rfl (wl (yk (v:=_) rfl rfl) (wl (yk (v:=_) rfl rfl) (wl (yk (v:=_) rfl rfl) ?_)));refine yj (cs:=#[.slice none 0 0]) E1 rfl (fun _=>rfl) (fun _=>rfl) Z8 rfl zK (fun b27 w40 hb27 s37 hr=>?_);replace hb2:=hb2.tr0 (s35.trans s36);have:=nLL hb2.lt hr;replace hb3:=hb3.tr0 s36;have:=nLL hb3.lt hr;replace hb7:=hb7.tr0 s36;have:=nLL hb7.lt hr;replace hb9:=hb9.tr0 s36;have:=nLL hb9.lt hr;replace hb13:=hb13.tr0 (s35.trans s36);have:=nLL hb13.lt hr;replace hKX:=hKX.tr0 (s35.trans s36);have or_hKX_b27:=(nLT hKX.1 hr)
 have or_hKZ_b27:=(nLT hKZ.1 hr)
 replace hB:=hB.tr0 s36;have lo27:=nLT (Bel.size hB) hr;refine waB rfl ?_;replace hb9:=hb9.tr0 s37;refine zk hb9 rfl rfl zz rfl zK (fun w41 hq s38=>?_);replace hb9:=hq;refine zn5 ?_;refine wl (qK (v:= .int .i64 0) U3 rfl rfl (by have h:=hb9.cell (o:=0) rfl;rw [hcz] at h;exact h)) (zn2 ?_);replace hB:=(hB.tr0 s37).tr1 s38 lo9;refine zV 153 rfl (fun g153=>?_) (fun g153=>?_)
 ·refine zn5 ?_;refine wl (r_eqlB U4 rfl rfl) (zn2 ?_);refine YZ 158 rfl (fun g158=>?_) (fun g158=>?_)
  ·refine zn5 ?_;replace hKX:=(hKX.tr0 s37).tr1 s38 om;replace hKZ:=(hKZ.tr0 s37).tr1 s38 om;refine zX fn15 (nodes_any AX1 AZ cX cZ X X _ hKX.now hKZ.now) rfl (fun e' w42 hr=>?_);obtain⟨rfl,s39⟩:=hr;replace s39:=sB s39;refine⟨_,rfl,?_⟩;refine zn6 ?_;replace hB:=hB.tr0 s39
   first | exact absurd rfl g153 | (exfalso;revert g158;simp;done) | exact⟨congrArg (fun b=>Ending.returned (Value.bool b)) (decide_eq_true rfl),hB⟩
  refine zn9 ?_
  first | exact absurd rfl g153 | (exfalso;revert g158;simp;done) | exact⟨congrArg (fun b=>Ending.returned (Value.bool b)) (decide_eq_true rfl),hB⟩
 refine Yq ?_
 first | exact absurd rfl g153 | (exfalso;revert g158;simp;done) | exact⟨congrArg (fun b=>Ending.returned (Value.bool b)) (decide_eq_true rfl),hB⟩
end Go.Proofs.YtdgnllfbooklcaaDoor
namespace Go.Proofs.YtdgnllfbooklcaaDoor
open Go.RowKit Go.ChangeShapes Go.WideShapes Go.Deep Go.Joins
section
variable {H:Type} {enc:TypeId×Value→H} {P:Program} {w:World} {base:Nat} {spare:Nat→Bool} {held:Bool}
theorem W4 {t e ti:TypeId} {f0 f1:Field} {fuel:Nat} {v:Value} {x:DataW H×List MemPlace} (ht:P.underlying t=some (.slice e)) (he:P.underlying e=some (.struct #[f0,f1])) (hsz:P.cellsOf e=2) (o0:f0.offset=0) (o1:f1.offset=1) (e0:f0.type=ti) (e1:f1.type=ti)
    (hi:P.underlying ti=some (.int .i64)) (hc1:P.cellsOf ti=1) (h:DataW.trod enc P w base spare held fuel t [v]=some x):
    ∃ A xs c,v= .slice A (List.length xs) c∧xs.length≤c∧LinksIn w A xs:=by
  obtain⟨A,len,c,rfl,hl,hm,hx⟩:=KZ ht hsz dE h;by_cases h0:len=0
  · subst h0
    exact⟨A,[],c,rfl,Nat.zero_le _,Nat.zero_le _,fun h=>absurd rfl h⟩
  · obtain⟨b,o,rfl,hlt,hc⟩:=hx h0
    obtain⟨xs,hxl,hxs⟩:=vW (p:=fun i (z:Int×Int)=>w.rangeAt b (o + i * 2) [.int .i64 z.1,.int .i64 z.2]) (n:=len) (fun i hi'=>by
      obtain⟨cs,k,y,h1,h2,h3⟩:=hc i hi';obtain⟨v0,v1,n,y0,y1,rfl,g0,g1⟩:=IX he h1 o0 o1 (by rw [e0];exact hc1) (by rw [e1];exact hc1) h3;rw [e0] at g0;rw [e1] at g1;obtain⟨z1,h5,_,_⟩:=DataW.trod_int hi g0;obtain⟨z2,h6,_,_⟩:=DataW.trod_int hi g1;rw [vZ h5,vZ h6] at h2
      exact⟨(z1,z2),h2⟩)
    subst hxl;exact⟨_,xs,c,rfl,hl,nLT hl hm,fun _=>⟨b,o,rfl,hlt,hxs⟩⟩
theorem FX {t e ti tl te:TypeId} {f0 f1 g0 g1:Field} {fuel:Nat} {v:Value} {x:DataW H×List MemPlace} (ht:P.underlying t=some (.slice e)) (he:P.underlying e=some (.struct #[f0,f1])) (hsz:P.cellsOf e=2) (o0:f0.offset=0) (o1:f1.offset=1) (e0:f0.type=ti) (e1:f1.type=tl)
    (htl:P.underlying tl=some (.slice te)) (hte:P.underlying te=some (.struct #[g0,g1])) (hst:P.cellsOf te=2) (p0:g0.offset=0) (p1:g1.offset=1) (d0:g0.type=ti) (d1:g1.type=ti) (hcl:P.cellsOf tl=1)
    (hi:P.underlying ti=some (.int .i64)) (hc1:P.cellsOf ti=1) (h:DataW.trod enc P w base spare held fuel t [v]=some x):
    ∃ A gr c,v= .slice A (List.length gr) c∧gr.length≤c∧NodesIn w A gr:=by
  obtain⟨A,len,c,rfl,hl,hm,hx⟩:=KZ ht hsz dE h;by_cases h0:len=0
  · subst h0
    exact⟨A,[],c,rfl,Nat.zero_le _,Nat.zero_le _,fun h=>absurd rfl h⟩
  · obtain⟨b,o,rfl,hlt,hc⟩:=hx h0
    obtain⟨gr,hxl,hxs⟩:=vW (p:=fun i (z:Nd)=>NdIn w b (o + i * 2) z) (n:=len) (fun i hi'=>by
      obtain⟨cs,k,y,h1,h2,h3⟩:=hc i hi';obtain⟨v0,v1,n,y0,y1,rfl,q0,q1⟩:=IX he h1 o0 o1 (by rw [e0];exact hc1) (by rw [e1];exact hcl) h3;rw [e0] at q0;rw [e1] at q1;obtain⟨z1,h5,_,_⟩:=DataW.trod_int hi q0;obtain⟨A',xs,c',rfl,_,hin⟩:=W4 htl hte hst p0 p1 d0 d1 hi hc1 q1;rw [vZ h5] at h2
      exact⟨⟨z1,xs⟩,A',c',h2,hin⟩)
    subst hxl;exact⟨_,gr,c,rfl,hl,nLT hl hm,fun _=>⟨b,o,rfl,hlt,hxs⟩⟩
theorem one_cell {e:TypeId} {f0:Field} {fuel:Nat} {cs:List Value} {x:DataW H×List MemPlace} (he:P.underlying e=some (.struct #[f0])) (hl:cs.length=1) (o0:f0.offset=0) (c0:P.cellsOf f0.type=1) (h:DataW.trod enc P w base spare held fuel e cs=some x):
    ∃ v0 n y0,cs= [v0]∧DataW.trod enc P w base spare held n f0.type [v0]=some y0:=by
  obtain⟨y0,n,_,_,h0⟩:=trod_struct1 he h
  match cs,hl with
  | [v0],_=>
    simp [o0,c0] at h0;exact⟨v0,n,y0,rfl,h0⟩
end
end Go.Proofs.YtdgnllfbooklcaaDoor
namespace Go.Proofs.YtdgnllfbooklcaaDoor
open Go.RowKit Go.ChangeShapes Go.WideShapes Go.Deep Go.Joins
section
variable {H:Type} {enc:TypeId×Value→H} {P:Program} {w:World} {base:Nat} {spare:Nat→Bool} {held:Bool}
def Lw (P:Program) (t:TypeId) (d:DataW H):Prop:=∀ n ∈ d.weights P t,n≤reachBytes
theorem MQ {e:TypeId}:∀ {l:List (DataW H)} {d:DataW H},d ∈ l→∀ n ∈ d.weights P e,n ∈ DataW.weightsAll P e l
  | [],_,h,_,_=>nomatch h
  | a :: r,d,h,n,hn=>by
    simp only [DataW.weightsAll,List.mem_append]
    rcases List.mem_cons.1 h with rfl | h
    · exact .inl hn
    · exact .inr (MQ h n hn)
theorem R1 {t:TypeId} {fs:Array Field} {fuel:Nat} {cs:List Value} {x:DataW H×List MemPlace} (ht:P.underlying t=some (.struct fs)) (h:DataW.trod enc P w base spare held fuel t cs=some x):
    ∃ n,n < fuel∧cs.length=P.cellsOf t∧∀ (i:Nat) (f:Field),fs[i]? =some f→∃ y,DataW.trod enc P w base spare held n f.type ((cs.drop f.offset).take (P.cellsOf f.type))=some y∧(Lw P t x.1→Lw P f.type y.1):=by
  obtain⟨xs,n,rfl,rfl,hl,hlen,hf⟩:=DataW.trod_struct ht h;refine⟨n,Nat.lt_succ_self n,hl,fun i f hi=>?_⟩;have hil:i < xs.length:=by rw [hlen];exact(Array.getElem?_eq_some_iff.1 hi).1
  have h1:=hf i f hi;rw [List.getElem?_eq_getElem hil] at h1;refine⟨xs[i],h1,fun hw m hm=>hw m ?_⟩;show m ∈ DataW.weights P t (.agg (xs.map (·.1)));simp only [DataW.weights,ht];refine DataW.weights_mem_each (j:=i) (t:=f.type) (d:=(xs[i]).1) ?_ ?_ m hm
  · rw [List.getElem?_map,Array.getElem?_toList,hi];rfl
  · rw [List.getElem?_map,List.getElem?_eq_getElem hil];rfl
theorem slF {t e:TypeId} {sz fuel:Nat} {v:Value} {x:DataW H×List MemPlace} (ht:P.underlying t=some (.slice e)) (hsz:P.cellsOf e=sz) (hpos:0 < sz) (h:DataW.trod enc P w base spare held fuel t [v]=some x):
    ∃ A len c,v= .slice A len c∧len≤c∧c≤vz∧(len≠0→∃ b o,A=some ⟨b,o,none⟩∧b < w.heap.size∧∀ i,i < len→∃ cs k y,k < fuel∧cs.length=sz∧w.rangeAt b (o + i * sz) cs∧DataW.trod enc P w base spare held k e cs=some y∧(Lw P t x.1→Lw P e y.1)):=by
  rcases DataW.trod_slice ht h with ⟨hc,_⟩ | ⟨a,len,cap,elems,rest,n,rfl,hc,rfl,hb,hl,hm,hlen,hel,_⟩
  · rw [vZ hc]
    exact⟨none,0,0,rfl,Nat.le_refl _,Nat.zero_le _,fun h=>absurd rfl h⟩
  · rw [vZ hc]
    rw [hsz] at hel;have hi:∀ i (hi:i < len),∃ cs',w.cells? base (a.add (i * sz)) sz=some cs'∧DataW.trod enc P w base spare held n e cs'=some (elems[i]'om):=fun i hi=>by
      have key:=hel i hi;rw [List.getElem?_eq_getElem om] at key;exact Option.bind_eq_some_iff.1 key
    refine⟨some a,len,cap,rfl,hl,hm,fun h0=>?_⟩;obtain⟨b,o,s⟩:=a;have hsp:s=none∧b < w.heap.size:=by
      obtain⟨cs,h1,_⟩:=hi 0 om;obtain⟨_,h3,h4⟩:=World.cells?_some h1;have h5:=h4 0 hpos;have h6:cs[0]? =some (cs[0]'om):=List.getElem?_eq_getElem om;have h7:(Addr.add (Addr.add ⟨b,o,s⟩ (0 * sz)) 0)=⟨b,o,s⟩:=by simp [Addr.add]
      rw [h7,h6] at h5;exact⟨World.cell?_spot h5,Go.Clock.block_lt h5⟩
    obtain⟨rfl,hlt⟩:=hsp;refine⟨b,o,rfl,hlt,fun i hil=>?_⟩;obtain⟨cs,h1,h2⟩:=hi i om;obtain⟨_,h3,h4⟩:=World.cells?_some h1;refine⟨cs,n,_,Nat.lt_succ_self n,h3,fun j v hj=>?_,h2,fun hw m hm=>hw m ?_⟩
    · have hjl:=(List.getElem?_eq_some_iff.1 hj).1
      have h5:=h4 j om;rw [Addr.add_mid,Addr.add_mid] at h5;rw [h5];exact hj
    · show m ∈ DataW.weights P t (.slice (elems.map (·.1)) (rest.map (·.1)))
      simp only [DataW.weights,ht,List.mem_cons,List.mem_append];exact .inr (.inl (MQ (List.mem_map.2 ⟨_,List.getElem_mem om,rfl⟩) m hm))
theorem YQ {t:TypeId} {fuel:Nat} {v:Value} {x:DataW H×List MemPlace} (ht:P.underlying t=some .string) (h:DataW.trod enc P w base spare held fuel t [v]=some x):∃ s:ByteArray,v= .string s∧(Lw P t x.1→s.size < 9223372036854775807):=by
  obtain⟨s,h1,rfl,_⟩:=DataW.trod_string ht h;refine⟨s,vZ h1,fun hw=>?_⟩;have:=hw s.data.toList.length (by simp [DataW.weights]);have h2:s.data.toList.length=s.size:=Array.length_toList;unfold reachBytes at this;omega
structure SmT (P:Program) (e ts tstr:TypeId) (f0 f1:Field):Prop where
  he:P.underlying e=some (.struct #[f0,f1])
  hsz:P.cellsOf e=2
  o0:f0.offset=0
  o1:f1.offset=1
  e0:f0.type=tstr
  e1:f1.type=ts
  hts:P.underlying ts=some (.slice e)
  hs:P.underlying tstr=some .string
  cs:P.cellsOf tstr=1
  ct:P.cellsOf ts=1
theorem sims_open {e ts tstr:TypeId} {f0 f1:Field} (T:SmT P e ts tstr f0 f1):∀ (fuel:Nat) (v:Value) (x:DataW H×List MemPlace),DataW.trod enc P w base spare held fuel ts [v]=some x→∃ A l c,v= .slice A (List.length l) c∧l.length≤c∧SimsIn w A l:=by
  intro fuel
  induction fuel using Nat.strongRecOn with
  | ind fuel ih=>
    intro v x h;obtain⟨A,len,c,rfl,hl,hm,hx⟩:=slF T.hts T.hsz dE h;by_cases h0:len=0
    · subst h0
      exact⟨A,[],c,rfl,Nat.zero_le _,.nil⟩
    · obtain⟨b,o,rfl,hlt,hc⟩:=hx h0
      obtain⟨l,hxl,hxs⟩:=vW (p:=fun i (z:Sm)=>SimAt w b (o + i * 2) z) (n:=len) (fun i hi=>by
        obtain⟨cs,k,y,hk,h1,h2,h3,_⟩:=hc i hi;obtain⟨n,hn,hlc,hf⟩:=R1 T.he h3;obtain⟨y0,g0,_⟩:=hf 0 f0 rfl;obtain⟨y1,g1,_⟩:=hf 1 f1 rfl
        match cs,h1 with
        | [v0,v1],_=>
          rw [T.e0,T.o0,T.cs] at g0;rw [T.e1,T.o1,T.ct] at g1;obtain⟨s,rfl,_⟩:=YQ T.hs (show DataW.trod enc P w base spare held n tstr [v0]=some y0 from g0);obtain⟨A',l',c',rfl,_,hin⟩:=ih n om v1 y1 g1
          exact⟨.mk s l',.mk hlt h2 hin⟩)
      subst hxl;exact⟨_,l,c,rfl,hl,.more (nLT hl hm) hlt hxs⟩
theorem sim_open {e ts tstr:TypeId} {f0 f1:Field} (T:SmT P e ts tstr f0 f1) {fuel:Nat} {v0 v1:Value} {x:DataW H×List MemPlace} (h:DataW.trod enc P w base spare held fuel e [v0,v1]=some x):∃ (s:Sm) (A:Option Addr) (c:Nat),v0= .string s.base∧v1= .slice A s.args.length c∧SimsIn w A s.args:=by
  obtain⟨n,hn,hlc,hf⟩:=R1 T.he h;obtain⟨y0,g0,_⟩:=hf 0 f0 rfl;obtain⟨y1,g1,_⟩:=hf 1 f1 rfl;rw [T.e0,T.o0,T.cs] at g0;rw [T.e1,T.o1,T.ct] at g1;obtain⟨s,rfl,_⟩:=YQ T.hs (show DataW.trod enc P w base spare held n tstr [v0]=some y0 from g0);obtain⟨A',l',c',rfl,_,hin⟩:=sims_open T n v1 y1 g1;exact⟨.mk s l',A',c',rfl,rfl,hin⟩
structure TmT (P:Program) (m tm ti tstr e ts:TypeId) (f0 f1:Field) (g0 g1 g2 g3 g4:Field):Prop where
  S:SmT P e ts tstr f0 f1
  he:P.underlying m=some (.struct #[g0,g1,g2,g3,g4])
  hsz:P.cellsOf m=6
  o0:g0.offset=0
  o1:g1.offset=1
  o2:g2.offset=2
  o3:g3.offset=3
  o4:g4.offset=5
  e0:g0.type=ti
  e1:g1.type=tstr
  e2:g2.type=ti
  e3:g3.type=e
  e4:g4.type=tm
  htm:P.underlying tm=some (.slice m)
  hi:P.underlying ti=some (.int .i64)
  ci:P.cellsOf ti=1
  ct:P.cellsOf tm=1
section tm
variable {m tm ti tstr e ts:TypeId} {f0 f1 g0 g1 g2 g3 g4:Field}
theorem BY (T:TmT P m tm ti tstr e ts f0 f1 g0 g1 g2 g3 g4) {fuel:Nat} {cs:List Value} {x:DataW H×List MemPlace} (hl:cs.length=6) (h:DataW.trod enc P w base spare held fuel m cs=some x):
    ∃ (k i:Int) (nm:ByteArray) (s:Sm) (A:Option Addr) (c:Nat) (v:Value) (n:Nat) (y:DataW H×List MemPlace),n < fuel∧cs= [.int .i64 k,.string nm,.int .i64 i,.string s.base,.slice A s.args.length c,v]∧SimsIn w A s.args∧DataW.trod enc P w base spare held n tm [v]=some y:=by
  obtain⟨n,hn,hlc,hf⟩:=R1 T.he h;obtain⟨y0,q0,_⟩:=hf 0 g0 rfl;obtain⟨y1,q1,_⟩:=hf 1 g1 rfl;obtain⟨y2,q2,_⟩:=hf 2 g2 rfl;obtain⟨y3,q3,_⟩:=hf 3 g3 rfl;obtain⟨y4,q4,_⟩:=hf 4 g4 rfl
  match cs,hl with
  | [v0,v1,v2,v3,v4,v5],_=>
    rw [T.e0,T.o0,T.ci] at q0;rw [T.e1,T.o1,T.S.cs] at q1;rw [T.e2,T.o2,T.ci] at q2;rw [T.e3,T.o3,T.S.hsz] at q3;rw [T.e4,T.o4,T.ct] at q4;obtain⟨k,h5,_,_⟩:=DataW.trod_int T.hi (show DataW.trod enc P w base spare held n ti [v0]=some y0 from q0);obtain⟨nm,rfl,_⟩:=YQ T.S.hs (show DataW.trod enc P w base spare held n tstr [v1]=some y1 from q1);obtain⟨i,h6,_,_⟩:=DataW.trod_int T.hi (show DataW.trod enc P w base spare held n ti [v2]=some y2 from q2);obtain⟨s,A,c,rfl,rfl,hS⟩:=sim_open T.S (show DataW.trod enc P w base spare held n e [v3,v4]=some y3 from q3);rw [vZ h5,vZ h6];exact⟨k,i,nm,s,A,c,v5,n,y4,hn,rfl,hS,q4⟩
theorem tms_open (T:TmT P m tm ti tstr e ts f0 f1 g0 g1 g2 g3 g4):∀ (fuel:Nat) (v:Value) (x:DataW H×List MemPlace),DataW.trod enc P w base spare held fuel tm [v]=some x→∃ A l c,v= .slice A (List.length l) c∧l.length≤c∧TmsIn w A l:=by
  intro fuel
  induction fuel using Nat.strongRecOn with
  | ind fuel ih=>
    intro v x h;obtain⟨A,len,c,rfl,hl,hm,hx⟩:=slF T.htm T.hsz dE h;by_cases h0:len=0
    · subst h0
      exact⟨A,[],c,rfl,Nat.zero_le _,.nil⟩
    · obtain⟨b,o,rfl,hlt,hc⟩:=hx h0
      obtain⟨l,hxl,hxs⟩:=vW (p:=fun i (z:Tm)=>TmAt w b (o + i * 6) z) (n:=len) (fun i hi=>by
        obtain⟨cs,k,y,hk,h1,h2,h3,_⟩:=hc i hi;obtain⟨kd,ix,nm,s,A1,c1,v',n,y',hn,rfl,hS,h4⟩:=BY T h1 h3;obtain⟨A',l',c',rfl,_,hin⟩:=ih n om v' y' h4
        exact⟨.mk kd nm ix s l',.mk hlt h2 hS hin⟩)
      subst hxl;exact⟨_,l,c,rfl,hl,.more (nLT hl hm) hlt hxs⟩
theorem H7 (T:TmT P m tm ti tstr e ts f0 f1 g0 g1 g2 g3 g4) {fuel:Nat} {cs:List Value} {x:DataW H×List MemPlace} (hl:cs.length=6) (h:DataW.trod enc P w base spare held fuel m cs=some x):
    ∃ (t:Tm) (A:Option Addr) (c:Nat) (B:Option Addr) (d:Nat),cs= [.int .i64 t.kind,.string t.name,.int .i64 t.index,.string t.type.base,.slice A t.type.args.length c,.slice B t.args.length d]∧SimsIn w A t.type.args∧TmsIn w B t.args:=by
  obtain⟨kd,ix,nm,s,A1,c1,v',n,y',hn,rfl,hS,h4⟩:=BY T hl h;obtain⟨A',l',c',rfl,_,hin⟩:=tms_open T n v' y' h4;exact⟨.mk kd nm ix s l',A1,c1,A',c',rfl,hS,hin⟩
end tm
structure GrfT (P:Program) (tg tn e ti tl te:TypeId) (q0 f0 f1 g0 g1:Field):Prop where
  hg:P.underlying tg=some (.struct #[q0])
  hgz:P.cellsOf tg=1
  r0:q0.offset=0
  s0:q0.type=tn
  hcn:P.cellsOf tn=1
  htn:P.underlying tn=some (.slice e)
  he:P.underlying e=some (.struct #[f0,f1])
  hsz:P.cellsOf e=2
  o0:f0.offset=0
  o1:f1.offset=1
  e0:f0.type=ti
  e1:f1.type=tl
  htl:P.underlying tl=some (.slice te)
  hte:P.underlying te=some (.struct #[g0,g1])
  hst:P.cellsOf te=2
  p0:g0.offset=0
  p1:g1.offset=1
  d0:g0.type=ti
  d1:g1.type=ti
  hcl:P.cellsOf tl=1
  hi:P.underlying ti=some (.int .i64)
  hc1:P.cellsOf ti=1
theorem CY {tg tn e ti tl te:TypeId} {q0 f0 f1 g0 g1:Field} (T:GrfT P tg tn e ti tl te q0 f0 f1 g0 g1) {fuel:Nat} {v:Value} {x:DataW H×List MemPlace} (h:DataW.trod enc P w base spare held fuel tg [v]=some x):∃ A gr c,v= .slice A (List.length gr) c∧NodesIn w A gr:=by
  obtain⟨v0,n,y0,h1,h2⟩:=one_cell T.hg rfl T.r0 (by rw [T.s0];exact T.hcn) h;rw [T.s0] at h2;obtain⟨A,gr,c,rfl,_,hin⟩:=FX T.htn T.he T.hsz T.o0 T.o1 T.e0 T.e1 T.htl T.hte T.hst T.p0 T.p1 T.d0 T.d1 T.hcl T.hi T.hc1 h2;exact⟨A,gr,c,vZ h1,hin⟩
section rl
variable {m tm ti tstr e ts:TypeId} {f0 f1 g0 g1 g2 g3 g4:Field} {tg tn te' tl tk:TypeId} {q0 a0 a1 b0 b1:Field}
theorem Fj {t r:TypeId} {x0 x1 x2 x3 x4:Field} (T:TmT P m tm ti tstr e ts f0 f1 g0 g1 g2 g3 g4) (G:GrfT P tg tn te' ti tl tk q0 a0 a1 b0 b1) (ht:P.underlying t=some (.slice r)) (hr:P.underlying r=some (.struct #[x0,x1,x2,x3,x4])) (hsz:P.cellsOf r=10)
    (o0:x0.offset=0) (o1:x1.offset=1) (o2:x2.offset=2) (o3:x3.offset=3) (o4:x4.offset=4) (t0:x0.type=tstr) (t1:x1.type=tg) (t2:x2.type=ti) (t3:x3.type=ti) (t4:x4.type=m) {fuel:Nat} {v:Value} {x:DataW H×List MemPlace} (h:DataW.trod enc P w base spare held fuel t [v]=some x):
    ∃ A l c,v= .slice A (List.length l) c∧l.length≤c∧RulesIn w A l:=by
  obtain⟨A,len,c,rfl,hl,hm,hx⟩:=slF ht hsz dE h;by_cases h0:len=0
  · subst h0
    exact⟨A,[],c,rfl,Nat.zero_le _,Nat.zero_le _,fun h=>absurd rfl h⟩
  · obtain⟨b,o,rfl,hlt,hc⟩:=hx h0
    obtain⟨l,hxl,hxs⟩:=vW (p:=fun i (z:Rl)=>RlIn w b (o + i * 10) z) (n:=len) (fun i hi=>by
      obtain⟨cs,k,y,hk,h1,h2,h3,_⟩:=hc i hi;obtain⟨n,hn,hlc,hf⟩:=R1 hr h3;obtain⟨y0,p0,_⟩:=hf 0 x0 rfl;obtain⟨y1,p1,_⟩:=hf 1 x1 rfl;obtain⟨y2,p2,_⟩:=hf 2 x2 rfl;obtain⟨y3,p3,_⟩:=hf 3 x3 rfl;obtain⟨y4,p4,_⟩:=hf 4 x4 rfl
      match cs,h1 with
      | [v0,v1,v2,v3,v4,v5,v6,v7,v8,v9],_=>
        rw [t0,o0,T.S.cs] at p0;rw [t1,o1,G.hgz] at p1;rw [t2,o2,T.ci] at p2;rw [t3,o3,T.ci] at p3;rw [t4,o4,T.hsz] at p4;obtain⟨nm,rfl,_⟩:=YQ T.S.hs (show DataW.trod enc P w base spare held n tstr [v0]=some y0 from p0);obtain⟨B,gr,d,rfl,hG⟩:=CY G (show DataW.trod enc P w base spare held n tg [v1]=some y1 from p1);obtain⟨kd,h5,_,_⟩:=DataW.trod_int T.hi (show DataW.trod enc P w base spare held n ti [v2]=some y2 from p2);obtain⟨wt,h6,_,_⟩:=DataW.trod_int T.hi (show DataW.trod enc P w base spare held n ti [v3]=some y3 from p3);obtain⟨tt,A2,c2,B2,d2,h7,hS,hT⟩:=H7 T rfl (show DataW.trod enc P w base spare held n m [v4,v5,v6,v7,v8,v9]=some y4 from p4);rw [vZ h5,vZ h6,h7] at h2
        exact⟨⟨nm,gr,kd,wt,tt⟩,B,d,A2,c2,B2,d2,h2,hG,hS,hT⟩)
    subst hxl;exact⟨_,l,c,rfl,hl,nLT hl hm,fun _=>⟨b,o,rfl,hlt,hxs⟩⟩
theorem W5 {t r:TypeId} {x0 x1 x2 x3:Field} (T:TmT P m tm ti tstr e ts f0 f1 g0 g1 g2 g3 g4) (G:GrfT P tg tn te' ti tl tk q0 a0 a1 b0 b1) (ht:P.underlying t=some (.slice r)) (hr:P.underlying r=some (.struct #[x0,x1,x2,x3])) (hsz:P.cellsOf r=9)
    (o0:x0.offset=0) (o1:x1.offset=1) (o2:x2.offset=2) (o3:x3.offset=3) (t0:x0.type=tstr) (t1:x1.type=tg) (t2:x2.type=ti) (t3:x3.type=m) {fuel:Nat} {v:Value} {x:DataW H×List MemPlace} (hw:Lw P t x.1) (h:DataW.trod enc P w base spare held fuel t [v]=some x):
    ∃ A l c,v= .slice A (List.length l) c∧l.length≤c∧LexesIn w A l:=by
  obtain⟨A,len,c,rfl,hl,hm,hx⟩:=slF ht hsz dE h;by_cases h0:len=0
  · subst h0
    exact⟨A,[],c,rfl,Nat.zero_le _,Nat.zero_le _,fun h=>absurd rfl h⟩
  · obtain⟨b,o,rfl,hlt,hc⟩:=hx h0
    obtain⟨l,hxl,hxs⟩:=vW (p:=fun i (z:Lx)=>LxIn w b (o + i * 9) z) (n:=len) (fun i hi=>by
      obtain⟨cs,k,y,hk,h1,h2,h3,hwy⟩:=hc i hi;obtain⟨n,hn,hlc,hf⟩:=R1 hr h3;obtain⟨y0,p0,hw0⟩:=hf 0 x0 rfl;obtain⟨y1,p1,_⟩:=hf 1 x1 rfl;obtain⟨y2,p2,_⟩:=hf 2 x2 rfl;obtain⟨y3,p3,_⟩:=hf 3 x3 rfl
      match cs,h1 with
      | [v0,v1,v2,v3,v4,v5,v6,v7,v8],_=>
        rw [t0,o0,T.S.cs] at p0;rw [t0] at hw0;rw [t1,o1,G.hgz] at p1;rw [t2,o2,T.ci] at p2;rw [t3,o3,T.hsz] at p3;obtain⟨nm,rfl,hws⟩:=YQ T.S.hs (show DataW.trod enc P w base spare held n tstr [v0]=some y0 from p0);obtain⟨B,gr,d,rfl,hG⟩:=CY G (show DataW.trod enc P w base spare held n tg [v1]=some y1 from p1);obtain⟨wt,h6,_,_⟩:=DataW.trod_int T.hi (show DataW.trod enc P w base spare held n ti [v2]=some y2 from p2);obtain⟨tt,A2,c2,B2,d2,h7,hS,hT⟩:=H7 T rfl (show DataW.trod enc P w base spare held n m [v3,v4,v5,v6,v7,v8]=some y3 from p3);rw [vZ h6,h7] at h2
        exact⟨⟨nm,gr,wt,tt⟩,hws (hw0 (hwy hw)),B,d,A2,c2,B2,d2,h2,hG,hS,hT⟩)
    subst hxl;exact⟨_,l,c,rfl,hl,nLT hl hm,fun _=>⟨b,o,rfl,hlt,hxs⟩⟩
end rl
theorem lw_arg {ts:List TypeId} {ds:List (DataW H)} (h:(DataW.weightsEach P ts ds).all (·≤reachBytes)=true) {j:Nat} {t:TypeId} {d:DataW H} (ht:ts[j]? =some t) (hd:ds[j]? =some d):Lw P t d:=fun n hn=>by
  have:=List.all_eq_true.1 h _ (DataW.weights_mem_each ht hd n hn)
  simpa using this
end
end Go.Proofs.YtdgnllfbooklcaaDoor
namespace Go.Proofs.YtdgnllfbooklcaaDoor
open Go.RowKit Go.ChangeShapes Go.WideShapes Go.Deep Go.Joins
section
variable {H:Type} {enc:TypeId×Value→H} {P:Program} {w:World} {base:Nat} {spare:Nat→Bool} {held:Bool}
structure DtT (P:Program) (e ts ti:TypeId) (f0 f1 f2:Field):Prop where
  he:P.underlying e=some (.struct #[f0,f1,f2])
  hsz:P.cellsOf e=3
  o0:f0.offset=0
  o1:f1.offset=1
  o2:f2.offset=2
  e0:f0.type=ti
  e1:f1.type=ti
  e2:f2.type=ts
  hts:P.underlying ts=some (.slice e)
  hi:P.underlying ti=some (.int .i64)
  ci:P.cellsOf ti=1
  ct:P.cellsOf ts=1
section
variable {e ts ti:TypeId} {f0 f1 f2:Field}
theorem R2 (T:DtT P e ts ti f0 f1 f2) {fuel:Nat} {v0 v1 v2:Value} {x:DataW H×List MemPlace} (h:DataW.trod enc P w base spare held fuel e [v0,v1,v2]=some x):
    ∃ (r l:Int) (n:Nat) (y:DataW H×List MemPlace),n < fuel∧v0= .int .i64 r∧v1= .int .i64 l∧DataW.trod enc P w base spare held n ts [v2]=some y:=by
  obtain⟨n,hn,hlc,hf⟩:=R1 T.he h;obtain⟨y0,g0,_⟩:=hf 0 f0 rfl;obtain⟨y1,g1,_⟩:=hf 1 f1 rfl;obtain⟨y2,g2,_⟩:=hf 2 f2 rfl;rw [T.e0,T.o0,T.ci] at g0;rw [T.e1,T.o1,T.ci] at g1;rw [T.e2,T.o2,T.ct] at g2;obtain⟨r,h5,_,_⟩:=DataW.trod_int T.hi (show DataW.trod enc P w base spare held n ti [v0]=some y0 from g0);obtain⟨l,h6,_,_⟩:=DataW.trod_int T.hi (show DataW.trod enc P w base spare held n ti [v1]=some y1 from g1);exact⟨r,l,n,y2,hn,vZ h5,vZ h6,g2⟩
theorem dts_open (T:DtT P e ts ti f0 f1 f2):∀ (fuel:Nat) (v:Value) (x:DataW H×List MemPlace),DataW.trod enc P w base spare held fuel ts [v]=some x→∃ A l c,v= .slice A (List.length l) c∧l.length≤c∧TresIn w A l:=by
  intro fuel
  induction fuel using Nat.strongRecOn with
  | ind fuel ih=>
    intro v x h;obtain⟨A,len,c,rfl,hl,hm,hx⟩:=slF T.hts T.hsz dE h;by_cases h0:len=0
    · subst h0
      exact⟨A,[],c,rfl,Nat.zero_le _,.nil⟩
    · obtain⟨b,o,rfl,hlt,hc⟩:=hx h0
      obtain⟨l,hxl,hxs⟩:=vW (p:=fun i (z:Dt)=>TreAt w b (o + i * 3) z) (n:=len) (fun i hi=>by
        obtain⟨cs,k,y,hk,h1,h2,h3,_⟩:=hc i hi
        match cs,h1 with
        | [v0,v1,v2],_=>
          obtain⟨r,l,n,y',hn,rfl,rfl,h4⟩:=R2 T h3;obtain⟨A',l',c',rfl,_,hin⟩:=ih n om v2 y' h4
          exact⟨.mk r l l',.mk hlt h2 hin⟩)
      subst hxl;exact⟨_,l,c,rfl,hl,.more (nLT hl hm) hlt hxs⟩
theorem dt_open (T:DtT P e ts ti f0 f1 f2) {fuel:Nat} {v0 v1 v2:Value} {x:DataW H×List MemPlace} (h:DataW.trod enc P w base spare held fuel e [v0,v1,v2]=some x):
    ∃ (t:Dt) (A:Option Addr) (c:Nat),v0= .int .i64 t.rule∧v1= .int .i64 t.lex∧v2= .slice A t.kids.length c∧TresIn w A t.kids:=by
  obtain⟨r,l,n,y',hn,rfl,rfl,h4⟩:=R2 T h;obtain⟨A',l',c',rfl,_,hin⟩:=dts_open T n v2 y' h4;exact⟨.mk r l l',A',c',rfl,rfl,rfl,hin⟩
end
end
end Go.Proofs.YtdgnllfbooklcaaDoor
