/- What these functions of the program compute, at every world: glosswright/glosswrightequal.Small. What these functions of the program compute, at every world: . What these functions of the program compute, at every world: . What these functions of the program compute, at every world: . What these functions of the program compute, at every world: glosswright/derive.graphOf. -/
import Derived.Test.YtdgnllfbooklcaaDoorU
import Derived.Test.YtdgnllfbooklcaaDoorSim
import Derived.Test.YtdgnllfbooklcaaDoorDSmC
import Derived.Test.YtdgnllfbooklcaaDoorDGo
import Derived.Test.YtdgnllfbooklcaaDoorYJo
import Derived.Test.YtdgnllfbooklcaaDoorEng9
import Derived.Test.YtdgnllfbooklcaaDoorGro
import Derived.Test.YtdgnllfbooklcaaDoorOrd
import Derived.Test.YtdgnllfbooklcaaDoorRng
namespace Go.Proofs.YtdgnllfbooklcaaDoor
open Go.RowKit
theorem fn18:zZ Tryd.prog 18=true:=by kernel_rfl
theorem fn19:zZ Tryd.prog 19=true:=by kernel_rfl
theorem sz32:(Tryd.prog.info? 32).map (·.size)=some 5:=by kernel_rfl
theorem sz72_DSm:(Tryd.prog.info? 72).map (·.size)=some 3:=by kernel_rfl
theorem ze32:(Tryd.prog.info? 32).map (·.zero)=some (some (.agg #[.slice none 0 0,.slice none 0 0,.slice none 0 0,.slice none 0 0,.slice none 0 0])):=by kernel_rfl
theorem ze72_DSm:(Tryd.prog.info? 72).map (·.zero)=some (some (.agg #[.string ⟨#[]⟩,.int .i64 0,.int .i64 0])):=by kernel_rfl
theorem ze9:(Tryd.prog.info? 9).map (·.zero)=some (some (.string ⟨#[]⟩)):=by kernel_rfl
set_option maxHeartbeats 8000000 in
theorem small_d (w:World):Calls Tryd.prog 5 #[] w fun e w'=>(∃ v,e= .returned v∧GmD smallT smallF smallR smallX smallS w w' v)∧Bel w w':=by
 refine enter Tryd.func5 Tryd.ntmps5 rfl (Nat.le_of_ble_eq_true rfl) ?_;have hB:Bel w w:=Below.refl _ _;refine zn2 ?_;refine qw (cs:=#[.slice none 0 0,.slice none 0 0,.slice none 0 0,.slice none 0 0,.slice none 0 0]) ze32 rfl (fun b0 w1 hb0 s1 hr=>?_);have lo0:=nLT (Bel.size hB) hr;refine zn4 ?_;refine zX R0 (gz _ _) rfl (fun e' w2 hr=>?_);obtain⟨rfl,s2⟩:=hr;replace s2:=sB s2;refine⟨_,rfl,?_⟩;refine zX R0 (gz _ _) rfl (fun e' w3 hr=>?_);obtain⟨rfl,s3⟩:=hr;replace s3:=sB s3;refine⟨_,rfl,?_⟩;refine qw (cs:=#[.string ⟨#[]⟩,.slice none 0 0]) yV rfl (fun b1 w4 hb1 s4 hr=>?_);replace hb0:=hb0.tr0 (s2.trans s3);have:=nLL hb0.lt hr;replace hB:=hB.tr0 (s1.trans (s2.trans s3));have lo1:=nLT (Bel.size hB) hr;refine qw (cs:=#[.string ⟨#[]⟩,.slice none 0 0]) yV rfl (fun b2 w5 hb2 s5 hr=>?_);replace hb0:=hb0.tr0 s4;have:=nLL hb0.lt hr;have:=nLL hb1.lt hr;replace hB:=hB.tr0 s4;have lo2:=nLT (Bel.size hB) hr;replace hb1:=hb1.tr0 s5;refine zk hb1 rfl rfl x7 rfl zK (fun w6 hq s6=>?_);replace hb1:=hq;replace hb2:=hb2.tr1 s6 om;refine zk hb2 rfl rfl x7 rfl zK (fun w7 hq s7=>?_);replace hb2:=hq;refine zn6 ?_;refine zX Yv (gY [] (Ts.b false) (Ts.b true) _ _ _ _ _ _ _ (by simp) (Fz.triv _ _ TS (fun _=>SimsIn.nil)) (Fz.triv _ _ TS (fun _=>SimsIn.nil))) rfl (fun e' w8 hr=>?_);obtain⟨⟨_,rfl,A12,c12,n12,rfl,hP12⟩,s8⟩:=hr;replace s8:=sB s8;refine⟨_,rfl,?_⟩;refine yj (cs:=#[.string ⟨#[]⟩,.slice none 0 0]) yV rfl (fun _=>rfl) (fun _=>rfl) x7 rfl zK (fun b3 w10 hb3 s9 hr=>?_);refine zn6 ?_;replace hP12:=hP12.tr0 s9;refine zX Yv (gY [] (Ts.b false) (Ts.f (Ts.b false) (Ts.b true)) _ _ _ _ _ _ _ (by simp) (Fz.triv _ _ TS (fun _=>SimsIn.nil)) hP12) rfl (fun e' w11 hr=>?_);obtain⟨⟨_,rfl,A15,c15,n15,rfl,hP15⟩,s10⟩:=hr;replace s10:=sB s10;refine⟨_,rfl,?_⟩;refine yj (cs:=#[.string ⟨#[]⟩,.slice none 0 0]) yV rfl (fun _=>rfl) (fun _=>rfl) x7 rfl zK (fun b4 w13 hb4 s11 hr=>?_);refine zn4 ?_;refine qw (cs:=#[.slice none 0 0,.slice none 0 0,.slice none 0 0,.slice none 0 0,.slice none 0 0]) ze32 rfl (fun b5 w14 hb5 s12 hr=>?_);replace hb0:=(((hb0.tr0 s5).tr1 s6 om).tr1 s7 om).tr0 (s8.trans (s9.trans (s10.trans s11)));have or_b0_b5:b0 < b5:=nLL hb0.lt hr;replace hb1:=(hb1.tr1 s7 om).tr0 (s8.trans (s9.trans (s10.trans s11)));have or_b1_b5:b1 < b5:=nLL hb1.lt hr;replace hb2:=hb2.tr0 (s8.trans (s9.trans (s10.trans s11)));have or_b2_b5:b2 < b5:=nLL hb2.lt hr;replace hb3:=hb3.tr0 (s10.trans s11);have or_b3_b5:b3 < b5:=nLL hb3.lt hr
 have or_b4_b5:b4 < b5:=nLL hb4.lt hr;replace hB:=(((hB.tr0 s5).tr1 s6 lo1).tr1 s7 lo2).tr0 (s8.trans (s9.trans (s10.trans s11)));have lo5:=nLT (Bel.size hB) hr;refine zn4 ?_;refine qZ (cs:=#[_,_,_,_,_,_,_,_,_,_,_,_,_,_,_]) [(0,.string _),(1,.string _),(2,.string _),(3,.string _),(4,.string _),(5,.string _),(6,.string _),(7,.string _),(8,.string _),(9,.string _),(10,.string _),(11,.string _),(12,.string _),(13,.string _),(14,.string _)] rfl U61 C1 ze9 dE dE kR rfl (fun b16 w15 hb16 s13 hr=>?_);refine qZ (cs:=#[_,_,_,_,_,_,_,_,_,_,_,_,_,_,_]) [(0,.int _ _),(1,.int _ _),(2,.int _ _),(3,.int _ _),(4,.int _ _),(5,.int _ _),(6,.int _ _),(7,.int _ _),(8,.int _ _),(9,.int _ _),(10,.int _ _),(11,.int _ _),(12,.int _ _),(13,.int _ _),(14,.int _ _)] rfl U70 C3 qz dE dE kR rfl (fun b17 w16 hb17 s14 hr=>?_);refine wl (EQ (v0:= .string _) (v1:= .int _ _) (v2:= .int _ _) (fun v0 v1 v2=>#[v0,v1,v2]) rfl rfl rfl kR) (wl (EQ (v0:= .string _) (v1:= .int _ _) (v2:= .int _ _) (fun v0 v1 v2=>#[v0,v1,v2]) rfl rfl rfl kR) (wl (EQ (v0:= .string _) (v1:= .int _ _) (v2:= .int _ _) (fun v0 v1 v2=>#[v0,v1,v2]) rfl rfl rfl kR) (wl (EQ (v0:= .string _) (v1:= .int _ _) (v2:= .int _ _) (fun v0 v1 v2=>#[v0,v1,v2]) rfl rfl rfl kR) (wl (EQ (v0:= .string _) (v1:= .int _ _) (v2:= .int _ _) (fun v0 v1 v2=>#[v0,v1,v2]) rfl rfl rfl kR) ?_))));refine qZ (cs:=#[_,_,_,_,_,_,_,_,_,_,_,_,_,_,_]) [(0,.agg _),(1,.agg _),(2,.agg _),(3,.agg _),(4,.agg _)] rfl Tryd.underlying23 sz72_DSm ze72_DSm dE dE kR rfl (fun b23 w17 hb23 s15 hr=>?_);replace hb16:=hb16.tr0 (s14.trans s15);replace hb17:=hb17.tr0 s15;refine zX fn18 (P8 (some ⟨b16,0,none⟩) (some ⟨b17,0,none⟩) _ _ _ _ _ Fq F9 _ (Sw Fq hb16) (qk F9 hb17 dE) dE rfl) rfl (fun e' w18 hr=>?_);obtain⟨⟨At,capt,rfl,hTy⟩,s16⟩:=hr;replace s16:=sB s16;replace hb23:=hb23.tr0 s16;have hFe:=(Fz.blk (X:=[]) (ts:=TS) hb23 (by simp) (M8 dE dE dE _)).imp (fun _ h=>B3 smallF h dE);replace hTy:Fz [] _ TS w18 (fun w=>TypesIn w At smallT):=hTy;refine⟨_,rfl,?_⟩;refine zn1 ?_;replace hb5:=hb5.tr0 (s13.trans (s14.trans (s15.trans s16)));refine Rj hb5 rfl rfl K4 (by first | decide | simp) zK rfl (fun w19 hq s17=>?_);replace hP12:=hP12.tr0 (s10.trans (s11.trans (s12.trans (s13.trans (s14.trans (s15.trans s16))))));replace hP12:=hP12.sp1 s17 hb5 (.inl dE);replace hP15:=hP15.tr0 (s11.trans (s12.trans (s13.trans (s14.trans (s15.trans s16)))));replace hP15:=hP15.sp1 s17 hb5 (.inl dE);replace hTy:=hTy.sp1 s17 hb5 (.inl dE)
 replace hFe:=hFe.sp1 s17 hb5 (.inl dE);replace hb5:=hq;refine zn4 ?_;refine zX fn19 (FW _) rfl (fun e' w20 hr=>?_);obtain⟨⟨bm,csm,nm,rfl,hbm,hTm⟩,s18⟩:=hr;replace s18:=sB s18;refine⟨_,rfl,?_⟩;refine zn4 ?_;replace hb5:=hb5.tr0 s18;refine yz [27,28,29,30,31,32,33,34,35,36,37,38,39,40,41,42,43,44,45,46,47,48,49,50,51,52,53,54,55,56,57,58,59,60,61,62,63,64,65,66,67,68,69,70,71,72,73,74,75,76,77,78,79,80,81,82,83,84,85,86,87,88,89,90,91,92,93,94] (fun g w'=>Same [b5] w20 w'∧∃ b93 cr nRl,w20.heap.size≤b93∧Blk w' b93 49 cr∧Fz [] nRl TS w' (fun w=>RlCs w smallR cr.toList)∧Blk w' b5 32 #[.slice At 15 capt,.slice (some ⟨b23,0,none⟩) 5 5,.slice (some ⟨b93,0,none⟩) 6 6,.slice none 0 0,.slice none 0 0]) ?_ (fun g7 w21 hI=>?_)
 ·have hh:=fun f Q k0 k1 kq=>small_r7 hb5 hbm hTm f Q k0 k1 kq
  exact hh _ _ (by rfl) (by rfl) (by intro d;cases d <;> exact fun _ _ _ _ h=>h)
 obtain⟨hS5,b93,cr,nRl,hn93,hb93,hRl,hb5n⟩:=hI;have o593:b5 < b93:=nLL hb5.lt hn93;replace hB:=((hB.tr0 (s12.trans (s13.trans (s14.trans (s15.trans s16))))).tr1 s17 lo5).tr0 s18;have lo93:=nLT (Bel.size hB) hn93;replace hB:=hB.tr1 hS5 lo5;replace hb0:=((hb0.tr0 (s12.trans (s13.trans (s14.trans (s15.trans s16))))).tr1 s17 om).tr0 s18;replace hb0:=hb0.tr1 hS5 om;replace hb1:=((hb1.tr0 (s12.trans (s13.trans (s14.trans (s15.trans s16))))).tr1 s17 om).tr0 s18;replace hb1:=hb1.tr1 hS5 om;replace hb2:=((hb2.tr0 (s12.trans (s13.trans (s14.trans (s15.trans s16))))).tr1 s17 om).tr0 s18;replace hb2:=hb2.tr1 hS5 om;replace hb3:=((hb3.tr0 (s12.trans (s13.trans (s14.trans (s15.trans s16))))).tr1 s17 om).tr0 s18;replace hb3:=hb3.tr1 hS5 om;replace hb4:=((hb4.tr0 (s12.trans (s13.trans (s14.trans (s15.trans s16))))).tr1 s17 om).tr0 s18;replace hb4:=hb4.tr1 hS5 om;replace hTy:=hTy.tr0 s18;replace hTy:=hTy.sp1 hS5 hb5 (.inl dE);replace hFe:=hFe.tr0 s18;replace hFe:=hFe.sp1 hS5 hb5 (.inl dE);replace hP12:=hP12.tr0 s18;replace hP12:=hP12.sp1 hS5 hb5 (.inl dE);replace hP15:=hP15.tr0 s18;replace hP15:=hP15.sp1 hS5 hb5 (.inl dE);replace hb5:=hb5n;refine zn3 ?_;refine wl (Fw rfl) (zn4 ?_);obtain⟨base,hbase⟩:∃ b,b=w21.heap.size:=⟨_,rfl⟩
 have hI:SmSt smallT smallF smallR b0 b1 b2 b3 b4 b5 b23 b93 base capt c12 c15 At A12 A15 cr 0 NX w w21:=⟨⟨hB,Nat.le_of_eq hbase,hb0,hb1,hb2,hb3,hb4,hb93,by rw [hbase];exact hTy.and (hFe.and hRl),by rw [hbase];exact hP12.up,by rw [hbase];exact hP15.up,lo5,lo93,⟨or_b0_b5,or_b1_b5,or_b2_b5,or_b3_b5,or_b4_b5,o593⟩,⟨by rw [hbase];exact hb5.lt,by rw [hbase];exact hb93.lt⟩⟩,none,0,[],_,hb5,Own.nil _ _ _ _,Fz.triv [] _ TS (fun _=>LxData.nil)⟩
 refine yz [96,97,98,99,100,101] (fun g w'=>SmSt smallT smallF smallR b0 b1 b2 b3 b4 b5 b23 b93 base capt c12 c15 At A12 A15 cr 1 Ky w w') ?_ (fun g9 w22 hI=>?_)
 ·have hh:=fun f Q k0 kq=>small_r9 hI f Q k0 kq
  exact hh _ _ (by rfl) (by intro d;cases d <;> exact fun _ _ _ _ h=>h)
 obtain hI:=hI;refine e_S (xK ?_);refine yz [102,103,104,105,106,107] (fun g w'=>SmSt smallT smallF smallR b0 b1 b2 b3 b4 b5 b23 b93 base capt c12 c15 At A12 A15 cr 2 Kw w w') ?_ (fun g10 w23 hI=>?_)
 ·have hh:=fun f Q k0 kq=>small_r10 hI f Q k0 kq
  exact hh _ _ (by rfl) (by intro d;cases d <;> exact fun _ _ _ _ h=>h)
 obtain hI:=hI;refine e_S (xK ?_);refine yz [108,109,110,111,112] (fun g w'=>SmSt smallT smallF smallR b0 b1 b2 b3 b4 b5 b23 b93 base capt c12 c15 At A12 A15 cr 3 Kv w w') ?_ (fun g11 w24 hI=>?_)
 ·have hh:=fun f Q k0 kq=>small_r11 hI f Q k0 kq
  exact hh _ _ (by rfl) (by intro d;cases d <;> exact fun _ _ _ _ h=>h)
 obtain hI:=hI;refine e_S (xK ?_);refine yz [113,114,115,116,117,118,119] (fun g w'=>SmSt smallT smallF smallR b0 b1 b2 b3 b4 b5 b23 b93 base capt c12 c15 At A12 A15 cr 4 Kk w w') ?_ (fun g12 w25 hI=>?_)
 ·have hh:=fun f Q k0 k1 kq=>small_r12 hI f Q k0 k1 kq
  exact hh _ _ (by rfl) (by rfl) (by intro d;cases d <;> exact fun _ _ _ _ h=>h)
 obtain hI:=hI;refine e_S (xK ?_);refine yz [120,121,122,123,124,125,126] (fun g w'=>SmSt smallT smallF smallR b0 b1 b2 b3 b4 b5 b23 b93 base capt c12 c15 At A12 A15 cr 5 Kj w w') ?_ (fun g13 w26 hI=>?_)
 ·have hh:=fun f Q k0 k1 kq=>small_r13 hI f Q k0 k1 kq
  exact hh _ _ (by rfl) (by rfl) (by intro d;cases d <;> exact fun _ _ _ _ h=>h)
 obtain hI:=hI;refine e_S (xK ?_);refine yz [127,128,129,130,131,132,133] (fun g w'=>SmSt smallT smallF smallR b0 b1 b2 b3 b4 b5 b23 b93 base capt c12 c15 At A12 A15 cr 6 Kx w w') ?_ (fun g14 w27 hI=>?_)
 ·have hh:=fun f Q k0 k1 kq=>small_r14 hI f Q k0 k1 kq
  exact hh _ _ (by rfl) (by rfl) (by intro d;cases d <;> exact fun _ _ _ _ h=>h)
 obtain hI:=hI;refine e_S (xK ?_);refine yz [134,135,136,137,138,139,140] (fun g w'=>SmSt smallT smallF smallR b0 b1 b2 b3 b4 b5 b23 b93 base capt c12 c15 At A12 A15 cr 7 Kq w w') ?_ (fun g15 w28 hI=>?_)
 ·have hh:=fun f Q k0 k1 kq=>small_r15 hI f Q k0 k1 kq
  exact hh _ _ (by rfl) (by rfl) (by intro d;cases d <;> exact fun _ _ _ _ h=>h)
 obtain hI:=hI;refine e_S (xK ?_);refine yz [141,142,143,144,145,146,147] (fun g w'=>SmSt smallT smallF smallR b0 b1 b2 b3 b4 b5 b23 b93 base capt c12 c15 At A12 A15 cr 8 Kz w w') ?_ (fun g16 w29 hI=>?_)
 ·have hh:=fun f Q k0 k1 kq=>small_r16 hI f Q k0 k1 kq
  exact hh _ _ (by rfl) (by rfl) (by intro d;cases d <;> exact fun _ _ _ _ h=>h)
 obtain hI:=hI;refine e_S (xK ?_);refine yz [148,149,150,151,152,153,154] (fun g w'=>SmSt smallT smallF smallR b0 b1 b2 b3 b4 b5 b23 b93 base capt c12 c15 At A12 A15 cr 9 K9 w w') ?_ (fun g17 w30 hI=>?_)
 ·have hh:=fun f Q k0 k1 kq=>small_r17 hI f Q k0 k1 kq
  exact hh _ _ (by rfl) (by rfl) (by intro d;cases d <;> exact fun _ _ _ _ h=>h)
 obtain hI:=hI;refine e_S (xK ?_);refine yz [155,156,157,158,159,160,161] (fun g w'=>SmSt smallT smallF smallR b0 b1 b2 b3 b4 b5 b23 b93 base capt c12 c15 At A12 A15 cr 10 V8 w w') ?_ (fun g18 w31 hI=>?_)
 ·have hh:=fun f Q k0 k1 kq=>small_r18 hI f Q k0 k1 kq
  exact hh _ _ (by rfl) (by rfl) (by intro d;cases d <;> exact fun _ _ _ _ h=>h)
 obtain hI:=hI;refine e_S (xK ?_);refine yz [162,163,164,165,166,167,168] (fun g w'=>SmSt smallT smallF smallR b0 b1 b2 b3 b4 b5 b23 b93 base capt c12 c15 At A12 A15 cr 11 V7 w w') ?_ (fun g19 w32 hI=>?_)
 ·have hh:=fun f Q k0 k1 kq=>small_r19 hI f Q k0 k1 kq
  exact hh _ _ (by rfl) (by rfl) (by intro d;cases d <;> exact fun _ _ _ _ h=>h)
 obtain hI:=hI;refine e_S (xK ?_);refine yz [169,170,171,172,173,174,175] (fun g w'=>SmSt smallT smallF smallR b0 b1 b2 b3 b4 b5 b23 b93 base capt c12 c15 At A12 A15 cr 12 V6 w w') ?_ (fun g20 w33 hI=>?_)
 ·have hh:=fun f Q k0 k1 kq=>small_r20 hI f Q k0 k1 kq
  exact hh _ _ (by rfl) (by rfl) (by intro d;cases d <;> exact fun _ _ _ _ h=>h)
 obtain hI:=hI;refine e_S (xK ?_);refine yz [176,177,178,179,180,181,182] (fun g w'=>SmSt smallT smallF smallR b0 b1 b2 b3 b4 b5 b23 b93 base capt c12 c15 At A12 A15 cr 13 V5 w w') ?_ (fun g21 w34 hI=>?_)
 ·have hh:=fun f Q k0 k1 kq=>small_r21 hI f Q k0 k1 kq
  exact hh _ _ (by rfl) (by rfl) (by intro d;cases d <;> exact fun _ _ _ _ h=>h)
 obtain hI:=hI;refine e_S (xK ?_);refine yz [183,184,185,186,187,188,189] (fun g w'=>SmSt smallT smallF smallR b0 b1 b2 b3 b4 b5 b23 b93 base capt c12 c15 At A12 A15 cr 14 V4 w w') ?_ (fun g22 w35 hI=>?_)
 ·have hh:=fun f Q k0 k1 kq=>small_r22 hI f Q k0 k1 kq
  exact hh _ _ (by rfl) (by rfl) (by intro d;cases d <;> exact fun _ _ _ _ h=>h)
 obtain hI:=hI;refine e_S (xK ?_);refine yz [190,191,192,193,194,195,196] (fun g w'=>SmSt smallT smallF smallR b0 b1 b2 b3 b4 b5 b23 b93 base capt c12 c15 At A12 A15 cr 15 V0 w w') ?_ (fun g23 w36 hI=>?_)
 ·have hh:=fun f Q k0 k1 kq=>small_r23 hI f Q k0 k1 kq
  exact hh _ _ (by rfl) (by rfl) (by intro d;cases d <;> exact fun _ _ _ _ h=>h)
 obtain hI:=hI;refine e_S (xK ?_);refine yz [197,198,199,200,201,202,203] (fun g w'=>SmSt smallT smallF smallR b0 b1 b2 b3 b4 b5 b23 b93 base capt c12 c15 At A12 A15 cr 16 YY w w') ?_ (fun g24 w37 hI=>?_)
 ·have hh:=fun f Q k0 k1 kq=>small_r24 hI f Q k0 k1 kq
  exact hh _ _ (by rfl) (by rfl) (by intro d;cases d <;> exact fun _ _ _ _ h=>h)
 obtain hI:=hI;refine e_S (xK ?_);refine yz [204,205,206,207,208,209,210] (fun g w'=>SmSt smallT smallF smallR b0 b1 b2 b3 b4 b5 b23 b93 base capt c12 c15 At A12 A15 cr 17 YW w w') ?_ (fun g25 w38 hI=>?_)
 ·have hh:=fun f Q k0 k1 kq=>small_r25 hI f Q k0 k1 kq
  exact hh _ _ (by rfl) (by rfl) (by intro d;cases d <;> exact fun _ _ _ _ h=>h)
 obtain hI:=hI;refine e_S (xK ?_);refine yz [211,212,213,214,215,216,217,218] (fun g w'=>SmSt smallT smallF smallR b0 b1 b2 b3 b4 b5 b23 b93 base capt c12 c15 At A12 A15 cr 18 YV w w') ?_ (fun g26 w39 hI=>?_)
 ·have hh:=fun f Q k0 k1 kq=>small_r26 hI f Q k0 k1 kq
  exact hh _ _ (by rfl) (by rfl) (by intro d;cases d <;> exact fun _ _ _ _ h=>h)
 obtain hI:=hI;refine e_S (xK ?_);refine yz [219,220,221,222,223,224,225,226,227,228] (fun g w'=>SmSt smallT smallF smallR b0 b1 b2 b3 b4 b5 b23 b93 base capt c12 c15 At A12 A15 cr 19 YK w w') ?_ (fun g27 w40 hI=>?_)
 ·have hh:=fun f Q k0 k1 kq=>small_r27 hI f Q k0 k1 kq
  exact hh _ _ (by rfl) (by rfl) (by intro d;cases d <;> exact fun _ _ _ _ h=>h)
 obtain hI:=hI;refine e_S (xK ?_);refine yz [229,230,231,232,233,234,235,236,237,238,239] (fun g w'=>SmSt smallT smallF smallR b0 b1 b2 b3 b4 b5 b23 b93 base capt c12 c15 At A12 A15 cr 20 YX w w') ?_ (fun g28 w41 hI=>?_)
 ·have hh:=fun f Q k0 k1 k2 kq=>small_r28 hI f Q k0 k1 k2 kq
  exact hh _ _ (by rfl) (by rfl) (by rfl) (by intro d;cases d <;> exact fun _ _ _ _ h=>h)
 obtain hI:=hI;refine e_S (xK ?_);refine yz [240,241,242,243,244,245,246,247,248,249,250] (fun g w'=>SmSt smallT smallF smallR b0 b1 b2 b3 b4 b5 b23 b93 base capt c12 c15 At A12 A15 cr 21 Ev w w') ?_ (fun g29 w42 hI=>?_)
 ·have hh:=fun f Q k0 k1 k2 kq=>small_r29 hI f Q k0 k1 k2 kq
  exact hh _ _ (by rfl) (by rfl) (by rfl) (by intro d;cases d <;> exact fun _ _ _ _ h=>h)
 obtain hI:=hI;refine e_S (xK ?_);obtain⟨hC,A,cap,xs,nL,hb5,ho,hL⟩:=hI;have hB:=hC.bel;have hb0:=hC.k0;have hb93:=hC.k93;have hD:=hC.dt;have lo5:=hC.lo5;obtain⟨o0,_,_,_,_,o9⟩:=hC.o;obtain⟨l5,l9⟩:=hC.l;refine Zq ?_;refine qZ (cs:=#[_]) [(0,.int _ _)] rfl U70 C3 qz dE dE kR rfl (fun b251 w43 hb251 s19 hr=>?_);refine qZ (cs:=#[_]) [(0,.slice _ _ _)] rfl U75 S6 xx dE dE kR rfl (fun b252 w44 hb252 s20 hr=>?_);replace hb251:=hb251.tr0 s20;refine zX TY (oK _ _ [[6]] _ (qV (rs:=[[6]]) hb252 (.cons ⟨_,_,rfl,qk [6] hb251 dE,by decide,by decide⟩ .nil) dE)) rfl (fun e' w45 hr=>?_);obtain⟨⟨Ast,cst,rfl,hSt⟩,s21⟩:=hr;replace s21:=sB s21;refine⟨_,rfl,?_⟩;refine zn1 ?_;replace hb5:=hb5.tr0 (s19.trans (s20.trans s21));refine Rj hb5 rfl rfl Eq (by first | decide | simp) zK rfl (fun w46 hq s22=>?_);replace hD:=hD.tr0 (s19.trans (s20.trans s21));replace hD:=hD.sp1 s22 hb5 (.inl dE);replace ho:=ho.tr0 (s19.trans (s20.trans s21));replace ho:=ho.tr1 s22 (fun g hg=>by have:=(ho.lt g hg).1;(try have:=or_ho_b5 g hg);(try simp only [aL] at hg);(try simp only [List.mem_singleton] at hg);omega);replace hL:=hL.tr0 (s19.trans (s20.trans s21));replace hL:=hL.sp1 s22 hb5 (.inl dE);replace hSt:=hSt.sp1 s22 hb5 (.inl dE);replace hb5:=hq;refine zn5 ?_;replace hb0:=(hb0.tr0 (s19.trans (s20.trans s21))).tr1 s22 om;refine zk hb0 rfl rfl sz32 rfl zK (fun w47 hq s23=>?_);replace hD:=hD.sp1 s23 hb0 (.inl dE);replace ho:=ho.tr1 s23 (fun g hg=>by have:=(ho.lt g hg).1;(try have:=or_ho_b0 g hg);(try simp only [aL] at hg);(try simp only [List.mem_singleton] at hg);omega);replace hL:=hL.sp1 s23 hb0 (.inl dE);replace hSt:=hSt.sp1 s23 hb0 (.inl dE);replace hb0:=hq;refine zn3 ?_;refine xX (.inl rfl) rfl (zw U32 rfl rfl hb0.range0 sz32) ?_;have hsb:∀ t ∈ [49],t ∈ TS:=by decide
 have hfin:=((hD.sub hsb).and ((((ho.fz (ts:=[49]) (M8 dE dE dE)).and (hL.sub hsb)).imp (fun _ h=>gof_lexes h.1 h.2)).and (hSt.sub hsb))).imp (Q:=fun w=>TypesIn w At smallT∧FeatsIn w (some ⟨b23,0,none⟩) smallF∧RlCs w smallR cr.toList∧LexesIn w A smallX∧NodesIn w Ast smallS) (fun _ h=>⟨h.1.1,h.1.2.1,h.1.2.2,h.2.1,h.2.2⟩);replace hB:=((hB.tr0 (s19.trans (s20.trans s21))).tr1 s22 lo5).tr1 s23 lo0;replace hb93:=((hb93.tr0 (s19.trans (s20.trans s21))).tr1 s22 om).tr1 s23 om;exact⟨⟨_,rfl,At,capt,some ⟨b23,0,none⟩,5,b93,cr,A,cap,Ast,cst,_,rfl,hC.lo93,hb93,hfin⟩,hB⟩
end Go.Proofs.YtdgnllfbooklcaaDoor
namespace Go.Proofs.YtdgnllfbooklcaaDoor
open Go.RowKit
theorem F8:gramB smallT smallF smallRs smallXs smallS=true:=by decide +kernel
theorem small_ok:qy smallT smallF smallR smallX smallS=(0,0):=gram_ok F8
end Go.Proofs.YtdgnllfbooklcaaDoor
namespace Go.Proofs.YtdgnllfbooklcaaDoor
open Go.RowKit
theorem gr_lexv {l:List Ty} {fs:List Ft} {rs:List Rl} {xs:List Lx} {st:List Nd} (h:(qy l fs rs xs st).1=0) {i:Nat} (hi:i < xs.length):(xj l fs (xs[i]).gr).1=0:=by
  have h1:(qj l fs).1=0:=by
    refine Classical.byContradiction (fun e=>?_);rw [J2 e] at h;exact e h
  have h2:¬fs.length≤3:=fun e=>by rw [O7 h1 e] at h;cases h
  have h3:¬(40 < rs.length∨100 < xs.length):=fun e=>by rw [I5 h1 h2 e] at h;cases h
  have h4:(qv (jq l fs rs) 0 rs.length).1=0:=by
    refine Classical.byContradiction (fun e=>?_);rw [Y5 (c:=(qv (jq l fs rs) 0 rs.length).1) (i:=(qv (jq l fs rs) 0 rs.length).2) h1 h2 h3 rfl e] at h;exact e h
  have h5:(qv (J4 l fs xs) 0 xs.length).1=0:=by
    refine Classical.byContradiction (fun e=>?_);rw [W7 (c:=(qv (J4 l fs xs) 0 xs.length).1) (i:=(qv (J4 l fs xs) 0 xs.length).2) h1 h2 h3 (My _ _ h4) rfl e] at h;exact e h
  have q5:=oW _ _ h5 i (Nat.zero_le _) om;rw [lnF hi] at q5;have q6:u9 (xs[i]).word=true:=by
    cases e:u9 (xs[i]).word with
    | true=>rfl
    | false=>rw [CJ e] at q5;cases q5
  have q7:¬J9 xs[i]:=fun e=>by rw [FY q6 e] at q5;cases q5
  exact Classical.byContradiction (fun e=>by rw [lx_gr q6 q7 e] at q5;exact e q5)
theorem gr_h0 {l:List Ty} {fs:List Ft} {rs:List Rl} {xs:List Lx} {st:List Nd} (h:(qy l fs rs xs st).1=0):(qj l fs).1=0:=by
  refine Classical.byContradiction (fun e=>?_);rw [J2 e] at h;exact e h
theorem comb_ok {l:List Ty} {fs:List Ft} {rs:List Rl} {xs:List Lx} {st:List Nd} {ri:Int} {ks:List (List Nd)} {ok:Bool} {Y:List Nd} (h:CombS l fs rs xs st ri ks ok Y) (h0:Iq l fs rs xs st ri ks=(0,0)):QJ l (grR rs ri) 0 ks ok Y:=by
  rcases h with ⟨a,_⟩ | ⟨_,a⟩
  · rw [h0] at a;exact absurd rfl a
  · exact a
end Go.Proofs.YtdgnllfbooklcaaDoor
namespace Go.Proofs.YtdgnllfbooklcaaDoor
open Go.RowKit
section mn
variable {l:List Ty} {fs:List Ft} {rs:List Rl} {xs:List Lx} {st:List Nd} {ri:Int} {ks:List (List Nd)}
theorem gr_one (h:(qy l fs rs xs st).1=0) {i:Nat} (hi:i < rs.length):1≤(rs[i]).kids∧(rs[i]).kids≤3:=by
  have h1:(qj l fs).1=0:=by
    refine Classical.byContradiction (fun e=>?_);rw [J2 e] at h;exact e h
  have h2:¬fs.length≤3:=fun e=>by rw [O7 h1 e] at h;cases h
  have h3:¬(40 < rs.length∨100 < xs.length):=fun e=>by rw [I5 h1 h2 e] at h;cases h
  have h4:(qv (jq l fs rs) 0 rs.length).1=0:=by
    refine Classical.byContradiction (fun e=>?_);rw [Y5 (c:=(qv (jq l fs rs) 0 rs.length).1) (i:=(qv (jq l fs rs) 0 rs.length).2) h1 h2 h3 rfl e] at h;exact e h
  have q5:=oW _ _ h4 i (Nat.zero_le _) om;have q6:y8 (rs[i]).name=true:=by
    cases e:y8 (rs[i]).name with
    | true=>rfl
    | false=>rw [rn10 hi e] at q5;cases q5
  have q7:uy ((rs.take i).map (·.name)) (rs[i]).name=false:=by
    cases e:uy ((rs.take i).map (·.name)) (rs[i]).name with
    | false=>rfl
    | true=>rw [rn7 hi q6 e] at q5;cases q5
  rw [rnF hi q6 q7] at q5;have q8:¬Q4 rs[i]:=fun e=>by rw [Cv e] at q5;cases q5
  unfold Q4 at q8;omega
end mn
def IsG (w:World) (L:List (List Nd)) (j:Nat) (v:Value):Prop:=∃ A c,v= .slice A (L.getD j []).length c∧NodesIn w A (L.getD j [])
theorem grs_own {w:World} {base n c:Nat} {A:Option Addr} {L:List (List Nd)} {vs:List Value} (h:Own w base 30 1 A n c vs) (hn:n=L.length) (hm:n≤1000000) (hv:∀ (j:Nat) (v:Value),vs[j]? =some v→IsG w L j v):GrsIn w A L:=by
  subst hn;refine⟨by unfold vz;omega,fun hne=>?_⟩;obtain⟨g,cur,rfl,_,hb,hsz,hrd,_⟩:=h.open_ (List.length_pos_iff.2 hne);refine⟨g,0,rfl,hb.lt,fun k hk=>?_⟩;have hl:vs.length=L.length:=by have:=h.1;omega
  obtain⟨A',c',e,hN⟩:=hv k (vs[k]'om) (List.getElem?_eq_getElem _);have e2:L.getD k []=L[k]:=by simp [List.getD,hk]
  rw [e2] at e hN;refine⟨A',c',hb.range (fun j v hj=>?_),hN⟩
  match j,hj with
  | 0,hj=>
    cases hj;rw [show 0 + k * 1 + 0=k by omega,hrd k om,List.getElem?_eq_getElem om,e]
end Go.Proofs.YtdgnllfbooklcaaDoor
namespace Go.Proofs.YtdgnllfbooklcaaDoor
open Go.RowKit
def KG (S:List Nat) (N:Nat) (Ys:List (List Nd)) (w:World) (vs:List Value):Prop:=N≤w.heap.size∧vs.length=Ys.length∧∀ i v,vs[i]? =some v→∃ A c lz hz,v= .slice A (Ys.getD i []).length c∧Kept lz hz w (fun wq=>NodesIn wq A (Ys.getD i []))∧hz≤N∧∀ g ∈ S,g < lz∨hz≤g
theorem KG.nil {S:List Nat} {w:World}:KG S w.heap.size [] w []:=⟨Nat.le_refl _,rfl,fun i v h=>by simp at h⟩
theorem KG.tr {S X:List Nat} {N:Nat} {Ys:List (List Nd)} {w w':World} {vs:List Value} (h:KG S N Ys w vs) (hs:Same X w w') (hX:∀ g ∈ X,g ∈ S∨N≤g):KG S N Ys w' vs:=
  ⟨nLT h.1 hs.size,h.2.1,fun i v hv=>by
    obtain⟨A,c,lz,hz,e,hk,hn,hg⟩:=h.2.2 i v hv
    exact⟨A,c,lz,hz,e,hk.tr hs (fun g hx=>by
      rcases hX g hx with h1 | h1
      · exact hg g h1
      · exact .inr (nLT hn h1)),hn,hg⟩⟩
theorem KG.tr0 {S:List Nat} {N:Nat} {Ys:List (List Nd)} {w w':World} {vs:List Value} (h:KG S N Ys w vs) (hs:Same [] w w'):KG S N Ys w' vs:=h.tr hs (by simp)
theorem KG.tr1 {S:List Nat} {N b:Nat} {Ys:List (List Nd)} {w w':World} {vs:List Value} (h:KG S N Ys w vs) (hs:Same [b] w w') (hb:N≤b):KG S N Ys w' vs:=h.tr hs (fun g hg=> .inr (by rw [List.mem_singleton.1 hg];exact hb))
theorem KG.snoc {S S':List Nat} {N lz hz c:Nat} {Ys:List (List Nd)} {w:World} {vs:List Value} {A:Option Addr} {Y:List Nd} (h:KG S N Ys w vs) (hg:∀ g ∈ S',g ∈ S∨N≤g) (hk:Kept lz hz w (fun wq=>NodesIn wq A Y)) (hgz:∀ g ∈ S',g < lz∨hz≤g):KG S' w.heap.size (Ys ++ [Y]) w (vs ++ [.slice A Y.length c]):=by
  refine⟨Nat.le_refl _,by rw [List.length_append,List.length_append,h.2.1];rfl,fun i v hv=>?_⟩;by_cases e:i < vs.length
  · rw [List.getElem?_append_left e] at hv
    obtain⟨A',c',lz',hz',e',hk',hn',hg'⟩:=h.2.2 i v hv;have e2:(Ys ++ [Y]).getD i []=Ys.getD i []:=by
      unfold List.getD;rw [List.getElem?_append_left (by rw [← h.2.1];exact e)]
    refine⟨A',c',lz',hz',by rw [e2];exact e',by rw [e2];exact hk',nLT hn' h.1,fun x hx=>?_⟩;rcases hg x hx with h1 | h1
    · exact hg' x h1
    · exact .inr (nLT hn' h1)
  · have h5:=(List.getElem?_eq_some_iff.1 hv).1
    rw [List.length_append,List.length_singleton] at h5;have e3:i=vs.length:=by omega
    subst e3;rw [List.getElem?_append_right (Nat.le_refl _),Nat.sub_self] at hv;cases hv;have e2:(Ys ++ [Y]).getD vs.length []=Y:=by
      unfold List.getD;rw [h.2.1,List.getElem?_append_right (Nat.le_refl _),Nat.sub_self];rfl
    exact⟨A,c,lz,hz,by rw [e2],by rw [e2];exact hk,hk.1,hgz⟩
theorem KG.sub {S S':List Nat} {N:Nat} {Ys:List (List Nd)} {w:World} {vs:List Value} (h:KG S N Ys w vs) (hg:∀ g ∈ S',g ∈ S∨N≤g):KG S' N Ys w vs:=
  ⟨h.1,h.2.1,fun i v hv=>by
    obtain⟨A,c,lz,hz,e,hk,hn,h1⟩:=h.2.2 i v hv
    exact⟨A,c,lz,hz,e,hk,hn,fun x hx=>(hg x hx).elim (h1 x) (fun h2=> .inr (nLT hn h2))⟩⟩
theorem KG.grs {S:List Nat} {N base cap:Nat} {KA:Option Addr} {Ys:List (List Nd)} {w:World} {vs:List Value} (h:KG S N Ys w vs) (ho:Own w base 30 1 KA vs.length cap vs) (hm:vs.length≤1000000):GrsIn w KA Ys:=
  grs_own ho h.2.1 hm (fun j v hj=>by
    obtain⟨A,c,lz,hz,e,hk,_,_⟩:=h.2.2 j v hj
    exact⟨A,c,e,hk.now⟩)
theorem fn41:zZ Tryd.prog 41=true:=by kernel_rfl
theorem TZ:(Tryd.prog.info? 30).map (fun i=>(i.zero,i.size,i.bytes))=some (some (.agg #[.slice none 0 0]),1,24):=by kernel_rfl
theorem sz56_YGo:(Tryd.prog.info? 56).map (·.size)=some 3:=by kernel_rfl
theorem ze56_YGo:(Tryd.prog.info? 56).map (·.zero)=some (some (.agg #[.int .i64 0,.int .i64 0,.slice none 0 0])):=by kernel_rfl
set_option maxRecDepth 100000 in
set_option maxHeartbeats 4000000 in
theorem gof_step {AT AF AR AX AS:Option Addr} {ct cf cr cx cst:Nat} {l:List Ty} {fs:List Ft} {rs:List Rl} {xs:List Lx} {st:List Nd} {bu bd:Nat} (H:Nv l fs rs xs) {t:Dt} {A:Option Addr} {c:Nat} {w:World} (IH:∀ x ∈ t.kids,∀ (A2:Option Addr) (c2:Nat) (wy:World),TabIn wy→TableIn wy l bu bd→RulesIn wy AR rs→LexesIn wy AX xs→TresIn wy A2 x.kids→OkT rs xs.length x→Calls Tryd.prog 41 #[.agg #[.slice AT l.length ct,.slice AF fs.length cf,.slice AR rs.length cr,.slice AX xs.length cx,.slice AS st.length cst],.agg #[.slice (some ⟨bu,0,none⟩) l.length l.length,.slice (some ⟨bd,0,none⟩) l.length l.length],.agg #[.int .i64 (x).rule,.int .i64 (x).lex,.slice A2 (x).kids.length c2]] wy fun e w'=>(∃ A X ok c,e= .returned (.tuple #[.agg #[.slice A (List.length X) c],.bool ok])∧(∀ w2,FrSame wy.heap.size w' w2→NodesIn w2 A X)∧TgR l rs xs x ok X)∧Bel wy w') (hTab:TabIn w) (hTI:TableIn w l bu bd) (hRu:RulesIn w AR rs) (hLx:LexesIn w AX xs) (hT:TresIn w A t.kids) (hok:OkT rs xs.length t):Calls Tryd.prog 41 #[.agg #[.slice AT l.length ct,.slice AF fs.length cf,.slice AR rs.length cr,.slice AX xs.length cx,.slice AS st.length cst],.agg #[.slice (some ⟨bu,0,none⟩) l.length l.length,.slice (some ⟨bd,0,none⟩) l.length l.length],.agg #[.int .i64 (t).rule,.int .i64 (t).lex,.slice A (t).kids.length c]] w fun e w'=>(∃ A X ok c,e= .returned (.tuple #[.agg #[.slice A (List.length X) c],.bool ok])∧(∀ w2,FrSame w.heap.size w' w2→NodesIn w2 A X)∧TgR l rs xs t ok X)∧Bel w w':=by
 have hmx:=hT.le;unfold vz at hmx;obtain⟨hk1,hk2⟩:=hok.at_;have hrx:=hRu.1;have hxx:=hLx.1;unfold vz at hrx hxx;refine enter Tryd.func41 Tryd.ntmps41 rfl (Nat.le_of_ble_eq_true rfl) ?_;have hB:Bel w w:=Below.refl _ _;refine zn2 ?_;refine xz (v:= .agg #[_,_,_,_,_]) (cs:=#[_,_,_,_,_]) rfl rfl (fun b3 w1 hb3 s1 hr=>?_);refine xz (v:= .agg #[_,_]) (cs:=#[_,_]) rfl rfl (fun b4 w2 hb4 s2 hr=>?_);refine xz (v:= .agg #[_,_,_]) (cs:=#[_,_,_]) rfl rfl (fun b5 w3 hb5 s3 hr=>?_);refine qw (cs:=#[.slice none 0 0]) E1 rfl (fun b6 w4 hb6 s4 hr=>?_);replace hb3:=hb3.tr0 (s2.trans s3);have:=nLL hb3.lt hr;replace hb4:=hb4.tr0 s3;have:=nLL hb4.lt hr;have:=nLL hb5.lt hr;replace hB:=hB.tr0 (s1.trans (s2.trans s3));have lo6:=nLT (Bel.size hB) hr;refine gj ?_;replace hB:=hB.tr0 s4;replace hb5:=hb5.tr0 s4;refine zJ rfl (fun c15=>?_) (fun c15=>?_)
 ·obtain⟨_,q1,q2,_⟩:=KY hk1 c15;obtain⟨xi,hxi⟩:=Int.eq_ofNat_of_zero_le q1;have hxil:xi < xs.length:=by omega
  obtain⟨xb,xo,Gk,cgk,Sk,csk,Bk,mk,rfl,hxb,_,hxr,hGx,_,_⟩:=hLx.at_ hB hxil;have hv:=H.lx xi hxil;have hlg:=L5 hxil hxi;refine zn5 ?_;refine wl (qK (v:= .int .i64 ((xi:Nat):Int)) U3 rfl rfl (by rw [← hxi];exact hb5.cell rfl)) (zn2 ?_);refine wl (qW U30 rfl rfl (show World.rangeAt _ xb _ [.slice Gk (xs[xi]).gr.length cgk] from fun j v hj=>by match j,hj with | 0,hj=>cases hj;exact hxr 1 _ rfl | _ + 1,hj=>cases hj) Z8) ?_;have z6:=hb6.lt;have hszV:=Bel.size hB;refine zX fn61 (Mw Gk cgk fs.length (xs[xi]).gr 0 _ (hGx.mono hB) hv.gok.two (by have:=hv.few;omega) hv.gx.pos) rfl (fun e' w5 hr=>?_);obtain⟨⟨oL,AL,hdL,_,rfl,hNL⟩,s5⟩:=hr;replace s5:=sB s5;have hKL:=jQ hNL;refine⟨_,rfl,?_⟩;replace hb6:=hb6.tr0 s5;refine zk hb6 rfl rfl Z8 rfl zK (fun w6 hq s6=>?_);replace hb6:=hq;refine zn5 ?_;refine ZK (.inl rfl) rfl (zw U30 rfl rfl hb6.range0 Z8) rfl ?_;replace hB:=(hB.tr0 s5).tr1 s6 lo6;replace hKL:=hKL.tr1 s6 om;exact⟨⟨AL,y5 (xs[xi]).gr oL,true,_,by rw [ux];rfl,QZ hKL hszV,(E7 c15).2 ⟨rfl,oL,by rw [hlg];exact hdL,by rw [hlg]⟩⟩,hB⟩
 obtain⟨q1,_,q2⟩:=KW hk1 c15;obtain⟨ri,hri⟩:=Int.eq_ofNat_of_zero_le (Int.not_lt.1 c15);have hril:ri < rs.length:=by omega
 obtain⟨hJ,hk0,hk3⟩:=H.rl ri hril;rw [CW hril hri] at q2;have hgr:=Cy hril hri;refine Bx ?_;replace hb3:=hb3.tr0 s4;replace hb4:=hb4.tr0 s4;refine qJ [7,8,10,11,12,27,28,29,30,31,32,33,34,35,36,37,38,39,40,41,42,43,44,45] (fun m g w'=>∃ (j:Nat) (Ys:List (List Nd)) (KA:Option Addr) (cap:Nat) (vs:List Value),j≤t.kids.length∧m=t.kids.length - j∧g 27= .int .i64 j∧g 8= .slice KA vs.length cap∧vs.length=j∧gW l rs xs (t.kids.take j) Ys∧Bel w w'∧Blk w' b3 32 #[.slice AT l.length ct,.slice AF fs.length cf,.slice AR rs.length cr,.slice AX xs.length cx,.slice AS st.length cst]∧Blk w' b4 86 #[.slice (some ⟨bu,0,none⟩) l.length l.length,.slice (some ⟨bd,0,none⟩) l.length l.length]∧Blk w' b5 56 #[.int .i64 t.rule,.int .i64 t.lex,.slice A t.kids.length c]∧Blk w' b6 30 #[.slice none 0 0]∧Own w' (b6 + 1) 30 1 KA vs.length cap vs∧KG (aL KA) w'.heap.size Ys w' vs) (t.kids.length) ?_ (fun m g5 w7 hI=>?_)
 ·exact⟨0,[],none,0,[],Nat.zero_le _,rfl,rfl,rfl,rfl,(by rw [List.take_zero,gW]),hB,hb3,hb4,hb5,hb6,Own.nil _ _ _ _,KG.nil⟩
 obtain⟨j,Ys,KA,cap,vs,hj,hm,h27,h8,hlv,hTs,hB,hb3,hb4,hb5,hb6,ho,hK⟩:=hI;refine zQ 27 _ h27 nu (zQ 8 _ h8 nu (zn6 ?_));refine zJ rfl (fun c28=>?_) (fun c28=>?_)
 ·have hjl:j < t.kids.length:=by omega
  obtain⟨sb,so,A',c',rfl,hsb,hsr,hs2⟩:=hT.at_ hjl;obtain⟨N,hK⟩:∃ N,KG (aL KA) N Ys _ vs:=⟨_,hK⟩
  have hmem:=List.getElem_mem hjl;refine zn8 ?_;refine yj (cs:=#[.int .i64 0,.int .i64 0,.slice none 0 0]) ze56_YGo rfl (fun _=>rfl) (fun _=>rfl) sz56_YGo rfl zK (fun b10 w9 hb10 s7 hr=>?_);have or_ho_b10:=fun g hg=>nLL (ho.lt g hg).2 hr
  refine zn7 ?_;replace hb6:=hb6.tr0 s7;have z6:=hb6.lt;have z10:=hb10.lt;replace ho:=ho.tr0 s7;have hzo:=fun g hg=>(ho.lt g hg).2
  replace hB:=hB.tr0 s7;refine zX fn41 (IH _ hmem A' c' _ (hTab.mono hB) (hTI.mono hB) (hRu.mono hB) (hLx.mono hB) (hs2.mono hB) (hk2 _ hmem)) rfl (fun e' w10 hr=>?_);obtain⟨⟨AX2,X,okX,cX,rfl,hNX,hGX⟩,s8⟩:=hr;replace s8:=sB s8;have hKX:=jQ hNX;refine⟨_,rfl,?_⟩;refine wmT rfl (wl (yk (v:=_) rfl rfl) (wl (yk (v:=_) rfl rfl) ?_));refine yj (cs:=#[.slice none 0 0]) E1 rfl (fun _=>rfl) (fun _=>rfl) Z8 rfl zK (fun b11 w12 hb11 s9 hr=>?_);replace ho:=ho.tr0 s8;have or_ho_b11:=fun g hg=>nLL (ho.lt g hg).2 hr
  refine jy ?_;replace hB:=hB.tr0 (s8.trans s9);replace hb6:=hb6.tr0 (s8.trans s9);refine kv rfl (fun c39=>?_) (fun c39=>?_)
  ·obtain rfl:okX=false:=by simpa using c39
   obtain rfl:=tg_no hGX;refine zn2 ?_;refine wl (uJ (vs:=#[]) (cs:=#[.slice none 0 0]) (by simp) kR) ?_;refine zk hb6 rfl rfl Z8 rfl zK (fun w13 hq s10=>?_);replace hb6:=hq;refine jy ?_;refine ZK (.inl rfl) rfl (zw U30 rfl rfl hb6.range0 Z8) rfl ?_;replace hB:=hB.tr1 s10 lo6;exact⟨⟨none,[],false,0,rfl,fun w2 _=>oX w2 none,(Xy c15).2 (.inr ⟨tgB_iff.2 ⟨_,hmem,hGX⟩,rfl,rfl⟩)⟩,hB⟩
  obtain rfl:okX=true:=by simpa using c39
  refine zn5 ?_;refine qZ (cs:=#[_]) [(0,.agg _)] rfl U33 Z8 E1 dE dE kR rfl (fun b43 w14 hb43 s11 hr=>?_);replace hb3:=hb3.tr0 (s7.trans (s8.trans s9));have:=nLL hb3.lt hr;replace hb4:=hb4.tr0 (s7.trans (s8.trans s9));have:=nLL hb4.lt hr;replace hb5:=hb5.tr0 (s7.trans (s8.trans s9));have:=nLL hb5.lt hr;have:=nLL hb6.lt hr;replace hK:=hK.tr0 (s7.trans (s8.trans (s9.trans s11)));have hN14:=hK.1;replace hKX:=hKX.tr0 (s9.trans s11);have hX14:=hKX.1;replace ho:=ho.tr0 (s9.trans s11);replace hb6:=hb6.tr0 s11;refine j9 U33 TZ rfl dE ho hb43 rfl rfl rfl zK dE om (by have:=q2;omega) hb6.lt (fun g44 cap44 w15 ho44 s12 hg=>?_);replace hb3:=hb3.tr0 s11;replace hb4:=hb4.tr0 s11;replace hb5:=hb5.tr0 s11;have ne_ho44_b3:g44≠b3:=fun e=>by
   have hl:=hb3.lt;rcases hg with hg | hg
   · have h1:=ho.lt g44 (by rw [hg];exact List.mem_singleton.2 rfl)
     (try have:=or_ho_b3 g44 (by rw [hg];exact List.mem_singleton.2 rfl));omega
   · omega
  have ne_ho44_b4:g44≠b4:=fun e=>by
   have hl:=hb4.lt;rcases hg with hg | hg
   · have h1:=ho.lt g44 (by rw [hg];exact List.mem_singleton.2 rfl)
     (try have:=or_ho_b4 g44 (by rw [hg];exact List.mem_singleton.2 rfl));omega
   · omega
  have ne_ho44_b5:g44≠b5:=fun e=>by
   have hl:=hb5.lt;rcases hg with hg | hg
   · have h1:=ho.lt g44 (by rw [hg];exact List.mem_singleton.2 rfl)
     (try have:=or_ho_b5 g44 (by rw [hg];exact List.mem_singleton.2 rfl));omega
   · omega
  have ne_ho44_b6:g44≠b6:=fun e=>by
   have hl:=hb6.lt;rcases hg with hg | hg
   · have h1:=ho.lt g44 (by rw [hg];exact List.mem_singleton.2 rfl)
     (try have:=or_ho_b6 g44 (by rw [hg];exact List.mem_singleton.2 rfl));omega
   · omega
  have ne_ho44_b10:g44≠b10:=fun e=>by
   replace hb10:=hb10.tr0 (s8.trans (s9.trans s11));have hl:=hb10.lt;rcases hg with hg | hg
   · have h1:=ho.lt g44 (by rw [hg];exact List.mem_singleton.2 rfl)
     (try have:=or_ho_b10 g44 (by rw [hg];exact List.mem_singleton.2 rfl));omega
   · omega
  have ne_ho44_b11:g44≠b11:=fun e=>by
   replace hb11:=hb11.tr0 s11;have hl:=hb11.lt;rcases hg with hg | hg
   · have h1:=ho.lt g44 (by rw [hg];exact List.mem_singleton.2 rfl)
     (try have:=or_ho_b11 g44 (by rw [hg];exact List.mem_singleton.2 rfl));omega
   · omega
  replace hB:=hB.tr0 s11;replace hB:=hB.tr s12 (fun g hg=>nLT (Nat.le_succ_of_le lo6) (ho.lt g hg).1);replace hb3:=hb3.tr s12 (fun hx=>by have:=(ho.lt _ hx).1;(try have:=or_ho_b3 _ hx);omega);replace hb4:=hb4.tr s12 (fun hx=>by have:=(ho.lt _ hx).1;(try have:=or_ho_b4 _ hx);omega);replace hb5:=hb5.tr s12 (fun hx=>by have:=(ho.lt _ hx).1;(try have:=or_ho_b5 _ hx);omega);replace hb6:=hb6.tr s12 (fun hx=>by have:=(ho.lt _ hx).1;(try have:=or_ho_b6 _ hx);omega);replace hK:=hK.tr s12 (fun g hg=> .inl hg);replace hKX:=hKX.tr s12 (fun g hg=> .inl (hzo g hg));refine zn8 ?_;refine yq (t.kids.length - (j + 1)) om agA ?_;exact⟨j + 1,_,some ⟨g44,0,none⟩,cap44,vs ++ [Value.slice AX2 (List.length X) cX],by omega,rfl,rfl,(by rw [List.length_append];rfl),(by rw [List.length_append,hlv];rfl),(by rw [oZ _ hjl];exact E6 hTs hGX),hB,hb3,hb4,hb5,hb6,(by rw [List.length_append];exact ho44),hK.snoc (fun x hx=>by cases List.mem_singleton.1 hx;exact hg.imp (fun e=>by rw [e];exact List.mem_singleton.2 rfl) (nLT hN14)) hKX (fun x hx=>by cases List.mem_singleton.1 hx;exact hg.elim (fun e=> .inl (hzo g44 (by rw [e];exact List.mem_singleton.2 rfl))) (fun h=> .inr (nLT hX14 h)))⟩
 have hje:j=t.kids.length:=by omega
 rw [hje,List.take_length] at hTs;refine jy ?_;refine wl (qK (v:= .int .i64 ((ri:Nat):Int)) U3 rfl rfl (by rw [← hri];exact hb5.cell rfl)) (wl (x5 (v:= .slice KA Ys.length cap) (congrArg (fun n=>Value.slice KA n cap) hK.2.1)) ?_);have z6:=hb6.lt;have hszV:=Bel.size hB;have hGs:=hK.grs ho om;refine zX fn31 (Tk AT AF AR AX AS ct cf cr cx cst l fs rs xs st (ri:=ri) (kc:=cap) (KA:=KA) (ks:=Ys) _ (hTab.mono hB) (hTI.mono hB) (hRu.mono hB) hril hJ hGs (tgs_gv H hk2 hTs) (by rw [K1 hTs];exact q2)) rfl (fun e' w16 hr=>?_);obtain⟨⟨AZ,Z,okZ,cZ,rfl,hNZ,hJZ⟩,s13⟩:=hr;replace s13:=sB s13;have hKZ:=jQ hNZ;refine⟨_,rfl,?_⟩;refine wl (yk (v:=_) rfl rfl) (wl (yk (v:=_) rfl rfl) ?_);replace hb6:=hb6.tr0 s13;refine zk hb6 rfl rfl Z8 rfl zK (fun w17 hq s14=>?_);replace hb6:=hq;refine zn4 ?_;refine ZK (.inl rfl) rfl (zw U30 rfl rfl hb6.range0 Z8) rfl ?_;replace hB:=(hB.tr0 s13).tr1 s14 lo6;replace hKZ:=hKZ.tr1 s14 om;exact⟨⟨AZ,Z,okZ,cZ,rfl,QZ hKZ hszV,(Xy c15).2 (.inl ⟨Ys,hTs,by rw [hgr];exact hJZ⟩)⟩,hB⟩
theorem gof_anyK {AT AF AR AX AS:Option Addr} {ct cf cr cx cst:Nat} {l:List Ty} {fs:List Ft} {rs:List Rl} {xs:List Lx} {st:List Nd} {bu bd:Nat} (H:Nv l fs rs xs):∀ (k:Nat) (t:Dt),SizeOf.sizeOf t < k→∀ (A:Option Addr) (c:Nat) (w:World),TabIn w→TableIn w l bu bd→RulesIn w AR rs→LexesIn w AX xs→TresIn w A t.kids→OkT rs xs.length t→Calls Tryd.prog 41 #[.agg #[.slice AT l.length ct,.slice AF fs.length cf,.slice AR rs.length cr,.slice AX xs.length cx,.slice AS st.length cst],.agg #[.slice (some ⟨bu,0,none⟩) l.length l.length,.slice (some ⟨bd,0,none⟩) l.length l.length],.agg #[.int .i64 (t).rule,.int .i64 (t).lex,.slice A (t).kids.length c]] w fun e w'=>(∃ A X ok c,e= .returned (.tuple #[.agg #[.slice A (List.length X) c],.bool ok])∧(∀ w2,FrSame w.heap.size w' w2→NodesIn w2 A X)∧TgR l rs xs t ok X)∧Bel w w':=by
  intro k
  induction k with
  | zero=>intro t h;omega
  | succ k ih=>
    intro t h A c w h1 h2 h3 h4 h5 h6;refine gof_step H (fun x hx A2 c2 w2 k1 k2 k3 k4 k5 k6=>ih x ?_ A2 c2 w2 k1 k2 k3 k4 k5 k6) h1 h2 h3 h4 h5 h6;have:=List.sizeOf_lt_of_mem hx;cases t with
    | mk r x ks=>simp only [Dt.mk.sizeOf_spec,Dt.kids] at h this;omega
theorem gof_any {AT AF AR AX AS:Option Addr} {ct cf cr cx cst:Nat} {l:List Ty} {fs:List Ft} {rs:List Rl} {xs:List Lx} {st:List Nd} {bu bd:Nat} (H:Nv l fs rs xs)  (t:Dt) (A:Option Addr) (c:Nat) (w:World):TabIn w→TableIn w l bu bd→RulesIn w AR rs→LexesIn w AX xs→TresIn w A t.kids→OkT rs xs.length t→Calls Tryd.prog 41 #[.agg #[.slice AT l.length ct,.slice AF fs.length cf,.slice AR rs.length cr,.slice AX xs.length cx,.slice AS st.length cst],.agg #[.slice (some ⟨bu,0,none⟩) l.length l.length,.slice (some ⟨bd,0,none⟩) l.length l.length],.agg #[.int .i64 (t).rule,.int .i64 (t).lex,.slice A (t).kids.length c]] w fun e w'=>(∃ A X ok c,e= .returned (.tuple #[.agg #[.slice A (List.length X) c],.bool ok])∧(∀ w2,FrSame w.heap.size w' w2→NodesIn w2 A X)∧TgR l rs xs t ok X)∧Bel w w':=gof_anyK H (SizeOf.sizeOf t + 1) t (Nat.lt_succ_self _) A c w
end Go.Proofs.YtdgnllfbooklcaaDoor
