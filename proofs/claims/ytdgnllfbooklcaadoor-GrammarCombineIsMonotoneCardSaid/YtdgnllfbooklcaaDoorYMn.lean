/- What these functions of the program compute, at every world: glosswright/glosswrightequal.Small. What these functions of the program compute, at every world: . What these functions of the program compute, at every world: . What these functions of the program compute, at every world: . What a rule makes of daughters that say more says more. No program in sight. What these functions of the program compute, at every world: . -/
import Derived.Test.YtdgnllfbooklcaaDoorU
import Derived.Test.YtdgnllfbooklcaaDoorName
import Derived.Test.YtdgnllfbooklcaaDoorDSmC
import Derived.Test.YtdgnllfbooklcaaDoorDGo
import Derived.Test.YtdgnllfbooklcaaDoorUAll
import Derived.Test.YtdgnllfbooklcaaDoorEng5
import Derived.Test.YtdgnllfbooklcaaDoorGro
import Derived.Test.YtdgnllfbooklcaaDoorOrd
namespace Go.Proofs.YtdgnllfbooklcaaDoor
open Go.RowKit
theorem fn18:zZ Tryd.prog 18=true:=by kernel_rfl
theorem fn19:zZ Tryd.prog 19=true:=by kernel_rfl
theorem sz32:(Tryd.prog.info? 32).map (·.size)=some 5:=by kernel_rfl
theorem sz72_DSm:(Tryd.prog.info? 72).map (·.size)=some 3:=by kernel_rfl
theorem ze32:(Tryd.prog.info? 32).map (·.zero)=some (some (.agg #[.slice none 0 0,.slice none 0 0,.slice none 0 0,.slice none 0 0,.slice none 0 0])):=by kernel_rfl
theorem ze72_DSm:(Tryd.prog.info? 72).map (·.zero)=some (some (.agg #[.string ⟨#[]⟩,.int .i64 0,.int .i64 0])):=by kernel_rfl
theorem ze9:(Tryd.prog.info? 9).map (·.zero)=some (some (.string ⟨#[]⟩)):=by kernel_rfl
set_option maxHeartbeats 8000000 in
theorem small_d (w:World):Calls Tryd.prog 5 #[] w fun e w'=>(∃ v,e= .returned v∧GmD smallT smallF smallR smallX smallS w w' v)∧Bel w w':=by
 refine enter Tryd.func5 Tryd.ntmps5 rfl (Nat.le_of_ble_eq_true rfl) ?_;have hB:Bel w w:=Below.refl _ _;refine zn2 ?_;refine qV (cs:=#[.slice none 0 0,.slice none 0 0,.slice none 0 0,.slice none 0 0,.slice none 0 0]) ze32 rfl (fun b0 w1 hb0 s1 hr=>?_);have lo0:=nLT (Bel.size hB) hr;refine zn4 ?_;refine qz R4 (Z5 _ _) rfl (fun e' w2 hr=>?_);obtain⟨rfl,s2⟩:=hr;replace s2:=sB s2;refine⟨_,rfl,?_⟩;refine qz R4 (Z5 _ _) rfl (fun e' w3 hr=>?_);obtain⟨rfl,s3⟩:=hr;replace s3:=sB s3;refine⟨_,rfl,?_⟩;refine qV (cs:=#[.string ⟨#[]⟩,.slice none 0 0]) vZ rfl (fun b1 w4 hb1 s4 hr=>?_);replace hb0:=hb0.tr0 (s2.trans s3);have:=nLL hb0.lt hr;replace hB:=hB.tr0 (s1.trans (s2.trans s3));have lo1:=nLT (Bel.size hB) hr;refine qV (cs:=#[.string ⟨#[]⟩,.slice none 0 0]) vZ rfl (fun b2 w5 hb2 s5 hr=>?_);replace hb0:=hb0.tr0 s4;have:=nLL hb0.lt hr;have:=nLL hb1.lt hr;replace hB:=hB.tr0 s4;have lo2:=nLT (Bel.size hB) hr;replace hb1:=hb1.tr0 s5;refine zk hb1 rfl rfl xx rfl zJ (fun w6 hq s6=>?_);replace hb1:=hq;replace hb2:=hb2.tr1 s6 om;refine zk hb2 rfl rfl xx rfl zJ (fun w7 hq s7=>?_);replace hb2:=hq;refine zn6 ?_;refine qz Vj (ZZ [] (Ts.b false) (Ts.b true) _ _ _ _ _ _ _ (by simp) (Fz.triv _ _ TS (fun _=>SimsIn.nil)) (Fz.triv _ _ TS (fun _=>SimsIn.nil))) rfl (fun e' w8 hr=>?_);obtain⟨⟨_,rfl,A12,c12,n12,rfl,hP12⟩,s8⟩:=hr;replace s8:=sB s8;refine⟨_,rfl,?_⟩;refine yv (cs:=#[.string ⟨#[]⟩,.slice none 0 0]) vZ rfl (fun _=>rfl) (fun _=>rfl) xx rfl zJ (fun b3 w10 hb3 s9 hr=>?_);refine zn6 ?_;replace hP12:=hP12.tr0 s9;refine qz Vj (ZZ [] (Ts.b false) (Ts.f (Ts.b false) (Ts.b true)) _ _ _ _ _ _ _ (by simp) (Fz.triv _ _ TS (fun _=>SimsIn.nil)) hP12) rfl (fun e' w11 hr=>?_);obtain⟨⟨_,rfl,A15,c15,n15,rfl,hP15⟩,s10⟩:=hr;replace s10:=sB s10;refine⟨_,rfl,?_⟩;refine yv (cs:=#[.string ⟨#[]⟩,.slice none 0 0]) vZ rfl (fun _=>rfl) (fun _=>rfl) xx rfl zJ (fun b4 w13 hb4 s11 hr=>?_);refine zn4 ?_;refine qV (cs:=#[.slice none 0 0,.slice none 0 0,.slice none 0 0,.slice none 0 0,.slice none 0 0]) ze32 rfl (fun b5 w14 hb5 s12 hr=>?_);replace hb0:=(((hb0.tr0 s5).tr1 s6 om).tr1 s7 om).tr0 (s8.trans (s9.trans (s10.trans s11)));have or_b0_b5:b0 < b5:=nLL hb0.lt hr;replace hb1:=(hb1.tr1 s7 om).tr0 (s8.trans (s9.trans (s10.trans s11)));have or_b1_b5:b1 < b5:=nLL hb1.lt hr;replace hb2:=hb2.tr0 (s8.trans (s9.trans (s10.trans s11)));have or_b2_b5:b2 < b5:=nLL hb2.lt hr;replace hb3:=hb3.tr0 (s10.trans s11);have or_b3_b5:b3 < b5:=nLL hb3.lt hr
 have or_b4_b5:b4 < b5:=nLL hb4.lt hr;replace hB:=(((hB.tr0 s5).tr1 s6 lo1).tr1 s7 lo2).tr0 (s8.trans (s9.trans (s10.trans s11)));have lo5:=nLT (Bel.size hB) hr;refine zn4 ?_;refine qJ (cs:=#[_,_,_,_,_,_,_,_,_,_,_,_,_,_,_]) [(0,.string _),(1,.string _),(2,.string _),(3,.string _),(4,.string _),(5,.string _),(6,.string _),(7,.string _),(8,.string _),(9,.string _),(10,.string _),(11,.string _),(12,.string _),(13,.string _),(14,.string _)] rfl Tryd.underlying61 sz9_DHo ze9 dE dE kR rfl (fun b16 w15 hb16 s13 hr=>?_);refine qJ (cs:=#[_,_,_,_,_,_,_,_,_,_,_,_,_,_,_]) [(0,.int _ _),(1,.int _ _),(2,.int _ _),(3,.int _ _),(4,.int _ _),(5,.int _ _),(6,.int _ _),(7,.int _ _),(8,.int _ _),(9,.int _ _),(10,.int _ _),(11,.int _ _),(12,.int _ _),(13,.int _ _),(14,.int _ _)] rfl U70 C8 qx dE dE kR rfl (fun b17 w16 hb17 s14 hr=>?_);refine wl (Oz (v0:= .string _) (v1:= .int _ _) (v2:= .int _ _) (fun v0 v1 v2=>#[v0,v1,v2]) rfl rfl rfl kR) (wl (Oz (v0:= .string _) (v1:= .int _ _) (v2:= .int _ _) (fun v0 v1 v2=>#[v0,v1,v2]) rfl rfl rfl kR) (wl (Oz (v0:= .string _) (v1:= .int _ _) (v2:= .int _ _) (fun v0 v1 v2=>#[v0,v1,v2]) rfl rfl rfl kR) (wl (Oz (v0:= .string _) (v1:= .int _ _) (v2:= .int _ _) (fun v0 v1 v2=>#[v0,v1,v2]) rfl rfl rfl kR) (wl (Oz (v0:= .string _) (v1:= .int _ _) (v2:= .int _ _) (fun v0 v1 v2=>#[v0,v1,v2]) rfl rfl rfl kR) ?_))));refine qJ (cs:=#[_,_,_,_,_,_,_,_,_,_,_,_,_,_,_]) [(0,.agg _),(1,.agg _),(2,.agg _),(3,.agg _),(4,.agg _)] rfl Tryd.underlying23 sz72_DSm ze72_DSm dE dE kR rfl (fun b23 w17 hb23 s15 hr=>?_);replace hb16:=hb16.tr0 (s14.trans s15);replace hb17:=hb17.tr0 s15;refine qz fn18 (Pk (some ⟨b16,0,none⟩) (some ⟨b17,0,none⟩) _ _ _ _ _ Fx Fq _ (Sz Fx hb16) (qv Fq hb17 dE) dE rfl) rfl (fun e' w18 hr=>?_);obtain⟨⟨At,capt,rfl,hTy⟩,s16⟩:=hr;replace s16:=sB s16;replace hb23:=hb23.tr0 s16;have hFe:=(Fz.blk (X:=[]) (ts:=TS) hb23 (by simp) (N3 dE dE dE _)).imp (fun _ h=>B6 smallF h dE);replace hTy:Fz [] _ TS w18 (fun w=>TypesIn w At smallT):=hTy;refine⟨_,rfl,?_⟩;refine zn1 ?_;replace hb5:=hb5.tr0 (s13.trans (s14.trans (s15.trans s16)));refine Rj hb5 rfl rfl QQ (by first | decide | simp) zJ rfl (fun w19 hq s17=>?_);replace hP12:=hP12.tr0 (s10.trans (s11.trans (s12.trans (s13.trans (s14.trans (s15.trans s16))))));replace hP12:=hP12.sp1 s17 hb5 (.inl dE);replace hP15:=hP15.tr0 (s11.trans (s12.trans (s13.trans (s14.trans (s15.trans s16)))));replace hP15:=hP15.sp1 s17 hb5 (.inl dE)
 replace hTy:=hTy.sp1 s17 hb5 (.inl dE);replace hFe:=hFe.sp1 s17 hb5 (.inl dE);replace hb5:=hq;refine zn4 ?_;refine qz fn19 (W3 _) rfl (fun e' w20 hr=>?_);obtain⟨⟨bm,csm,nm,rfl,hbm,hTm⟩,s18⟩:=hr;replace s18:=sB s18;refine⟨_,rfl,?_⟩;refine zn4 ?_;replace hb5:=hb5.tr0 s18;refine yj [27,28,29,30,31,32,33,34,35,36,37,38,39,40,41,42,43,44,45,46,47,48,49,50,51,52,53,54,55,56,57,58,59,60,61,62,63,64,65,66,67,68,69,70,71,72,73,74,75,76,77,78,79,80,81,82,83,84,85,86,87,88,89,90,91,92,93,94] (fun g w'=>Same [b5] w20 w'∧∃ b93 cr nRl,w20.heap.size≤b93∧Blk w' b93 49 cr∧Fz [] nRl TS w' (fun w=>RlCs w smallR cr.toList)∧Blk w' b5 32 #[.slice At 15 capt,.slice (some ⟨b23,0,none⟩) 5 5,.slice (some ⟨b93,0,none⟩) 6 6,.slice none 0 0,.slice none 0 0]) ?_ (fun g7 w21 hI=>?_)
 ·have hh:=fun f Q k0 k1 kq=>small_r7 hb5 hbm hTm f Q k0 k1 kq
  exact hh _ _ (by rfl) (by rfl) (by intro d;cases d <;> exact fun _ _ _ _ h=>h)
 obtain⟨hS5,b93,cr,nRl,hn93,hb93,hRl,hb5n⟩:=hI;have o593:b5 < b93:=nLL hb5.lt hn93;replace hB:=((hB.tr0 (s12.trans (s13.trans (s14.trans (s15.trans s16))))).tr1 s17 lo5).tr0 s18;have lo93:=nLT (Bel.size hB) hn93;replace hB:=hB.tr1 hS5 lo5;replace hb0:=((hb0.tr0 (s12.trans (s13.trans (s14.trans (s15.trans s16))))).tr1 s17 om).tr0 s18;replace hb0:=hb0.tr1 hS5 om;replace hb1:=((hb1.tr0 (s12.trans (s13.trans (s14.trans (s15.trans s16))))).tr1 s17 om).tr0 s18;replace hb1:=hb1.tr1 hS5 om;replace hb2:=((hb2.tr0 (s12.trans (s13.trans (s14.trans (s15.trans s16))))).tr1 s17 om).tr0 s18;replace hb2:=hb2.tr1 hS5 om;replace hb3:=((hb3.tr0 (s12.trans (s13.trans (s14.trans (s15.trans s16))))).tr1 s17 om).tr0 s18;replace hb3:=hb3.tr1 hS5 om;replace hb4:=((hb4.tr0 (s12.trans (s13.trans (s14.trans (s15.trans s16))))).tr1 s17 om).tr0 s18;replace hb4:=hb4.tr1 hS5 om;replace hTy:=hTy.tr0 s18;replace hTy:=hTy.sp1 hS5 hb5 (.inl dE);replace hFe:=hFe.tr0 s18;replace hFe:=hFe.sp1 hS5 hb5 (.inl dE);replace hP12:=hP12.tr0 s18;replace hP12:=hP12.sp1 hS5 hb5 (.inl dE);replace hP15:=hP15.tr0 s18;replace hP15:=hP15.sp1 hS5 hb5 (.inl dE);replace hb5:=hb5n;refine zn3 ?_;refine wl (r_mf rfl) (zn4 ?_);obtain⟨base,hbase⟩:∃ b,b=w21.heap.size:=⟨_,rfl⟩
 have hI:SmSt smallT smallF smallR b0 b1 b2 b3 b4 b5 b23 b93 base capt c12 c15 At A12 A15 cr 0 Eq w w21:=⟨⟨hB,Nat.le_of_eq hbase,hb0,hb1,hb2,hb3,hb4,hb93,by rw [hbase];exact hTy.and (hFe.and hRl),by rw [hbase];exact hP12.up,by rw [hbase];exact hP15.up,lo5,lo93,⟨or_b0_b5,or_b1_b5,or_b2_b5,or_b3_b5,or_b4_b5,o593⟩,⟨by rw [hbase];exact hb5.lt,by rw [hbase];exact hb93.lt⟩⟩,none,0,[],_,hb5,Own.nil _ _ _ _,Fz.triv [] _ TS (fun _=>LxData.nil)⟩
 refine yj [96,97,98,99,100,101] (fun g w'=>SmSt smallT smallF smallR b0 b1 b2 b3 b4 b5 b23 b93 base capt c12 c15 At A12 A15 cr 1 Iv w w') ?_ (fun g9 w22 hI=>?_)
 ·have hh:=fun f Q k0 kq=>small_r9 hI f Q k0 kq
  exact hh _ _ (by rfl) (by intro d;cases d <;> exact fun _ _ _ _ h=>h)
 obtain hI:=hI;refine e_S (y8 ?_);refine yj [102,103,104,105,106,107] (fun g w'=>SmSt smallT smallF smallR b0 b1 b2 b3 b4 b5 b23 b93 base capt c12 c15 At A12 A15 cr 2 Ik w w') ?_ (fun g10 w23 hI=>?_)
 ·have hh:=fun f Q k0 kq=>small_r10 hI f Q k0 kq
  exact hh _ _ (by rfl) (by intro d;cases d <;> exact fun _ _ _ _ h=>h)
 obtain hI:=hI;refine e_S (y8 ?_);refine yj [108,109,110,111,112] (fun g w'=>SmSt smallT smallF smallR b0 b1 b2 b3 b4 b5 b23 b93 base capt c12 c15 At A12 A15 cr 3 Ij w w') ?_ (fun g11 w24 hI=>?_)
 ·have hh:=fun f Q k0 kq=>small_r11 hI f Q k0 kq
  exact hh _ _ (by rfl) (by intro d;cases d <;> exact fun _ _ _ _ h=>h)
 obtain hI:=hI;refine e_S (y8 ?_);refine yj [113,114,115,116,117,118,119] (fun g w'=>SmSt smallT smallF smallR b0 b1 b2 b3 b4 b5 b23 b93 base capt c12 c15 At A12 A15 cr 4 Ix w w') ?_ (fun g12 w25 hI=>?_)
 ·have hh:=fun f Q k0 k1 kq=>small_r12 hI f Q k0 k1 kq
  exact hh _ _ (by rfl) (by rfl) (by intro d;cases d <;> exact fun _ _ _ _ h=>h)
 obtain hI:=hI;refine e_S (y8 ?_);refine yj [120,121,122,123,124,125,126] (fun g w'=>SmSt smallT smallF smallR b0 b1 b2 b3 b4 b5 b23 b93 base capt c12 c15 At A12 A15 cr 5 Iq w w') ?_ (fun g13 w26 hI=>?_)
 ·have hh:=fun f Q k0 k1 kq=>small_r13 hI f Q k0 k1 kq
  exact hh _ _ (by rfl) (by rfl) (by intro d;cases d <;> exact fun _ _ _ _ h=>h)
 obtain hI:=hI;refine e_S (y8 ?_);refine yj [127,128,129,130,131,132,133] (fun g w'=>SmSt smallT smallF smallR b0 b1 b2 b3 b4 b5 b23 b93 base capt c12 c15 At A12 A15 cr 6 Iz w w') ?_ (fun g14 w27 hI=>?_)
 ·have hh:=fun f Q k0 k1 kq=>small_r14 hI f Q k0 k1 kq
  exact hh _ _ (by rfl) (by rfl) (by intro d;cases d <;> exact fun _ _ _ _ h=>h)
 obtain hI:=hI;refine e_S (y8 ?_);refine yj [134,135,136,137,138,139,140] (fun g w'=>SmSt smallT smallF smallR b0 b1 b2 b3 b4 b5 b23 b93 base capt c12 c15 At A12 A15 cr 7 I9 w w') ?_ (fun g15 w28 hI=>?_)
 ·have hh:=fun f Q k0 k1 kq=>small_r15 hI f Q k0 k1 kq
  exact hh _ _ (by rfl) (by rfl) (by intro d;cases d <;> exact fun _ _ _ _ h=>h)
 obtain hI:=hI;refine e_S (y8 ?_);refine yj [141,142,143,144,145,146,147] (fun g w'=>SmSt smallT smallF smallR b0 b1 b2 b3 b4 b5 b23 b93 base capt c12 c15 At A12 A15 cr 8 I8 w w') ?_ (fun g16 w29 hI=>?_)
 ·have hh:=fun f Q k0 k1 kq=>small_r16 hI f Q k0 k1 kq
  exact hh _ _ (by rfl) (by rfl) (by intro d;cases d <;> exact fun _ _ _ _ h=>h)
 obtain hI:=hI;refine e_S (y8 ?_);refine yj [148,149,150,151,152,153,154] (fun g w'=>SmSt smallT smallF smallR b0 b1 b2 b3 b4 b5 b23 b93 base capt c12 c15 At A12 A15 cr 9 I7 w w') ?_ (fun g17 w30 hI=>?_)
 ·have hh:=fun f Q k0 k1 kq=>small_r17 hI f Q k0 k1 kq
  exact hh _ _ (by rfl) (by rfl) (by intro d;cases d <;> exact fun _ _ _ _ h=>h)
 obtain hI:=hI;refine e_S (y8 ?_);refine yj [155,156,157,158,159,160,161] (fun g w'=>SmSt smallT smallF smallR b0 b1 b2 b3 b4 b5 b23 b93 base capt c12 c15 At A12 A15 cr 10 J2 w w') ?_ (fun g18 w31 hI=>?_)
 ·have hh:=fun f Q k0 k1 kq=>small_r18 hI f Q k0 k1 kq
  exact hh _ _ (by rfl) (by rfl) (by intro d;cases d <;> exact fun _ _ _ _ h=>h)
 obtain hI:=hI;refine e_S (y8 ?_);refine yj [162,163,164,165,166,167,168] (fun g w'=>SmSt smallT smallF smallR b0 b1 b2 b3 b4 b5 b23 b93 base capt c12 c15 At A12 A15 cr 11 J1 w w') ?_ (fun g19 w32 hI=>?_)
 ·have hh:=fun f Q k0 k1 kq=>small_r19 hI f Q k0 k1 kq
  exact hh _ _ (by rfl) (by rfl) (by intro d;cases d <;> exact fun _ _ _ _ h=>h)
 obtain hI:=hI;refine e_S (y8 ?_);refine yj [169,170,171,172,173,174,175] (fun g w'=>SmSt smallT smallF smallR b0 b1 b2 b3 b4 b5 b23 b93 base capt c12 c15 At A12 A15 cr 12 J0 w w') ?_ (fun g20 w33 hI=>?_)
 ·have hh:=fun f Q k0 k1 kq=>small_r20 hI f Q k0 k1 kq
  exact hh _ _ (by rfl) (by rfl) (by intro d;cases d <;> exact fun _ _ _ _ h=>h)
 obtain hI:=hI;refine e_S (y8 ?_);refine yj [176,177,178,179,180,181,182] (fun g w'=>SmSt smallT smallF smallR b0 b1 b2 b3 b4 b5 b23 b93 base capt c12 c15 At A12 A15 cr 13 VY w w') ?_ (fun g21 w34 hI=>?_)
 ·have hh:=fun f Q k0 k1 kq=>small_r21 hI f Q k0 k1 kq
  exact hh _ _ (by rfl) (by rfl) (by intro d;cases d <;> exact fun _ _ _ _ h=>h)
 obtain hI:=hI;refine e_S (y8 ?_);refine yj [183,184,185,186,187,188,189] (fun g w'=>SmSt smallT smallF smallR b0 b1 b2 b3 b4 b5 b23 b93 base capt c12 c15 At A12 A15 cr 14 VW w w') ?_ (fun g22 w35 hI=>?_)
 ·have hh:=fun f Q k0 k1 kq=>small_r22 hI f Q k0 k1 kq
  exact hh _ _ (by rfl) (by rfl) (by intro d;cases d <;> exact fun _ _ _ _ h=>h)
 obtain hI:=hI;refine e_S (y8 ?_);refine yj [190,191,192,193,194,195,196] (fun g w'=>SmSt smallT smallF smallR b0 b1 b2 b3 b4 b5 b23 b93 base capt c12 c15 At A12 A15 cr 15 VV w w') ?_ (fun g23 w36 hI=>?_)
 ·have hh:=fun f Q k0 k1 kq=>small_r23 hI f Q k0 k1 kq
  exact hh _ _ (by rfl) (by rfl) (by intro d;cases d <;> exact fun _ _ _ _ h=>h)
 obtain hI:=hI;refine e_S (y8 ?_);refine yj [197,198,199,200,201,202,203] (fun g w'=>SmSt smallT smallF smallR b0 b1 b2 b3 b4 b5 b23 b93 base capt c12 c15 At A12 A15 cr 16 VK w w') ?_ (fun g24 w37 hI=>?_)
 ·have hh:=fun f Q k0 k1 kq=>small_r24 hI f Q k0 k1 kq
  exact hh _ _ (by rfl) (by rfl) (by intro d;cases d <;> exact fun _ _ _ _ h=>h)
 obtain hI:=hI;refine e_S (y8 ?_);refine yj [204,205,206,207,208,209,210] (fun g w'=>SmSt smallT smallF smallR b0 b1 b2 b3 b4 b5 b23 b93 base capt c12 c15 At A12 A15 cr 17 VJ w w') ?_ (fun g25 w38 hI=>?_)
 ·have hh:=fun f Q k0 k1 kq=>small_r25 hI f Q k0 k1 kq
  exact hh _ _ (by rfl) (by rfl) (by intro d;cases d <;> exact fun _ _ _ _ h=>h)
 obtain hI:=hI;refine e_S (y8 ?_);refine yj [211,212,213,214,215,216,217,218] (fun g w'=>SmSt smallT smallF smallR b0 b1 b2 b3 b4 b5 b23 b93 base capt c12 c15 At A12 A15 cr 18 VX w w') ?_ (fun g26 w39 hI=>?_)
 ·have hh:=fun f Q k0 k1 kq=>small_r26 hI f Q k0 k1 kq
  exact hh _ _ (by rfl) (by rfl) (by intro d;cases d <;> exact fun _ _ _ _ h=>h)
 obtain hI:=hI;refine e_S (y8 ?_);refine yj [219,220,221,222,223,224,225,226,227,228] (fun g w'=>SmSt smallT smallF smallR b0 b1 b2 b3 b4 b5 b23 b93 base capt c12 c15 At A12 A15 cr 19 VQ w w') ?_ (fun g27 w40 hI=>?_)
 ·have hh:=fun f Q k0 k1 kq=>small_r27 hI f Q k0 k1 kq
  exact hh _ _ (by rfl) (by rfl) (by intro d;cases d <;> exact fun _ _ _ _ h=>h)
 obtain hI:=hI;refine e_S (y8 ?_);refine yj [229,230,231,232,233,234,235,236,237,238,239] (fun g w'=>SmSt smallT smallF smallR b0 b1 b2 b3 b4 b5 b23 b93 base capt c12 c15 At A12 A15 cr 20 VZ w w') ?_ (fun g28 w41 hI=>?_)
 ·have hh:=fun f Q k0 k1 k2 kq=>small_r28 hI f Q k0 k1 k2 kq
  exact hh _ _ (by rfl) (by rfl) (by rfl) (by intro d;cases d <;> exact fun _ _ _ _ h=>h)
 obtain hI:=hI;refine e_S (y8 ?_);refine yj [240,241,242,243,244,245,246,247,248,249,250] (fun g w'=>SmSt smallT smallF smallR b0 b1 b2 b3 b4 b5 b23 b93 base capt c12 c15 At A12 A15 cr 21 O6 w w') ?_ (fun g29 w42 hI=>?_)
 ·have hh:=fun f Q k0 k1 k2 kq=>small_r29 hI f Q k0 k1 k2 kq
  exact hh _ _ (by rfl) (by rfl) (by rfl) (by intro d;cases d <;> exact fun _ _ _ _ h=>h)
 obtain hI:=hI;refine e_S (y8 ?_);obtain⟨hC,A,cap,xs,nL,hb5,ho,hL⟩:=hI;have hB:=hC.bel;have hb0:=hC.k0;have hb93:=hC.k93;have hD:=hC.dt;have lo5:=hC.lo5;obtain⟨o0,_,_,_,_,o9⟩:=hC.o;obtain⟨l5,l9⟩:=hC.l;refine Q4 ?_;refine qJ (cs:=#[_]) [(0,.int _ _)] rfl U70 C8 qx dE dE kR rfl (fun b251 w43 hb251 s19 hr=>?_);refine qJ (cs:=#[_]) [(0,.slice _ _ _)] rfl U75 BY xw dE dE kR rfl (fun b252 w44 hb252 s20 hr=>?_);replace hb251:=hb251.tr0 s20;refine qz R3 (Z4 _ _ [[6]] _ (x5 (rs:=[[6]]) hb252 (.cons ⟨_,_,rfl,qv [6] hb251 dE,by decide,by decide⟩ .nil) dE)) rfl (fun e' w45 hr=>?_);obtain⟨⟨Ast,cst,rfl,hSt⟩,s21⟩:=hr;replace s21:=sB s21;refine⟨_,rfl,?_⟩;refine zn1 ?_;replace hb5:=hb5.tr0 (s19.trans (s20.trans s21));refine Rj hb5 rfl rfl O3 (by first | decide | simp) zJ rfl (fun w46 hq s22=>?_);replace hD:=hD.tr0 (s19.trans (s20.trans s21));replace hD:=hD.sp1 s22 hb5 (.inl dE);replace ho:=ho.tr0 (s19.trans (s20.trans s21));replace ho:=ho.tr1 s22 (fun g hg=>by have:=(ho.lt g hg).1;(try have:=or_ho_b5 g hg);(try simp only [aL] at hg);(try simp only [List.mem_singleton] at hg);omega);replace hL:=hL.tr0 (s19.trans (s20.trans s21));replace hL:=hL.sp1 s22 hb5 (.inl dE);replace hSt:=hSt.sp1 s22 hb5 (.inl dE);replace hb5:=hq;refine zn5 ?_;replace hb0:=(hb0.tr0 (s19.trans (s20.trans s21))).tr1 s22 om;refine zk hb0 rfl rfl sz32 rfl zJ (fun w47 hq s23=>?_);replace hD:=hD.sp1 s23 hb0 (.inl dE);replace ho:=ho.tr1 s23 (fun g hg=>by have:=(ho.lt g hg).1;(try have:=or_ho_b0 g hg);(try simp only [aL] at hg);(try simp only [List.mem_singleton] at hg);omega);replace hL:=hL.sp1 s23 hb0 (.inl dE);replace hSt:=hSt.sp1 s23 hb0 (.inl dE);replace hb0:=hq;refine zn3 ?_;refine y7 (.inl rfl) rfl (zw U32 rfl rfl hb0.range0 sz32) ?_;have hsb:∀ t ∈ [49],t ∈ TS:=by decide
 have hfin:=((hD.sub hsb).and ((((ho.fz (ts:=[49]) (N3 dE dE dE)).and (hL.sub hsb)).imp (fun _ h=>gof_lexes h.1 h.2)).and (hSt.sub hsb))).imp (Q:=fun w=>TypesIn w At smallT∧FeatsIn w (some ⟨b23,0,none⟩) smallF∧RlCs w smallR cr.toList∧LexesIn w A smallX∧NodesIn w Ast smallS) (fun _ h=>⟨h.1.1,h.1.2.1,h.1.2.2,h.2.1,h.2.2⟩);replace hB:=((hB.tr0 (s19.trans (s20.trans s21))).tr1 s22 lo5).tr1 s23 lo0;replace hb93:=((hb93.tr0 (s19.trans (s20.trans s21))).tr1 s22 om).tr1 s23 om;exact⟨⟨_,rfl,At,capt,some ⟨b23,0,none⟩,5,b93,cr,A,cap,Ast,cst,_,rfl,hC.lo93,hb93,hfin⟩,hB⟩
end Go.Proofs.YtdgnllfbooklcaaDoor
namespace Go.Proofs.YtdgnllfbooklcaaDoor
open Go.RowKit
theorem F8:gramB smallT smallF smallRs smallXs smallS=true:=by decide +kernel
theorem small_ok:vv smallT smallF smallR smallX smallS=(0,0):=gram_ok F8
end Go.Proofs.YtdgnllfbooklcaaDoor
namespace Go.Proofs.YtdgnllfbooklcaaDoor
open Go.RowKit
theorem US.join2 {l:List Ty} {U:List Nd} {J:List (Nat×Nat)} {P rep ρ:Nat→Nat} {T:Nat→Int} {L:Nat→List (Int×Int)} {W Wn Lm:List (Int×Int)} (hs:Jv l) {p:Int×Int} {a b m:Nat} (h:US l U J P rep ρ T L (W ++ [p])) (ha:rep p.1.toNat=a) (hb:rep p.2.toNat=b) (hne:a≠b) (hm:jK l (T a).toNat (T b).toNat=(m,true,false)) (hL:xy (L a) (L b)=Lm) (hW:gK (L a) (L b)=Wn):
    US l U J (Yv P b a) (UF.un rep a b) (UF.rk rep ρ a b) (fun x=>if x=a then (m:Int) else T x) (fun x=>if x=a then Lm else L x) (W ++ Wn):=by
  subst hL hW;exact US.join hs h ha hb hne hm
def gN:List Nd:=[⟨1,[(0,1),(1,3),(2,4)]⟩,⟨7,[(4,2)]⟩,⟨3,[]⟩,⟨10,[(4,2)]⟩,⟨9,[(4,2)]⟩]
def gM:List Nd:=[⟨1,[(0,1),(1,3),(2,4)]⟩,⟨7,[(4,2)]⟩,⟨4,[]⟩,⟨10,[(4,2)]⟩,⟨9,[(4,2)]⟩]
def gEv:List Nd:=[⟨10,[(4,1)]⟩,⟨4,[]⟩]
def gDo:List Nd:=[⟨9,[(4,1)]⟩,⟨4,[]⟩]
def gRx:List Nd:=[⟨7,[(4,1)]⟩,⟨4,[]⟩]
theorem gN_is:smallR.length=6∧(smallR[1]?).map (·.gr)=some gN∧(smallR[1]?).map (·.kids)=some 2:=by decide +kernel
theorem gX_is:smallX.length=21∧(smallX[0]?).map (·.gr)=some gEv∧(smallX[3]?).map (·.gr)=some gDo∧(smallX[19]?).map (·.gr)=some gRx:=by decide +kernel
theorem dlM:DL gM [1] [] [1,2]:= .new (o1:=[1,2]) dE (.new (o1:=[1,2]) dE .nil .nil) .nil
def gZ (a:Int):List Nd:=gM ++ [⟨a,[]⟩,⟨4,[]⟩]
theorem dlZ (a:Int):DL (gZ a) [0] [] [0,1,2,3,4]:=
  .new dE (.new (o1:=[0,1,2]) dE (.new (o1:=[0,1,2]) dE .nil .nil) (.new (o1:=[0,1,2,3]) dE (.old dE .nil) (.new (o1:=[0,1,2,3,4]) dE (.old dE .nil) .nil))) .nil
theorem mg1:xy [((4:Int),(2:Int))] [(4,6)]= [(4,2)]:=by simp [xy]
theorem mg2:xy ([]:List (Int×Int)) []= []:=by simp [xy]
theorem nw1:gK [((4:Int),(2:Int))] [(4,6)]= [(2,6)]:=by simp [gK]
theorem nw2:gK ([]:List (Int×Int)) []= []:=by simp [gK]
theorem uni_ev (hS:Jv smallT) (ha:GY smallT gN) (hb:GY smallT gEv):Z2 smallT (vx gN gEv) [(3,gN.length)] gM:=by
  have h1:=(US.first ha).add hb (fun p hp=>by cases hp);have h2:=h1.push (a:=3) (b:=5) dE dE;have h3:=US.join2 (W:=[]) (p:=((3:Nat),(5:Nat))) (a:=3) (b:=5) (m:=10) (Lm:=[(4,2)]) (Wn:=[(2,6)]) hS h2 dE dE dE (by decide +kernel) mg1 nw1;have h4:=US.join2 (W:=[]) (p:=((2:Int),(6:Int))) (a:=2) (b:=6) (m:=4) (Lm:=[]) (Wn:=[]) hS h3 dE dE dE (by decide +kernel) mg2 nw2;exact⟨_,_,_,_,_,[0,1,2,3,4],h4,dlZ 10,by decide⟩
theorem uni_do (hS:Jv smallT) (ha:GY smallT gM) (hb:GY smallT gDo):Z2 smallT (vx gM gDo) [(4,gM.length)] gM:=by
  have h1:=(US.first ha).add hb (fun p hp=>by cases hp);have h2:=h1.push (a:=4) (b:=5) dE dE;have h3:=US.join2 (W:=[]) (p:=((4:Nat),(5:Nat))) (a:=4) (b:=5) (m:=9) (Lm:=[(4,2)]) (Wn:=[(2,6)]) hS h2 dE dE dE (by decide +kernel) mg1 nw1;have h4:=US.join2 (W:=[]) (p:=((2:Int),(6:Int))) (a:=2) (b:=6) (m:=4) (Lm:=[]) (Wn:=[]) hS h3 dE dE dE (by decide +kernel) mg2 nw2;exact⟨_,_,_,_,_,[0,1,2,3,4],h4,dlZ 9,by decide⟩
theorem Wz (hS:Jv smallT) (hN:GY smallT gN) (hM:GY smallT gM) (he:GY smallT gEv) (hd:GY smallT gDo):Q7 smallT gN 0 [gEv,gDo] true gRx:=
  .inl ⟨gM,uni_ev hS hN he,by decide,.inl ⟨gM,uni_do hS hM hd,by decide,rfl,[1,2],dlM,by decide⟩⟩
end Go.Proofs.YtdgnllfbooklcaaDoor
namespace Go.Proofs.YtdgnllfbooklcaaDoor
open Go.RowKit
theorem LQ {l:List Ty} {fs:List Ft} {rs:List Rl} {xs:List Lx} {st:List Nd} (h:(vv l fs rs xs st).1=0) {i:Nat} (hi:i < xs.length):(qK l fs (xs[i]).gr).1=0:=by
  have h1:(qq l fs).1=0:=by
    refine Classical.byContradiction (fun e=>?_);rw [M4 e] at h;exact e h
  have h2:¬fs.length≤3:=fun e=>by rw [B3 h1 e] at h;cases h
  have h3:¬(40 < rs.length∨100 < xs.length):=fun e=>by rw [EZ h1 h2 e] at h;cases h
  have h4:(qZ (ux l fs rs) 0 rs.length).1=0:=by
    refine Classical.byContradiction (fun e=>?_);rw [K3 (c:=(qZ (ux l fs rs) 0 rs.length).1) (i:=(qZ (ux l fs rs) 0 rs.length).2) h1 h2 h3 rfl e] at h;exact e h
  have h5:(qZ (N4 l fs xs) 0 xs.length).1=0:=by
    refine Classical.byContradiction (fun e=>?_);rw [gr_lex (c:=(qZ (N4 l fs xs) 0 xs.length).1) (i:=(qZ (N4 l fs xs) 0 xs.length).2) h1 h2 h3 (Nz _ _ h4) rfl e] at h;exact e h
  have q5:=Q3 _ _ h5 i (Nat.zero_le _) om;rw [lnF hi] at q5;have q6:gV (xs[i]).word=true:=by
    cases e:gV (xs[i]).word with
    | true=>rfl
    | false=>rw [L8 e] at q5;cases q5
  have q7:¬NX xs[i]:=fun e=>by rw [lx_bad q6 e] at q5;cases q5
  exact Classical.byContradiction (fun e=>by rw [lx_gr q6 q7 e] at q5;exact e q5)
theorem gr_h0 {l:List Ty} {fs:List Ft} {rs:List Rl} {xs:List Lx} {st:List Nd} (h:(vv l fs rs xs st).1=0):(qq l fs).1=0:=by
  refine Classical.byContradiction (fun e=>?_);rw [M4 e] at h;exact e h
theorem Wv {xs:List Lx} {i:Nat} {g:List Nd} (hi:i < xs.length) (h:(xs[i]?).map (·.gr)=some g):(xs[i]).gr=g:=by
  rw [List.getElem?_eq_getElem hi] at h;simpa using h
theorem small_lex {w:World} {A:Option Addr} (h:LexesIn w A smallX):∃ lb lq G0 c0 G3 c3 G9 c9,A=some ⟨lb,lq,none⟩∧lb < w.heap.size∧w.rangeAt lb (lq + 0 * 9 + 1) [.slice G0 2 c0]∧NodesIn w G0 gEv∧w.rangeAt lb (lq + 3 * 9 + 1) [.slice G3 2 c3]∧NodesIn w G3 gDo∧w.rangeAt lb (lq + 19 * 9 + 1) [.slice G9 2 c9]∧NodesIn w G9 gRx:=by
  obtain⟨hl,x0,x3,x19⟩:=gX_is;obtain⟨lb,lq,e,hlb,hc⟩:=h.2 (by intro e;rw [e] at hl;cases hl);have key:∀ (k:Nat) (hk:k < smallX.length) (g:List Nd),(smallX[k]?).map (·.gr)=some g→∃ G c,w.rangeAt lb (lq + k * 9 + 1) [.slice G g.length c]∧NodesIn w G g:=fun k hk g hg=>by
    obtain⟨_,G,cg,S,cs,B,m,h1,h2,_⟩:=hc k hk;have eg:=Wv hk hg;rw [eg] at h1 h2;exact⟨G,cg,(fun j v hj=>by match j,hj with | 0,hj=>cases hj;exact h1 1 _ rfl | _ + 1,hj=>cases hj),h2⟩
  obtain⟨G0,c0,a0,b0⟩:=key 0 (by rw [hl];decide) _ x0;obtain⟨G3,c3,a3,b3⟩:=key 3 (by rw [hl];decide) _ x3;obtain⟨G9,c9,a9,b9⟩:=key 19 (by rw [hl];decide) _ x19;exact⟨lb,lq,G0,c0,G3,c3,G9,c9,e,hlb,a0,b0,a3,b3,a9,b9⟩
theorem F7:∃ h:1 < smallR.length,(smallR[1]).gr=gN∧(smallR[1]).kids=2:=by
  obtain⟨hl,h1,h2⟩:=gN_is;have h:1 < smallR.length:=by rw [hl];decide
  rw [List.getElem?_eq_getElem h] at h1 h2;exact⟨h,by simpa using h1,by simpa using h2⟩
theorem F9 {w:World} {AT AF AR AX AS:Option Addr} {ct cf cr cx cst b c0 c3:Nat} {G0 G3:Option Addr} (hTab:TabIn w) (hU:U8In w) (hTy:TypesIn w AT smallT) (hF:FeatsIn w AF smallF) (hRu:RulesIn w AR smallR) (hLx:LexesIn w AX smallX) (hG:NodesIn w AS smallS) (hb:Blk w b 30 #[.slice G0 2 c0,.slice G3 2 c3]) (h0:NodesIn w G0 gEv) (h3:NodesIn w G3 gDo):Calls Tryd.prog 6 #[.agg #[.slice AT smallT.length ct,.slice AF smallF.length cf,.slice AR smallR.length cr,.slice AX smallX.length cx,.slice AS smallS.length cst],.int .i64 1,.slice (some ⟨b,0,none⟩) 2 2] w fun e w'=>(∃ A c,e= .returned (.tuple #[.agg #[.slice A 2 c],.bool true,.agg #[.int .i64 0,.int .i64 0]])∧∀ w2,FrSame w.heap.size w' w2→NodesIn w2 A gRx)∧Bel w w':=by
  refine(Nq AT AF AR AX AS ct cf cr cx cst smallT smallF smallR smallX smallS 1 (kc:=2) (ks:=[gEv,gDo]) w hTab hU hTy hF hRu hLx hG (grs_two hb h0 h3)).mono fun e w' h=>?_
  obtain⟨⟨A,Y,ok,c,he,hN,hC⟩,hs⟩:=h;have hg0:(vv smallT smallF smallR smallX smallS).1=0:=by rw [small_ok]
  obtain⟨h1,e1,e2⟩:=F7;obtain⟨hh,hjk⟩:=Wj hg0 h1;rw [e1,e2] at hjk;obtain⟨hl,x0,x3,_⟩:=gX_is;have i0:0 < smallX.length:=by rw [hl];decide
  have i3:3 < smallX.length:=by rw [hl];decide
  have w0:=LQ hg0 i0;have w3:=LQ hg0 i3;rw [Wv i0 x0] at w0;rw [Wv i3 x3] at w3;have hE:=(Z3 hh w0).1;have hD:=(Z3 hh w3).1;have hM:GY smallT gM:=(hjk.step (f:=1) hE dE dE (uni_ev hjk.v.s hjk.v.gx.toGY hE.gx.toGY) dE).v.gx.toGY;have hJ:=Wz hjk.v.s hjk.v.gx.toGY hM hE.gx.toGY hD.gx.toGY
  have hcm:XQ smallT smallF smallR smallX smallS 1 [gEv,gDo]=(0,0):=DK hg0 (by obtain⟨q,_⟩:=gN_is;rw [q];decide) (by show (2:Int)=kdR smallR ((1:Nat):Int);rw [W9 h1,e2]) (gW (fun j _ hj=>by
    have hj2:j < 2:=by have:=hj;simp only [List.length_cons,List.length_nil] at this;omega
    match j,hj2 with
    | 0,_=>exact w0
    | 1,_=>exact w3))
  rw [hcm] at he;rcases hC with ⟨hc,_⟩ | ⟨_,hJ2⟩
  · rw [hcm] at hc;exact absurd rfl hc
  · have eg:grR smallR 1=gN:=(B4 h1).trans e1
    rw [eg] at hJ2
    obtain⟨rfl,rfl⟩:=Tw [gEv,gDo] gN 0 ok true Y gRx hjk (fun q hq=>by
      rcases List.mem_cons.1 hq with rfl | hq
      · exact hE
      · rw [List.mem_singleton.1 hq];exact hD) dE hJ2 hJ
    exact⟨⟨A,c,he,hN⟩,hs⟩
theorem LV {l:List Ty} {fs:List Ft} {rs:List Rl} {xs:List Lx} {st:List Nd} {ri:Int} {ks:List (List Nd)} {ok:Bool} {Y:List Nd} (h:CombS l fs rs xs st ri ks ok Y) (h0:XQ l fs rs xs st ri ks=(0,0)):Q7 l (grR rs ri) 0 ks ok Y:=by
  rcases h with ⟨a,_⟩ | ⟨_,a⟩
  · rw [h0] at a;exact absurd rfl a
  · exact a
end Go.Proofs.YtdgnllfbooklcaaDoor
namespace Go.Proofs.YtdgnllfbooklcaaDoor
open Go.RowKit
section mon
variable {l:List Ty} {fs:List Ft} {x z k k2 X Z:List Nd} {j:Nat} {φ χ:Nat→Nat}
theorem stp_len {U:List Nd} {J:List (Nat×Nat)} (hl:VT l) (h0:0 < U.length) (h:Z2 l U J X):X.length≤U.length:=by
  obtain⟨P,rep,ρ,T,L,o,hus,hd,rfl⟩:=h;have hgy:=hus.gy hl h0;have t:=hgy.trr (r:=rep 0) (by rw [yw];exact hus.uf.rl 0 h0) hd;have:=t.ok.cnt;rw [yw] at this;rw [o6];omega
theorem adm_comp (hx:GX l x) (hk:GX l k) (hφ:Hom l x z φ) (hχ:Hom l k k2 χ) {c:List Nd} {θ:Nat→Nat} (h:Adm l (vx z k2) c θ):Adm l (vx x k) c (fun i=>if i < x.length then θ (φ i) else θ (z.length + χ (i - x.length))):=by
  have hlen:=Q0 x k;have hlen2:=Q0 z k2;have hl:=hx.vt;refine⟨fun i hi=>?_,fun i hi=>?_,fun i hi y hy=>?_⟩ <;> rw [hlen] at hi <;> by_cases e:i < x.length
  · simp only [if_pos e];have:=hφ.lt i e;exact h.lt _ om
  · simp only [if_neg e]
    obtain⟨_,hkl⟩:=Kk hi e;have:=hχ.lt _ hkl;exact h.lt _ om
  · simp only [if_pos e]
    have hz:=hφ.lt i e;have h1:=h.ty (φ i) om;rw [Vw hz] at h1;rw [Vw e];exact Q6 hl h1 (hφ.ty i e)
  · simp only [if_neg e]
    obtain⟨hn,hkl⟩:=Kk hi e;have hz:=hχ.lt _ hkl;have h1:=h.ty (z.length + χ (i - x.length)) om;rw [show nd (vx z k2) (z.length + χ (i - x.length))=_ from uY hz] at h1;rw [hn];exact Q6 hl h1 (hχ.ty _ hkl)
  · simp only [if_pos e]
    rw [Vw e] at hy;have hyr:=hx.lr i e y hy;rw [if_pos hyr.2];have hz:=hφ.lt i e;have h1:=hφ.ln i e y hy;have hm:=X8 (xs:=(nd z (φ i)).ln) (f:=y.1) om;rw [h1] at hm;have h2:=h.ln (φ i) om _ (by rw [Vw hz];exact hm);rw [Int.toNat_natCast] at h2;exact h2
  · simp only [if_neg e]
    obtain⟨hn,hkl⟩:=Kk hi e;rw [hn] at hy;obtain⟨u,hu,rfl⟩:=List.mem_map.1 hy;have hur:=hk.lr _ hkl u hu;have hz:=hχ.lt _ hkl;have h1:=hχ.ln _ hkl u hu;have hm:=X8 (xs:=(nd k2 (χ (i - x.length))).ln) (f:=u.1) om;rw [h1] at hm
    have h2:=h.ln (z.length + χ (i - x.length)) om (u.1,((χ u.2.toNat:Nat):Int) + (z.length:Int)) (by
      rw [show nd (vx z k2) (z.length + χ (i - x.length))=_ from uY hz]
      exact List.mem_map.2 ⟨_,hm,rfl⟩)
    have e1:(u.2 + (x.length:Int)).toNat=u.2.toNat + x.length:=by omega
    have e2:(((χ u.2.toNat:Nat):Int) + (z.length:Int)).toNat=z.length + χ u.2.toNat:=by omega
    simp only [e2] at h2;simp only [e1];rw [if_neg om,show u.2.toNat + x.length - x.length=u.2.toNat by omega];exact h2
theorem step_mono (hx:GX l x) (hz:GX l z) (hk:GX l k) (hk2:GX l k2) (hj:j < x.length) (hφ:Hom l x z φ) (hχ:Hom l k k2 χ) (hZ:Z2 l (vx z k2) [(φ j,z.length)] Z):Jw l (vx x k) [(j,x.length)]∧∀ X,Z2 l (vx x k) [(j,x.length)] X→Maps l X Z:=by
  obtain⟨P',rep',ρ',T',L',o',hus',hd',rfl⟩:=hZ;obtain⟨_,a,_,b0,c0,d0⟩:=Zz hz hk2 (hφ.lt j hj) hus' hd';have b:=adm_comp hx hk hφ hχ b0;have hJ:∀ p ∈ [(j,x.length)],(fun i=>if i < x.length then o'.idxOf (rep' (φ i)) else o'.idxOf (rep' (z.length + χ (i - x.length)))) p.1=(fun i=>if i < x.length then o'.idxOf (rep' (φ i)) else o'.idxOf (rep' (z.length + χ (i - x.length)))) p.2:=fun p hp=>by
    rw [List.mem_singleton.1 hp];simp [hj,hχ.zero,d0]
  refine⟨⟨_,_,a.tr,b,hJ⟩,fun X hX=>?_⟩;obtain⟨P,rep,ρ,T,L,o,hus,hd,rfl⟩:=hX;obtain⟨t,_⟩:=Zz hx hk hj hus hd;have hp:=hx.pos;have h0:0 < (vx x k).length:=by have:=Q0 x k;omega
  have hres:=(hus.only _ _ a.tr b hJ).1.1 0 h0;refine hus.least (hus.uf.rl 0 h0) (hus.uf.two h0) t a.tr b hJ (hres.symm.trans ?_);simp only [if_pos hp,hφ.zero];exact c0
theorem L0 (hx:GX l x) (hφ:Hom l x z φ) {f:Int} (hf:0≤plc x f):(plc z f).toNat=φ (plc x f).toNat:=by
  have hm:=X8 (xs:=(nd x 0).ln) (f:=f) hf;have h:=hφ.ln 0 hx.pos _ hm;rw [hφ.zero] at h;show (tgt (nd z 0).ln f).toNat=_;rw [h];rfl
def Xk:List (List Nd)→Nat
  | []=>0
  | k :: ks=>k.length + Xk ks
theorem Dy {m:Int}:∀ (ks ks2:List (List Nd)) (x z:List Nd) (i:Nat) (ok:Bool) (Y Z:List Nd),Jok l fs m x→Jok l fs m z→Maps l x z→ks.length=ks2.length→(∀ p ∈ ks.zip ks2,Maps l p.1 p.2)→(∀ k ∈ ks,GV l fs k)→(∀ k ∈ ks2,GV l fs k)→(i:Int) + ks.length≤m→0≤m→Q7 l x i ks ok Y→Q7 l z i ks2 true Z→(ok=true→Maps l Y Z)∧(ok=false→60 < x.length + Xk ks)
  | [],[],x,z,i,ok,Y,Z,hx,hz,hm,_,_,_,_,_,h0,h,h'=>by
    obtain⟨rfl,o,ho,rfl⟩:=h
    obtain⟨_,o',ho',rfl⟩:=h'
    obtain⟨φ,hφ⟩:=hm
    refine⟨fun _=>?_,fun h=>by cases h⟩
    have hj:=hx.lt (Int.le_refl _) h0
    rw [L0 hx.v.gx hφ (hx.p 0 (Int.le_refl _) h0)] at ho'
    exact hφ.part hz.v.gx (hx.v.gx.toGY.trr hj ho) (hz.v.gx.toGY.trr (hφ.lt _ hj) ho')
  | [],_ :: _,_,_,_,_,_,_,_,_,_,he,_,_,_,_,_,_,_=>by cases he
  | _ :: _,[],_,_,_,_,_,_,_,_,_,he,_,_,_,_,_,_,_=>by cases he
  | k :: ks,k2 :: ks2,x,z,i,ok,Y,Z,hx,hz,hm,he,hp,hv,hv2,hi,h0,h,h'=>by
    rw [List.length_cons] at hi
    have hkv:=hv k (List.mem_cons_self ..)
    have hkv2:=hv2 k2 (List.mem_cons_self ..)
    have hlt:=hx.lt (f:=(i:Int) + 1) om om
    have hlt2:=hz.lt (f:=(i:Int) + 1) om om
    have hs:Xk (k :: ks)=k.length + Xk ks:=rfl
    obtain⟨φ,hφ⟩:=hm
    obtain⟨χ,hχ⟩:=hp (k,k2) (by simp)
    have hpl:=L0 hx.v.gx hφ (hx.p ((i:Int) + 1) om om)
    rcases h' with ⟨Z',k1,k3,k4⟩ | ⟨_,h',_⟩
    · have k1':=k1
      rw [hpl] at k1'
      obtain⟨hb,hmm⟩:=step_mono hx.v.gx hz.v.gx hkv.gx hkv2.gx hlt hφ hχ k1'
      have h02:0 < (vx x k).length:=by have:=Q0 x k;have:=hx.v.gx.pos;omega
      have hlen:∀ X,Z2 l (vx x k) [((plc x ((i:Int) + 1)).toNat,x.length)] X→X.length≤x.length + k.length:=fun X hX=>by
        have:=stp_len hx.v.gx.vt h02 hX
        rwa [Q0] at this
      rcases h with ⟨X',h1,h2,h3⟩ | ⟨h1,rfl,rfl⟩
      · obtain⟨a,b⟩:=Dy ks ks2 X' Z' (i + 1) ok Y Z (hx.step hkv om om h1 h2) (hz.step hkv2 om om k1 k3) (hmm _ h1) (by simpa using he) (fun p hq=>hp p (by rw [List.zip_cons_cons];exact List.mem_cons_of_mem _ hq)) (fun q hq=>hv q (List.mem_cons_of_mem _ hq)) (fun q hq=>hv2 q (List.mem_cons_of_mem _ hq)) om h0 h3 k4
        exact⟨a,fun e=>by have:=b e;have:=hlen _ h1;omega⟩
      · refine⟨fun h=>(by cases h),fun _=>?_⟩
        rcases h1 with h1 | ⟨X',hX,h6⟩
        · exact absurd hb h1
        · have:=hlen _ hX;omega
    · cases h'
theorem KX {m:Int}:∀ (ks:List (List Nd)) (x:List Nd) (i:Nat) (Y:List Nd),Jok l fs m x→(∀ k ∈ ks,GV l fs k)→(i:Int) + ks.length≤m→0≤m→Q7 l x i ks true Y→(vQ l fs Y).1=0
  | [],x,i,Y,hx,_,_,h0,h=>by
    obtain⟨_,o,ho,rfl⟩:=h
    exact(hx.v.gx.toGY.trr (hx.lt (Int.le_refl _) h0) ho).valid hx.v
  | k :: ks,x,i,Y,hx,hv,hi,h0,h=>by
    rw [List.length_cons] at hi
    rcases h with ⟨X',h1,h2,h3⟩ | ⟨_,h',_⟩
    · exact KX ks X' (i + 1) Y (hx.step (hv k (List.mem_cons_self ..)) om om h1 h2) (fun q hq=>hv q (List.mem_cons_of_mem _ hq)) om h0 h3
    · cases h'
end mon
end Go.Proofs.YtdgnllfbooklcaaDoor
namespace Go.Proofs.YtdgnllfbooklcaaDoor
open Go.RowKit
theorem tw_mk {l:List Ty} {fs:List Ft} {ga gb:List Nd} (h1:(vQ l fs ga).1=0) (h2:(vQ l fs gb).1=0):(kX l fs ga gb).1=0:=by
  have h0:(qq l fs).1=0:=by
    refine Classical.byContradiction (fun e=>?_);unfold vQ at h2;rw [if_pos e] at h2;exact e h2
  rw [Jq h0] at h1 h2;rw [C6 h0 h1];exact h2
theorem RJ {l:List Ty} {fs:List Ft} {ga gb X X2:List Nd} {ok ok2:Bool} {f f2:Fl} (h0:(kX l fs ga gb).1=0) (h:vY l fs ga gb ok f X) (k:vY l fs ga gb ok2 f2 X2):ok2=ok∧f2=f∧X2=X:=by
  obtain⟨⟨hva,hvb⟩,_⟩:=EW h0;have bd:∀ Y,Z2 l (ga ++ gb.map (shN ga.length)) [(0,ga.length)] Y→Jw l (ga ++ gb.map (shN ga.length)) [(0,ga.length)]:=fun Y hY=>by
    have hl:=I2 hva.gx hvb.gx hY;exact FV hl.gx.toGY hl.left hl.right hva.gx.toGY hvb.gx.toGY
  have uq:∀ Y Z,Z2 l (ga ++ gb.map (shN ga.length)) [(0,ga.length)] Y→Z2 l (ga ++ gb.map (shN ga.length)) [(0,ga.length)] Z→Z=Y:=fun Y Z hY hZ=>((I2 hva.gx hvb.gx hZ).uniq (I2 hva.gx hvb.gx hY))
  rcases h with ⟨h1,_⟩ | ⟨_,rfl,rfl,rfl,h5⟩ | ⟨_,rfl,rfl,rfl,Y,hY,h6⟩ | ⟨_,rfl,rfl,hX,h60⟩
  · exact absurd h0 h1
  · rcases k with ⟨h1,_⟩ | ⟨_,rfl,rfl,rfl,_⟩ | ⟨_,rfl,rfl,rfl,Z,hZ,_⟩ | ⟨_,rfl,rfl,hZ,_⟩
    · exact absurd h0 h1
    · exact⟨rfl,rfl,rfl⟩
    · exact absurd (bd _ hZ) h5
    · exact absurd (bd _ hZ) h5
  · rcases k with ⟨h1,_⟩ | ⟨_,rfl,rfl,rfl,k5⟩ | ⟨_,rfl,rfl,rfl,Z,hZ,_⟩ | ⟨_,rfl,rfl,hZ,k60⟩
    · exact absurd h0 h1
    · exact absurd (bd _ hY) k5
    · exact⟨rfl,rfl,rfl⟩
    · rw [uq _ _ hY hZ] at k60;omega
  · rcases k with ⟨h1,_⟩ | ⟨_,rfl,rfl,rfl,k5⟩ | ⟨_,rfl,rfl,rfl,Z,hZ,k6⟩ | ⟨_,rfl,rfl,hZ,_⟩
    · exact absurd h0 h1
    · exact absurd (bd _ hX) k5
    · rw [uq _ _ hX hZ] at k6;omega
    · exact⟨rfl,rfl,uq _ _ hX hZ⟩
theorem Gy {l:List Ty} {fs:List Ft} {ga gb:List Nd} (h0:(kX l fs ga gb).1=0):∃ ok f X,∀ ok' f' X',vY l fs ga gb ok' f' X'→ok'=ok∧f'=f∧X'=X∧vY l fs ga gb ok f X:=by
  by_cases h:∃ ok f X,vY l fs ga gb ok f X
  · obtain⟨ok,f,X,hX⟩:=h
    exact⟨ok,f,X,fun ok' f' X' h'=>by obtain⟨a,b,c⟩:=RJ h0 hX h';exact⟨a,b,c,hX⟩⟩
  · exact⟨false,(0,0),[],fun ok' f' X' h'=>absurd ⟨_,_,_,h'⟩ h⟩
theorem Gw {l:List Ty} {fs:List Ft} {ga gb X:List Nd} {ok:Bool} {f:Fl} (h0:(kX l fs ga gb).1=0) (h:vY l fs ga gb ok f X) (hok:ok=true):Maps l ga X∧vQ l fs X=(0,0):=by
  obtain⟨⟨hva,hvb⟩,_⟩:=EW h0;rcases h with ⟨h1,_⟩ | ⟨_,h,_⟩ | ⟨_,h,_⟩ | ⟨_,_,_,hX,h60⟩
  · exact absurd h0 h1
  · rw [hok] at h;cases h
  · rw [hok] at h;cases h
  · exact⟨(I2 hva.gx hvb.gx hX).left,GQ hva hvb hX h60⟩
section mn
variable {l:List Ty} {fs:List Ft} {rs:List Rl} {xs:List Lx} {st:List Nd} {ri:Int} {ks:List (List Nd)}
theorem OJ (h:(XQ l fs rs xs st ri ks).1=0):(vv l fs rs xs st).1=0∧¬(ri < 0∨(rs.length:Int)≤ri)∧(ks.length:Int)=kdR rs ri∧XQ l fs rs xs st ri ks=(0,0)∧∀ i (hi:i < ks.length),(qK l fs ks[i]).1=0:=by
  have g:(vv l fs rs xs st).1=0:=Classical.byContradiction (fun e=>by rw [cmb_g e] at h;exact e h);have r:¬(ri < 0∨(rs.length:Int)≤ri):=fun e=>by rw [cmb_r g e] at h;cases h
  have k:(ks.length:Int)=kdR rs ri:=Classical.byContradiction (fun e=>by rw [cmb_k g r e] at h;cases h);have hw:(qZ (wiN l fs ks) 0 ks.length).1=0:=by rw [DK g r k rfl] at h;exact h
  exact⟨g,r,k,(DK g r k rfl).trans (Nz _ _ hw),fun i hi=>by
    have h2:=Q3 _ _ hw i (Nat.zero_le _) om
    rwa [C4 hi] at h2⟩
theorem gr_one (h:(vv l fs rs xs st).1=0) {i:Nat} (hi:i < rs.length):1≤(rs[i]).kids∧(rs[i]).kids≤3:=by
  have h1:(qq l fs).1=0:=by
    refine Classical.byContradiction (fun e=>?_);rw [M4 e] at h;exact e h
  have h2:¬fs.length≤3:=fun e=>by rw [B3 h1 e] at h;cases h
  have h3:¬(40 < rs.length∨100 < xs.length):=fun e=>by rw [EZ h1 h2 e] at h;cases h
  have h4:(qZ (ux l fs rs) 0 rs.length).1=0:=by
    refine Classical.byContradiction (fun e=>?_);rw [K3 (c:=(qZ (ux l fs rs) 0 rs.length).1) (i:=(qZ (ux l fs rs) 0 rs.length).2) h1 h2 h3 rfl e] at h;exact e h
  have q5:=Q3 _ _ h4 i (Nat.zero_le _) om;have q6:yX (rs[i]).name=true:=by
    cases e:yX (rs[i]).name with
    | true=>rfl
    | false=>rw [rn10 hi e] at q5;cases q5
  have q7:oJ ((rs.take i).map (·.name)) (rs[i]).name=false:=by
    cases e:oJ ((rs.take i).map (·.name)) (rs[i]).name with
    | false=>rfl
    | true=>rw [rn7 hi q6 e] at q5;cases q5
  rw [rnF hi q6 q7] at q5;have q8:¬V5 rs[i]:=fun e=>by rw [FZ e] at q5;cases q5
  unfold V5 at q8;omega
theorem cmb_rest {y:List Nd} (h:(XQ l fs rs xs st ri ks).1=0) (h0:0 < ks.length) (hy:(qK l fs y).1=0):XQ l fs rs xs st ri (y :: ks.drop 1)=(0,0):=by
  obtain⟨g,r,k,_,hz⟩:=OJ h;have hl:(y :: ks.drop 1).length=ks.length:=by rw [List.length_cons,List.length_drop];omega
  refine DK g r (by rw [hl];exact k) (gW (fun j _ hj=>?_));have hj2:j < (y :: ks.drop 1).length:=by omega
  rw [C4 hj2]
  match j,hj2 with
  | 0,_=>exact hy
  | j + 1,hj2=>
    have h3:=hz (j + 1) om
    simpa using h3
theorem IY:∀ (kt:List (List Nd)) (p:List Nd×List Nd),p ∈ kt.zip kt→p.1=p.2∧p.1 ∈ kt
  | [],p,h=>by cases h
  | k :: kt,p,h=>by
    rw [List.zip_cons_cons] at h
    rcases List.mem_cons.1 h with rfl | h
    · exact⟨rfl,List.mem_cons_self ..⟩
    · obtain⟨a,b⟩:=IY kt p h
      exact⟨a,List.mem_cons_of_mem _ b⟩
theorem mono_end {gr y Y1 Y2:List Nd} {m:Int} {ok1 ok2:Bool} (hjk:Jok l fs m gr) (h0:0≤m) (hkv:∀ q ∈ ks,GV l fs q) (hyv:GV l fs y) (hne:0 < ks.length) (hky:Maps l (ks[0]'hne) y) (hlen:(ks.length:Int)≤m) (hJ1:Q7 l gr 0 ks ok1 Y1) (hJ2:Q7 l gr 0 (y :: ks.drop 1) ok2 Y2):(ok2=true→ok1=false→60 < gr.length + Xk ks)∧(ok1=true→ok2=true→Maps l Y1 Y2∧(vQ l fs Y1).1=0∧(vQ l fs Y2).1=0):=by
  obtain⟨k0,kt,rfl⟩:=List.exists_cons_of_length_pos hne;have hky:Maps l k0 y:=hky;have hJ2:Q7 l gr 0 (y :: kt) ok2 Y2:=hJ2;have hv2:∀ q ∈ y :: kt,GV l fs q:=fun q hq=>by
    rcases List.mem_cons.1 hq with rfl | hq
    · exact hyv
    · exact hkv q (List.mem_cons_of_mem _ hq)
  rw [List.length_cons] at hlen;have key:∀ (h:ok2=true),(ok1=true→Maps l Y1 Y2)∧(ok1=false→60 < gr.length + Xk (k0 :: kt)):=fun h=>by
    subst h;refine Dy (k0 :: kt) (y :: kt) gr gr 0 ok1 Y1 Y2 hjk hjk ⟨_,Hom.refl hjk.v.gx⟩ rfl (fun p hp=>?_) hkv hv2 (by rw [List.length_cons];omega) h0 hJ1 hJ2;rw [List.zip_cons_cons] at hp;rcases List.mem_cons.1 hp with rfl | hp
    · exact hky
    · obtain⟨a,b⟩:=IY kt p hp
      rw [← a];exact⟨_,Hom.refl (hkv _ (List.mem_cons_of_mem _ b)).gx⟩
  refine⟨fun h=>(key h).2,fun h h2=>?_⟩;have e:=(key h2).1 h;subst h h2;exact⟨e,KX (k0 :: kt) gr 0 Y1 hjk hkv (by rw [List.length_cons];omega) h0 hJ1,KX (y :: kt) gr 0 Y2 hjk hv2 (by rw [List.length_cons];omega) h0 hJ2⟩
end mn
theorem D4:∀ {ks:List (List Nd)} {k:Nat} (hk:k < ks.length),Xk (ks.take (k + 1))=Xk (ks.take k) + (ks[k]).length
  | g :: ks,0,_=>by simp [Xk]
  | g :: ks,k + 1,hk=>by
    have h:=D4 (ks:=ks) (k:=k) (by simpa using hk)
    simp only [List.take_succ_cons,Xk,List.getElem_cons_succ]
    omega
theorem Hy:∀ (ks:List (List Nd)),(∀ q ∈ ks,q.length≤60)→Xk ks≤60 * ks.length
  | [],_=>by simp [Xk]
  | k :: ks,h=>by
    have h1:=h k (List.mem_cons_self ..)
    have h2:=Hy ks (fun q hq=>h q (List.mem_cons_of_mem _ hq))
    have h3:Xk (k :: ks)=k.length + Xk ks:=by simp [Xk]
    rw [h3,List.length_cons];omega
theorem sumL_tk {ks:List (List Nd)} (h:∀ q ∈ ks,q.length≤60) (k:Nat):Xk (ks.take k)≤60 * ks.length:=by
  have h1:=Hy (ks.take k) (fun q hq=>h q (List.mem_of_mem_take hq));have h2:(ks.take k).length≤ks.length:=by rw [List.length_take];omega
  omega
theorem R7 {P:Nat→Value→Prop}:∀ n,(∀ j,j < n→∃ v,P j v)→∃ vs:List Value,vs.length=n∧∀ (j:Nat) (v:Value),vs[j]? =some v→P j v
  | 0,_=>⟨[],rfl,fun j v h=>by simp at h⟩
  | n + 1,h=>by
    obtain⟨vs,h1,h2⟩:=R7 n (fun j hj=>h j om)
    obtain⟨v,hv⟩:=h n (Nat.lt_succ_self _)
    refine⟨vs ++ [v],by rw [List.length_append,h1];rfl,fun j u hj=>?_⟩
    by_cases e:j < n
    · rw [List.getElem?_append_left om] at hj;exact h2 j u hj
    · rw [List.getElem?_append_right om,h1] at hj
      have e2:j=n:=by
        have h5:=(List.getElem?_eq_some_iff.1 hj).1;simp only [List.length_singleton] at h5;omega
      subst e2;rw [Nat.sub_self] at hj;cases hj;exact hv
def IsG (w:World) (L:List (List Nd)) (j:Nat) (v:Value):Prop:=∃ A c,v= .slice A (L.getD j []).length c∧NodesIn w A (L.getD j [])
theorem grs_cells {w:World} {b o:Nat} {L:List (List Nd)} (h:GrsIn w (some ⟨b,o,none⟩) L):∃ vs:List Value,vs.length=L.length∧∀ (j:Nat) (v:Value),vs[j]? =some v→w.cell? ⟨b,o + j,none⟩=some v∧IsG w L j v:=by
  refine R7 (P:=fun j v=>w.cell? ⟨b,o + j,none⟩=some v∧IsG w L j v) L.length (fun j hj=>?_);obtain⟨b',o',e,_,hc⟩:=h.2 (fun e=>by rw [e] at hj;cases hj);cases e;obtain⟨A,c,h1,h2⟩:=hc j hj;have e:L.getD j []=L[j]:=by simp [List.getD,hj]
  refine⟨.slice A (L[j]).length c,?_,A,c,by rw [e],by rw [e];exact h2⟩;have:=h1 0 _ rfl;rw [Nat.mul_one] at this;exact this
theorem grs_own {w:World} {base n c:Nat} {A:Option Addr} {L:List (List Nd)} {vs:List Value} (h:Own w base 30 1 A n c vs) (hn:n=L.length) (hm:n≤1000000) (hv:∀ (j:Nat) (v:Value),vs[j]? =some v→IsG w L j v):GrsIn w A L:=by
  subst hn;refine⟨by unfold j7;omega,fun hne=>?_⟩;obtain⟨g,cur,rfl,_,hb,hsz,hrd,_⟩:=h.open_ (List.length_pos_iff.2 hne);refine⟨g,0,rfl,hb.lt,fun k hk=>?_⟩;have hl:vs.length=L.length:=by have:=h.1;omega
  obtain⟨A',c',e,hN⟩:=hv k (vs[k]'om) (List.getElem?_eq_getElem _);have e2:L.getD k []=L[k]:=by simp [List.getD,hk]
  rw [e2] at e hN;refine⟨A',c',hb.range (fun j v hj=>?_),hN⟩
  match j,hj with
  | 0,hj=>
    cases hj;rw [show 0 + k * 1 + 0=k by omega,hrd k om,List.getElem?_eq_getElem om,e]
end Go.Proofs.YtdgnllfbooklcaaDoor
