/- What these functions of the program compute, at every world: glosswright/glosswrightequal.Small. What these functions of the program compute, at every world: glosswright/glosswrightref3.GrammarFault. What these functions of the program compute, at every world: . Small's grammar takes the unknown words wug and rex: 23 entries, the last one for wug. No program in sight. What these functions of the program compute, at every world: glosswright/glosswrightequal.sameSimple. What these functions of the program compute, at every world: glosswright/glosswrightequal.sameTerm. A graph whose nodes are numbered in another way: valid, and of the same canonical form. No program in sight. What is reached from a node of a valid graph is a valid graph; a path in it leads where the path leads in the graph. No program in sight. -/
import Derived.Test.YtbcpgfnfiekbiaaGreatDoorU
import Derived.Test.YtbcpgfnfiekbiaaGreatDoorTrm
import Derived.Test.YtbcpgfnfiekbiaaGreatDoorDSmC
import Derived.Test.YtbcpgfnfiekbiaaGreatDoorGRf
import Derived.Test.YtbcpgfnfiekbiaaGreatDoorHLaw
import Derived.Test.YtbcpgfnfiekbiaaGreatDoorGVd
import Derived.Test.YtbcpgfnfiekbiaaGreatDoorRws
import Derived.Test.YtbcpgfnfiekbiaaGreatDoorRng
import Derived.Test.YtbcpgfnfiekbiaaGreatDoorStk
namespace Go.Proofs.YtbcpgfnfiekbiaaGreatDoor
open Go.RowKit
theorem fn19:zZ Tryz.prog 19=true:=by kernel_rfl
theorem fn20:zZ Tryz.prog 20=true:=by kernel_rfl
theorem H2:(Tryz.prog.info? 32).map (·.size)=some 5:=by kernel_rfl
theorem sz68_DSm:(Tryz.prog.info? 68).map (·.size)=some 3:=by kernel_rfl
theorem ze32:(Tryz.prog.info? 32).map (·.zero)=some (some (.agg #[.slice none 0 0,.slice none 0 0,.slice none 0 0,.slice none 0 0,.slice none 0 0])):=by kernel_rfl
theorem ze68_DSm:(Tryz.prog.info? 68).map (·.zero)=some (some (.agg #[.string ⟨#[]⟩,.int .i64 0,.int .i64 0])):=by kernel_rfl
theorem ze9:(Tryz.prog.info? 9).map (·.zero)=some (some (.string ⟨#[]⟩)):=by kernel_rfl
set_option maxHeartbeats 8000000 in
theorem small_d (w:World):Calls Tryz.prog 5 #[] w fun e w'=>(∃ v,e= .returned v∧GmD smallT smallF smallR smallX smallS w w' v)∧Bel w w':=by
 refine enT Tryz.func5 Tryz.ntmps5 rfl rfl fun hB=>?_;refine zn2 ?_;refine zY (cs:=#[.slice none 0 0,.slice none 0 0,.slice none 0 0,.slice none 0 0,.slice none 0 0]) ze32 rfl (fun b0 w1 hb0 s1 hr=>?_);have lo0:=nLT (Bel.size hB) hr;refine zn4 ?_;refine zJ W1 (oX _ _) rfl (fun e' w2 hr=>?_);obtain⟨rfl,s2⟩:=hr;replace s2:=sB s2;refine⟨_,rfl,?_⟩;refine zJ W1 (oX _ _) rfl (fun e' w3 hr=>?_);obtain⟨rfl,s3⟩:=hr;replace s3:=sB s3;refine⟨_,rfl,?_⟩;refine zY (cs:=#[.string ⟨#[]⟩,.slice none 0 0]) yW rfl (fun b1 w4 hb1 s4 hr=>?_);have:=nLL hb0.u.lt hr;have lo1:=nLT (Bel.size hB.u) hr;refine zY (cs:=#[.string ⟨#[]⟩,.slice none 0 0]) yW rfl (fun b2 w5 hb2 s5 hr=>?_);have:=nLL hb0.u.lt hr;have:=nLL hb1.lt hr;have lo2:=nLT (Bel.size hB.u) hr;refine zj hb1.u rfl rfl xz rfl zX (fun w6 hq s6=>?_);replace hb1:=hq;refine zj hb2.u rfl rfl xz rfl zX (fun w7 hq s7=>?_);replace hb2:=hq;refine zn6 ?_;refine zJ Yx (gK [] (Ts.b false) (Ts.b true) _ _ _ _ _ _ _ (by simp) (Fz.triv _ _ TS (fun _=>SimsIn.nil)) (Fz.triv _ _ TS (fun _=>SimsIn.nil))) rfl (fun e' w8 hr=>?_);obtain⟨⟨_,rfl,A12,c12,n12,rfl,hP12⟩,s8⟩:=hr;replace s8:=sB s8;refine⟨_,rfl,?_⟩;refine xW (cs:=#[.string ⟨#[]⟩,.slice none 0 0]) yW rfl (fun _=>rfl) (fun _=>rfl) xz rfl zX (fun b3 w10 hb3 s9 hr=>?_);refine zn6 ?_;replace hP12:=hP12.tr0 s9;refine zJ Yx (gK [] (Ts.b false) (Ts.f (Ts.b false) (Ts.b true)) _ _ _ _ _ _ _ (by simp) (Fz.triv _ _ TS (fun _=>SimsIn.nil)) hP12) rfl (fun e' w11 hr=>?_);obtain⟨⟨_,rfl,A15,c15,n15,rfl,hP15⟩,s10⟩:=hr;replace s10:=sB s10;refine⟨_,rfl,?_⟩;refine xW (cs:=#[.string ⟨#[]⟩,.slice none 0 0]) yW rfl (fun _=>rfl) (fun _=>rfl) xz rfl zX (fun b4 w13 hb4 s11 hr=>?_);refine zn4 ?_;refine zY (cs:=#[.slice none 0 0,.slice none 0 0,.slice none 0 0,.slice none 0 0,.slice none 0 0]) ze32 rfl (fun b5 w14 hb5 s12 hr=>?_);have or_b0_b5:b0 < b5:=nLL hb0.u.lt hr;have or_b1_b5:b1 < b5:=nLL hb1.u.lt hr;have or_b2_b5:b2 < b5:=nLL hb2.u.lt hr;have or_b3_b5:b3 < b5:=nLL hb3.u.lt hr;have or_b4_b5:b4 < b5:=nLL hb4.lt hr;have lo5:=nLT (Bel.size hB.u) hr;refine zn4 ?_;refine qv (cs:=#[_,_,_,_,_,_,_,_,_,_,_,_,_,_,_]) [(0,.string _),(1,.string _),(2,.string _),(3,.string _),(4,.string _),(5,.string _),(6,.string _),(7,.string _),(8,.string _),(9,.string _),(10,.string _),(11,.string _),(12,.string _),(13,.string _),(14,.string _)] rfl U33 sz9_DHo ze9 dE dE kR rfl (fun b16 w15 hb16 s13 hr=>?_)
 refine qv (cs:=#[_,_,_,_,_,_,_,_,_,_,_,_,_,_,_]) [(0,.int _ _),(1,.int _ _),(2,.int _ _),(3,.int _ _),(4,.int _ _),(5,.int _ _),(6,.int _ _),(7,.int _ _),(8,.int _ _),(9,.int _ _),(10,.int _ _),(11,.int _ _),(12,.int _ _),(13,.int _ _),(14,.int _ _)] rfl U66 Cv qz dE dE kR rfl (fun b17 w16 hb17 s14 hr=>?_);refine wl (I5 (v0:= .string _) (v1:= .int _ _) (v2:= .int _ _) (fun v0 v1 v2=>#[v0,v1,v2]) rfl rfl rfl kR) (wl (I5 (v0:= .string _) (v1:= .int _ _) (v2:= .int _ _) (fun v0 v1 v2=>#[v0,v1,v2]) rfl rfl rfl kR) (wl (I5 (v0:= .string _) (v1:= .int _ _) (v2:= .int _ _) (fun v0 v1 v2=>#[v0,v1,v2]) rfl rfl rfl kR) (wl (I5 (v0:= .string _) (v1:= .int _ _) (v2:= .int _ _) (fun v0 v1 v2=>#[v0,v1,v2]) rfl rfl rfl kR) (wl (I5 (v0:= .string _) (v1:= .int _ _) (v2:= .int _ _) (fun v0 v1 v2=>#[v0,v1,v2]) rfl rfl rfl kR) ?_))));refine qv (cs:=#[_,_,_,_,_,_,_,_,_,_,_,_,_,_,_]) [(0,.agg _),(1,.agg _),(2,.agg _),(3,.agg _),(4,.agg _)] rfl U23 sz68_DSm ze68_DSm dE dE kR rfl (fun b23 w17 hb23 s15 hr=>?_);refine zJ fn19 (Py (some ⟨b16,0,none⟩) (some ⟨b17,0,none⟩) _ _ _ _ _ H8 H7 _ (R0 H8 hb16.u) (qj H7 hb17.u dE) dE rfl) rfl (fun e' w18 hr=>?_);obtain⟨⟨At,capt,rfl,hTy⟩,s16⟩:=hr;replace s16:=sB s16;replace hb23:=hb23.tr0 s16;have hFe:=(Fz.blk (X:=[]) (ts:=TS) hb23 (by simp) (Mj dE dE dE _)).imp (fun _ h=>Sv smallF h dE);replace hTy:Fz [] _ TS w18 (fun w=>TypesIn w At smallT):=hTy;refine⟨_,rfl,?_⟩;refine zn1 ?_;replace hb5:=hb5.tr0 (s13.trans (s14.trans (s15.trans s16)));refine oW hb5 rfl rfl EW (by first | decide | simp) zX rfl (fun w19 hq s17=>?_);replace hP12:=hP12.tr0 (s10.trans (s11.trans (s12.trans (s13.trans (s14.trans (s15.trans s16))))));replace hP12:=hP12.sp1 s17 hb5 (.inl dE);replace hP15:=hP15.tr0 (s11.trans (s12.trans (s13.trans (s14.trans (s15.trans s16)))));replace hP15:=hP15.sp1 s17 hb5 (.inl dE);replace hTy:=hTy.sp1 s17 hb5 (.inl dE);replace hFe:=hFe.sp1 s17 hb5 (.inl dE);replace hb5:=hq;refine zn4 ?_;refine zJ fn20 (L8 _) rfl (fun e' w20 hr=>?_);obtain⟨⟨bm,csm,nm,rfl,hbm,hTm⟩,s18⟩:=hr;replace s18:=sB s18;refine⟨_,rfl,?_⟩;refine zn4 ?_;refine y7 (rg [] 27 68) (fun g w'=>Same [b5] w20 w'∧∃ b93 cr nRl,w20.heap.size≤b93∧Blk w' b93 54 cr∧Fz [] nRl TS w' (fun w=>RlCs w smallR cr.toList)∧Blk w' b5 32 #[.slice At 15 capt,.slice (some ⟨b23,0,none⟩) 5 5,.slice (some ⟨b93,0,none⟩) 6 6,.slice none 0 0,.slice none 0 0]) ?_ (fun g7 w21 hI=>?_)
 ·replace hb5:=hb5.tr0 s18;have hh:=fun f Q k0 k1 kq=>small_r7 hb5 hbm hTm f Q k0 k1 kq
  exact hh _ _ (by rfl) (by rfl) (by intro d;cases d <;> exact fun _ _ _ _ h=>h)
 obtain⟨hS5,b93,cr,nRl,hn93,hb93,hRl,hb5n⟩:=hI;have o593:b5 < b93:=nLL hb5.u.lt hn93;replace hB:=(((((hB.tr0 (s1.trans (s2.trans (s3.trans (s4.trans s5))))).tr1 s6 lo1).tr1 s7 lo2).tr0 (s8.trans (s9.trans (s10.trans (s11.trans (s12.trans (s13.trans (s14.trans (s15.trans s16))))))))).tr1 s17 lo5).tr0 s18;have lo93:=nLT (Bel.size hB) hn93;replace hB:=hB.tr1 hS5 lo5;replace hb0:=(((((hb0.tr0 (s2.trans (s3.trans (s4.trans s5)))).tr1 s6 om).tr1 s7 om).tr0 (s8.trans (s9.trans (s10.trans (s11.trans (s12.trans (s13.trans (s14.trans (s15.trans s16))))))))).tr1 s17 om).tr0 s18;replace hb0:=hb0.tr1 hS5 om;replace hb1:=(((hb1.tr1 s7 om).tr0 (s8.trans (s9.trans (s10.trans (s11.trans (s12.trans (s13.trans (s14.trans (s15.trans s16))))))))).tr1 s17 om).tr0 s18;replace hb1:=hb1.tr1 hS5 om;replace hb2:=((hb2.tr0 (s8.trans (s9.trans (s10.trans (s11.trans (s12.trans (s13.trans (s14.trans (s15.trans s16))))))))).tr1 s17 om).tr0 s18;replace hb2:=hb2.tr1 hS5 om;replace hb3:=((hb3.tr0 (s10.trans (s11.trans (s12.trans (s13.trans (s14.trans (s15.trans s16))))))).tr1 s17 om).tr0 s18;replace hb3:=hb3.tr1 hS5 om;replace hb4:=((hb4.tr0 (s12.trans (s13.trans (s14.trans (s15.trans s16))))).tr1 s17 om).tr0 s18;replace hb4:=hb4.tr1 hS5 om;replace hb5:=hb5.tr0 s18;replace hTy:=hTy.tr0 s18;replace hTy:=hTy.sp1 hS5 hb5 (.inl dE);replace hFe:=hFe.tr0 s18;replace hFe:=hFe.sp1 hS5 hb5 (.inl dE);replace hP12:=hP12.tr0 s18;replace hP12:=hP12.sp1 hS5 hb5 (.inl dE);replace hP15:=hP15.tr0 s18;replace hP15:=hP15.sp1 hS5 hb5 (.inl dE);replace hb5:=hb5n;refine zn3 ?_;refine wl (r_mf rfl) (zn4 ?_);obtain⟨base,hbase⟩:∃ b,b=w21.heap.size:=⟨_,rfl⟩
 have hI:SmSt smallT smallF smallR b0 b1 b2 b3 b4 b5 b23 b93 base capt c12 c15 At A12 A15 cr 0 Ny w w21:=⟨⟨hB,Nat.le_of_eq hbase,hb0,hb1,hb2,hb3,hb4,hb93,by rw [hbase];exact hTy.and (hFe.and hRl),by rw [hbase];exact hP12.up,by rw [hbase];exact hP15.up,lo5,lo93,⟨or_b0_b5,or_b1_b5,or_b2_b5,or_b3_b5,or_b4_b5,o593⟩,⟨by rw [hbase];exact hb5.lt,by rw [hbase];exact hb93.lt⟩⟩,none,0,[],_,hb5,Own.nil _ _ _ _,Fz.triv [] _ TS (fun _=>LxData.nil)⟩
 refine y7 [96,97,98,99,100,101] (fun g w'=>SmSt smallT smallF smallR b0 b1 b2 b3 b4 b5 b23 b93 base capt c12 c15 At A12 A15 cr 1 KK w w') ?_ (fun g9 w22 hI=>?_)
 ·have hh:=fun f Q k0 kq=>small_r9 hI f Q k0 kq
  exact hh _ _ (by rfl) (by intro d;cases d <;> exact fun _ _ _ _ h=>h)
 obtain hI:=hI;refine e_S (xv ?_);refine y7 [102,103,104,105,106,107] (fun g w'=>SmSt smallT smallF smallR b0 b1 b2 b3 b4 b5 b23 b93 base capt c12 c15 At A12 A15 cr 2 KJ w w') ?_ (fun g10 w23 hI=>?_)
 ·have hh:=fun f Q k0 kq=>small_r10 hI f Q k0 kq
  exact hh _ _ (by rfl) (by intro d;cases d <;> exact fun _ _ _ _ h=>h)
 obtain hI:=hI;refine e_S (xv ?_);refine y7 [108,109,110,111,112] (fun g w'=>SmSt smallT smallF smallR b0 b1 b2 b3 b4 b5 b23 b93 base capt c12 c15 At A12 A15 cr 3 KX w w') ?_ (fun g11 w24 hI=>?_)
 ·have hh:=fun f Q k0 kq=>small_r11 hI f Q k0 kq
  exact hh _ _ (by rfl) (by intro d;cases d <;> exact fun _ _ _ _ h=>h)
 obtain hI:=hI;refine e_S (xv ?_);refine y7 [113,114,115,116,117,118,119] (fun g w'=>SmSt smallT smallF smallR b0 b1 b2 b3 b4 b5 b23 b93 base capt c12 c15 At A12 A15 cr 4 KQ w w') ?_ (fun g12 w25 hI=>?_)
 ·have hh:=fun f Q k0 k1 kq=>small_r12 hI f Q k0 k1 kq
  exact hh _ _ (by rfl) (by rfl) (by intro d;cases d <;> exact fun _ _ _ _ h=>h)
 obtain hI:=hI;refine e_S (xv ?_);refine y7 [120,121,122,123,124,125,126] (fun g w'=>SmSt smallT smallF smallR b0 b1 b2 b3 b4 b5 b23 b93 base capt c12 c15 At A12 A15 cr 5 KZ w w') ?_ (fun g13 w26 hI=>?_)
 ·have hh:=fun f Q k0 k1 kq=>small_r13 hI f Q k0 k1 kq
  exact hh _ _ (by rfl) (by rfl) (by intro d;cases d <;> exact fun _ _ _ _ h=>h)
 obtain hI:=hI;refine e_S (xv ?_);refine y7 [127,128,129,130,131,132,133] (fun g w'=>SmSt smallT smallF smallR b0 b1 b2 b3 b4 b5 b23 b93 base capt c12 c15 At A12 A15 cr 6 Ky w w') ?_ (fun g14 w27 hI=>?_)
 ·have hh:=fun f Q k0 k1 kq=>small_r14 hI f Q k0 k1 kq
  exact hh _ _ (by rfl) (by rfl) (by intro d;cases d <;> exact fun _ _ _ _ h=>h)
 obtain hI:=hI;refine e_S (xv ?_);refine y7 [134,135,136,137,138,139,140] (fun g w'=>SmSt smallT smallF smallR b0 b1 b2 b3 b4 b5 b23 b93 base capt c12 c15 At A12 A15 cr 7 Kv w w') ?_ (fun g15 w28 hI=>?_)
 ·have hh:=fun f Q k0 k1 kq=>small_r15 hI f Q k0 k1 kq
  exact hh _ _ (by rfl) (by rfl) (by intro d;cases d <;> exact fun _ _ _ _ h=>h)
 obtain hI:=hI;refine e_S (xv ?_);refine y7 [141,142,143,144,145,146,147] (fun g w'=>SmSt smallT smallF smallR b0 b1 b2 b3 b4 b5 b23 b93 base capt c12 c15 At A12 A15 cr 8 Kk w w') ?_ (fun g16 w29 hI=>?_)
 ·have hh:=fun f Q k0 k1 kq=>small_r16 hI f Q k0 k1 kq
  exact hh _ _ (by rfl) (by rfl) (by intro d;cases d <;> exact fun _ _ _ _ h=>h)
 obtain hI:=hI;refine e_S (xv ?_);refine y7 [148,149,150,151,152,153,154] (fun g w'=>SmSt smallT smallF smallR b0 b1 b2 b3 b4 b5 b23 b93 base capt c12 c15 At A12 A15 cr 9 Kj w w') ?_ (fun g17 w30 hI=>?_)
 ·have hh:=fun f Q k0 k1 kq=>small_r17 hI f Q k0 k1 kq
  exact hh _ _ (by rfl) (by rfl) (by intro d;cases d <;> exact fun _ _ _ _ h=>h)
 obtain hI:=hI;refine e_S (xv ?_);refine y7 [155,156,157,158,159,160,161] (fun g w'=>SmSt smallT smallF smallR b0 b1 b2 b3 b4 b5 b23 b93 base capt c12 c15 At A12 A15 cr 10 V4 w w') ?_ (fun g18 w31 hI=>?_)
 ·have hh:=fun f Q k0 k1 kq=>small_r18 hI f Q k0 k1 kq
  exact hh _ _ (by rfl) (by rfl) (by intro d;cases d <;> exact fun _ _ _ _ h=>h)
 obtain hI:=hI;refine e_S (xv ?_);refine y7 [162,163,164,165,166,167,168] (fun g w'=>SmSt smallT smallF smallR b0 b1 b2 b3 b4 b5 b23 b93 base capt c12 c15 At A12 A15 cr 11 V3 w w') ?_ (fun g19 w32 hI=>?_)
 ·have hh:=fun f Q k0 k1 kq=>small_r19 hI f Q k0 k1 kq
  exact hh _ _ (by rfl) (by rfl) (by intro d;cases d <;> exact fun _ _ _ _ h=>h)
 obtain hI:=hI;refine e_S (xv ?_);refine y7 [169,170,171,172,173,174,175] (fun g w'=>SmSt smallT smallF smallR b0 b1 b2 b3 b4 b5 b23 b93 base capt c12 c15 At A12 A15 cr 12 V2 w w') ?_ (fun g20 w33 hI=>?_)
 ·have hh:=fun f Q k0 k1 kq=>small_r20 hI f Q k0 k1 kq
  exact hh _ _ (by rfl) (by rfl) (by intro d;cases d <;> exact fun _ _ _ _ h=>h)
 obtain hI:=hI;refine e_S (xv ?_);refine y7 [176,177,178,179,180,181,182] (fun g w'=>SmSt smallT smallF smallR b0 b1 b2 b3 b4 b5 b23 b93 base capt c12 c15 At A12 A15 cr 13 V1 w w') ?_ (fun g21 w34 hI=>?_)
 ·have hh:=fun f Q k0 k1 kq=>small_r21 hI f Q k0 k1 kq
  exact hh _ _ (by rfl) (by rfl) (by intro d;cases d <;> exact fun _ _ _ _ h=>h)
 obtain hI:=hI;refine e_S (xv ?_);refine y7 [183,184,185,186,187,188,189] (fun g w'=>SmSt smallT smallF smallR b0 b1 b2 b3 b4 b5 b23 b93 base capt c12 c15 At A12 A15 cr 14 V0 w w') ?_ (fun g22 w35 hI=>?_)
 ·have hh:=fun f Q k0 k1 kq=>small_r22 hI f Q k0 k1 kq
  exact hh _ _ (by rfl) (by rfl) (by intro d;cases d <;> exact fun _ _ _ _ h=>h)
 obtain hI:=hI;refine e_S (xv ?_);refine y7 [190,191,192,193,194,195,196] (fun g w'=>SmSt smallT smallF smallR b0 b1 b2 b3 b4 b5 b23 b93 base capt c12 c15 At A12 A15 cr 15 YY w w') ?_ (fun g23 w36 hI=>?_)
 ·have hh:=fun f Q k0 k1 kq=>small_r23 hI f Q k0 k1 kq
  exact hh _ _ (by rfl) (by rfl) (by intro d;cases d <;> exact fun _ _ _ _ h=>h)
 obtain hI:=hI;refine e_S (xv ?_);refine y7 [197,198,199,200,201,202,203] (fun g w'=>SmSt smallT smallF smallR b0 b1 b2 b3 b4 b5 b23 b93 base capt c12 c15 At A12 A15 cr 16 YW w w') ?_ (fun g24 w37 hI=>?_)
 ·have hh:=fun f Q k0 k1 kq=>small_r24 hI f Q k0 k1 kq
  exact hh _ _ (by rfl) (by rfl) (by intro d;cases d <;> exact fun _ _ _ _ h=>h)
 obtain hI:=hI;refine e_S (xv ?_);refine y7 [204,205,206,207,208,209,210] (fun g w'=>SmSt smallT smallF smallR b0 b1 b2 b3 b4 b5 b23 b93 base capt c12 c15 At A12 A15 cr 17 YV w w') ?_ (fun g25 w38 hI=>?_)
 ·have hh:=fun f Q k0 k1 kq=>small_r25 hI f Q k0 k1 kq
  exact hh _ _ (by rfl) (by rfl) (by intro d;cases d <;> exact fun _ _ _ _ h=>h)
 obtain hI:=hI;refine e_S (xv ?_);refine y7 (rg [] 211 8) (fun g w'=>SmSt smallT smallF smallR b0 b1 b2 b3 b4 b5 b23 b93 base capt c12 c15 At A12 A15 cr 18 YK w w') ?_ (fun g26 w39 hI=>?_)
 ·have hh:=fun f Q k0 k1 kq=>small_r26 hI f Q k0 k1 kq
  exact hh _ _ (by rfl) (by rfl) (by intro d;cases d <;> exact fun _ _ _ _ h=>h)
 obtain hI:=hI;refine e_S (xv ?_);refine y7 (rg [] 219 10) (fun g w'=>SmSt smallT smallF smallR b0 b1 b2 b3 b4 b5 b23 b93 base capt c12 c15 At A12 A15 cr 19 YJ w w') ?_ (fun g27 w40 hI=>?_)
 ·have hh:=fun f Q k0 k1 kq=>small_r27 hI f Q k0 k1 kq
  exact hh _ _ (by rfl) (by rfl) (by intro d;cases d <;> exact fun _ _ _ _ h=>h)
 obtain hI:=hI;refine e_S (xv ?_);refine y7 (rg [] 229 11) (fun g w'=>SmSt smallT smallF smallR b0 b1 b2 b3 b4 b5 b23 b93 base capt c12 c15 At A12 A15 cr 20 YX w w') ?_ (fun g28 w41 hI=>?_)
 ·have hh:=fun f Q k0 k1 k2 kq=>small_r28 hI f Q k0 k1 k2 kq
  exact hh _ _ (by rfl) (by rfl) (by rfl) (by intro d;cases d <;> exact fun _ _ _ _ h=>h)
 obtain hI:=hI;refine e_S (xv ?_);refine y7 (rg [] 240 11) (fun g w'=>SmSt smallT smallF smallR b0 b1 b2 b3 b4 b5 b23 b93 base capt c12 c15 At A12 A15 cr 21 O0 w w') ?_ (fun g29 w42 hI=>?_)
 ·have hh:=fun f Q k0 k1 k2 kq=>small_r29 hI f Q k0 k1 k2 kq
  exact hh _ _ (by rfl) (by rfl) (by rfl) (by intro d;cases d <;> exact fun _ _ _ _ h=>h)
 obtain hI:=hI;refine e_S (xv ?_);obtain⟨hC,A,cap,xs,nL,hb5,ho,hL⟩:=hI;have hB:=hC.bel;have hb0:=hC.k0;have hb93:=hC.k93;have hD:=hC.dt;have lo5:=hC.lo5;obtain⟨o0,_,_,_,_,o9⟩:=hC.o;obtain⟨l5,l9⟩:=hC.l;refine P2 ?_;refine qv (cs:=#[_]) [(0,.int _ _)] rfl U66 Cv qz dE dE kR rfl (fun b251 w43 hb251 s19 hr=>?_);refine qv (cs:=#[_]) [(0,.slice _ _ _)] rfl U71 Tk xj dE dE kR rfl (fun b252 w44 hb252 s20 hr=>?_);refine zJ W0 (oZ _ _ [[6]] _ (qJ (rs:=[[6]]) hb252 (.cons ⟨_,_,rfl,qj [6] hb251.u dE,by decide,by decide⟩ .nil) dE)) rfl (fun e' w45 hr=>?_);obtain⟨⟨Ast,cst,rfl,hSt⟩,s21⟩:=hr;replace s21:=sB s21;refine⟨_,rfl,?_⟩;refine zn1 ?_;replace hb5:=hb5.tr0 (s19.trans (s20.trans s21));refine oW hb5 rfl rfl EV (by first | decide | simp) zX rfl (fun w46 hq s22=>?_);replace hD:=hD.tr0 (s19.trans (s20.trans s21));replace hD:=hD.sp1 s22 hb5 (.inl dE);replace ho:=ho.tr0 (s19.trans (s20.trans s21));replace ho:=ho.tq s22;replace hL:=hL.tr0 (s19.trans (s20.trans s21));replace hL:=hL.sp1 s22 hb5 (.inl dE);replace hSt:=hSt.sp1 s22 hb5 (.inl dE);replace hb5:=hq;refine zn5 ?_;refine zj hb0.u rfl rfl H2 rfl zX (fun w47 hq s23=>?_);replace hb0:=(hb0.tr0 (s19.trans (s20.trans s21))).tr1 s22 om;replace hD:=hD.sp1 s23 hb0 (.inl dE);replace ho:=ho.tq s23;replace hL:=hL.sp1 s23 hb0 (.inl dE);replace hSt:=hSt.sp1 s23 hb0 (.inl dE);replace hb0:=hq;refine zn3 ?_;refine x8 (.inl rfl) rfl (zk U32 rfl rfl hb0.range0 H2) ?_;have hsb:∀ t ∈ [54],t ∈ TS:=by decide
 have hfin:=((hD.sub hsb).and ((((ho.fz (ts:=[54]) (Mj dE dE dE)).and (hL.sub hsb)).imp (fun _ h=>gof_lexes h.1 h.2)).and (hSt.sub hsb))).imp (Q:=fun w=>TypesIn w At smallT∧FeatsIn w (some ⟨b23,0,none⟩) smallF∧RlCs w smallR cr.toList∧LexesIn w A smallX∧NodesIn w Ast smallS) (fun _ h=>⟨h.1.1,h.1.2.1,h.1.2.2,h.2.1,h.2.2⟩);replace hB:=((hB.tr0 (s19.trans (s20.trans s21))).tr1 s22 lo5).tr1 s23 lo0;replace hb93:=((hb93.tr0 (s19.trans (s20.trans s21))).tr1 s22 om).tr1 s23 om;exact⟨⟨_,rfl,At,capt,some ⟨b23,0,none⟩,5,b93,cr,A,cap,Ast,cst,_,rfl,hC.lo93,(show (smallX).length≤cap from ho.cap_le),hb93,hfin⟩,hB⟩
end Go.Proofs.YtbcpgfnfiekbiaaGreatDoor
namespace Go.Proofs.YtbcpgfnfiekbiaaGreatDoor
open Go.RowKit
theorem fn29:zZ Tryz.prog 29=true:=by kernel_rfl
theorem fn31:zZ Tryz.prog 31=true:=by kernel_rfl
theorem fn32:zZ Tryz.prog 32=true:=by kernel_rfl
theorem Tw:(Tryz.prog.info? 46).map (·.size)=some 9:=by kernel_rfl
theorem Yw:(Tryz.prog.info? 54).map (·.size)=some 10:=by kernel_rfl
theorem ze46_GFt:(Tryz.prog.info? 46).map (·.zero)=some (some (.agg #[.string ⟨#[]⟩,.slice none 0 0,.int .i64 0,.int .i64 0,.string ⟨#[]⟩,.int .i64 0,.string ⟨#[]⟩,.slice none 0 0,.slice none 0 0])):=by kernel_rfl
theorem SK:(Tryz.prog.info? 54).map (·.zero)=some (some (.agg #[.string ⟨#[]⟩,.slice none 0 0,.int .i64 0,.int .i64 0,.int .i64 0,.string ⟨#[]⟩,.int .i64 0,.string ⟨#[]⟩,.slice none 0 0,.slice none 0 0])):=by kernel_rfl
set_option maxHeartbeats 2000000 in
theorem PJ (AT AF AR AX AS:Option Addr) (ct cf cr cx cst:Nat) (l:List Ty) (fs:List Ft) (rs:List Rl) (xs:List Lx) (st:List Nd) (w:World) (hct:l.length≤ct) (hcf:fs.length≤cf) (hcr:rs.length≤cr) (hTy:TypesIn w AT l) (hF:FeatsIn w AF fs) (hRu:RulesIn w AR rs) (hLx:LexesIn w AX xs) (hG:NodesIn w AS st):Calls Tryz.prog 7 #[.agg #[.slice AT l.length ct,.slice AF fs.length cf,.slice AR rs.length cr,.slice AX xs.length cx,.slice AS st.length cst]] w fun e w'=>e= .returned (flV (jv l fs rs xs st))∧Bel w w':=by
 refine enT Tryz.func7 Tryz.ntmps7 rfl rfl fun hB=>?_;refine zn2 ?_;refine qK (v:= .agg #[_,_,_,_,_]) (cs:=#[_,_,_,_,_]) rfl rfl (fun b1 w1 hb1 s1 hr=>?_);refine zY (cs:=#[.int .i64 0,.int .i64 0]) qk rfl (fun b2 w2 hb2 s2 hr=>?_);have lo2:=nLT (Bel.size hB.u) hr;refine zn6 ?_;refine wl (zV U25 rfl rfl (hb1.u.sub (n:=2) (xs:=[_,_]) rfl) IY) ?_;refine zJ fn29 (PZ AT AF ct cf l fs _ hct hcf (hTy.mono hB.u) (hF.mono hB.u)) rfl (fun e' w3 hr=>?_);obtain⟨rfl,s3⟩:=hr;replace s3:=sB s3;refine⟨_,rfl,?_⟩;refine xW (cs:=#[.int .i64 0,.int .i64 0]) qk rfl (fun _=>rfl) (fun _=>rfl) z4 rfl zX (fun b3 w5 hb3 s4 hr=>?_);refine zn9 ?_;refine zy rfl (fun c18=>?_) (fun c18=>?_)
 ·refine zn3 ?_;refine zj hb2.u rfl rfl z4 rfl zX (fun w6 hq s5=>?_);replace hb2:=hq;refine zn4 ?_;refine x8 (.inl rfl) rfl (zk U36 rfl rfl hb2.range0 z4) ?_;exact⟨qQ (gr_hier c18),hB.u⟩
 have h0:=Decidable.not_not.1 c18;have hS:=YQ h0;have hfo:=OZ h0;have h40:=C3 h0;refine y8 ?_;refine zy rfl (fun c24=>?_) (fun c24=>?_)
 ·refine zn2 ?_;refine wl (yv (v0:= .int _ _) (v1:= .int _ _) (fun v0 v1=>#[v0,v1]) rfl rfl kR) ?_;refine zj hb2.u rfl rfl z4 rfl zX (fun w7 hq s6=>?_);replace hb2:=hq;refine zn4 ?_;refine x8 (.inl rfl) rfl (zk U36 rfl rfl hb2.range0 z4) ?_;exact⟨qQ (gr_few h0 om),hB.u⟩
 have hf3:¬fs.length≤3:=by omega
 refine zn4 ?_;replace hB:=hB.tr0 (s1.trans (s2.trans (s3.trans s4)));replace hb2:=hb2.tr0 (s3.trans s4);refine x6 (rg [] 26 10) 35 (.bool (decide (40 < rs.length∨100 < xs.length))) nu ?_ (fun gq=>?_)
 ·refine zn6 ?_;refine zx 30 rfl (fun g30=>?_) (fun g30=>?_)
  ·refine zn5 ?_;refine zw (e_R ⟨rfl,agA,?_⟩);exact clA
  refine zn9 ?_;refine zw (e_R ⟨rfl,agA,?_⟩);exact clA
 refine e_S ?_;refine zy rfl (fun h38=>?_) (fun h38=>?_)
 ·refine zn2 ?_;refine wl (yv (v0:= .int _ _) (v1:= .int _ _) (fun v0 v1=>#[v0,v1]) rfl rfl kR) ?_;refine zj hb2 rfl rfl z4 rfl zX (fun w8 hq s7=>?_);replace hb2:=hq;refine zn4 ?_;refine x8 (.inl rfl) rfl (zk U36 rfl rfl hb2.range0 z4) ?_;exact⟨qQ (gr_many h0 hf3 h38),hB.u⟩
 refine y8 ?_;refine zK (rg [4,5,7,8] 40 38) (fun m g w'=>∃ k:Nat,k≤rs.length∧m=rs.length - k∧g 40= .int .i64 k∧Bel w w'∧Blk w' b1 32 #[.slice AT l.length ct,.slice AF fs.length cf,.slice AR rs.length cr,.slice AX xs.length cx,.slice AS st.length cst]∧Blk w' b2 36 #[.int .i64 0,.int .i64 0]∧zW (uw l fs rs) 0 rs.length=zW (uw l fs rs) k (rs.length - k)) (rs.length) ?_ (fun m g9 w9 hI=>?_)
 ·exact⟨0,Nat.zero_le _,rfl,rfl,hB,hb1.u,hb2,rfl⟩
 obtain⟨k,hk,hm,h40s,hB,hb1,hb2,hR'⟩:=hI;refine zQ 40 _ h40s nu (zn6 ?_);refine zy rfl (fun c41=>?_) (fun c41=>?_)
 ·have hlt:k < rs.length:=by omega
  obtain⟨tb,to,Gk,cgk,Sk,csk,Bk,mk,rfl,htb,htr,hGk,hSk,hTk⟩:=hRu.at_ hB hlt;refine zn8 ?_;refine wl (zV U54 rfl rfl htr Yw) ?_;refine zY (cs:=#[.string ⟨#[]⟩,.slice none 0 0,.int .i64 0,.int .i64 0,.int .i64 0,.string ⟨#[]⟩,.int .i64 0,.string ⟨#[]⟩,.slice none 0 0,.slice none 0 0]) SK rfl (fun b5 w10 hb5 s8 hr=>?_);have:=nLL hb1.lt hr;have:=nLL hb2.lt hr;have lo5:=nLT (Bel.size hB) hr;refine waI rfl ?_;refine zj hb5 rfl rfl Yw rfl zX (fun w11 hq s9=>?_);replace hb5:=hq;refine zn7 ?_;refine zJ N5 (M9 _ _) rfl (fun e' w12 hr=>?_);obtain⟨rfl,s10⟩:=hr;replace s10:=sB s10;refine⟨_,rfl,?_⟩;refine zn3 ?_;refine vw rfl (fun c48=>?_) (fun c48=>?_)
  ·have hty:=rn10 (l:=l) (fs:=fs) hlt (by simpa using c48);refine zn3 ?_;refine wl (yv (v0:= .int _ _) (v1:= .int _ _) (fun v0 v1=>#[v0,v1]) rfl rfl kR) ?_;refine zj hb2.u rfl rfl z4 rfl zX (fun w13 hq s11=>?_);replace hb2:=hq;refine zn9 ?_;refine x8 (.inl rfl) rfl (zk U36 rfl rfl hb2.range0 z4) ?_;replace hB:=(((hB.tr0 s8).tr1 s9 lo5).tr0 s10).tr1 s11 lo2;exact⟨qQ (J2 h0 hf3 h38 (hR'.trans (qw om hty (show (10:Int)≠0 by decide))) (show (10:Int)≠0 by decide)),hB⟩
  have hnm:xK (rs[k]'hlt).name=true:=by simpa using c48
  refine zn8 ?_;refine wl (Dj (h:=k) U26 Yw rfl rfl om) (zn5 ?_);refine zK (rg [7] 56 12) (fun m g w'=>∃ j:Nat,j≤k∧m=k - j∧g 56= .int .i64 j∧Bel w w'∧Blk w' b1 32 #[.slice AT l.length ct,.slice AF fs.length cf,.slice (some ⟨tb,to,none⟩) rs.length cr,.slice AX xs.length cx,.slice AS st.length cst]∧Blk w' b2 36 #[.int .i64 0,.int .i64 0]∧Blk w' b5 54 #[.string (rs[k]'hlt).name,.slice Gk (rs[k]'hlt).gr.length cgk,.int .i64 (rs[k]'hlt).kids,.int .i64 (rs[k]'hlt).wt,.int .i64 (rs[k]'hlt).mean.kind,.string (rs[k]'hlt).mean.name,.int .i64 (rs[k]'hlt).mean.index,.string (rs[k]'hlt).mean.type.base,.slice Sk (rs[k]'hlt).mean.type.args.length csk,.slice Bk (rs[k]'hlt).mean.args.length mk]∧jj ((rs.take j).map (·.name)) (rs[k]'hlt).name=false) (k) ?_ (fun m g14 w14 hI=>?_)
  ·exact⟨0,Nat.zero_le _,rfl,rfl,hB.u,hb1.u,hb2.u,hb5.u,rfl⟩
  obtain⟨j,hj,hmj,h56,hB,hb1,hb2,hb5,hse⟩:=hI;refine zQ 56 _ h56 nu (zn6 ?_);refine zy rfl (fun c57=>?_) (fun c57=>?_)
  ·have hjt:j < rs.length:=by omega
   obtain⟨ub,uo,Gj,cgj,Sj,csj,Bj,mj,he,hub,hur,hGj,hSj,hTj⟩:=hRu.at_ hB hjt;cases he;refine zn7 ?_;refine wl (zV U54 rfl rfl hur Yw) ?_;refine xW (cs:=#[.string ⟨#[]⟩,.slice none 0 0,.int .i64 0,.int .i64 0,.int .i64 0,.string ⟨#[]⟩,.int .i64 0,.string ⟨#[]⟩,.slice none 0 0,.slice none 0 0]) SK rfl (fun _=>rfl) (fun _=>rfl) Yw rfl zX (fun b7 w16 hb7 s12 hr=>?_);refine yx ?_;refine zy rfl (fun c64=>?_) (fun c64=>?_)
   ·have hty:=rn7 (l:=l) (fs:=fs) hlt hnm (rseen_yes hlt om c64);refine zn3 ?_;refine wl (yv (v0:= .int _ _) (v1:= .int _ _) (fun v0 v1=>#[v0,v1]) rfl rfl kR) ?_;refine zj hb2.u rfl rfl z4 rfl zX (fun w17 hq s13=>?_);replace hb2:=hq;refine kJ ?_;refine x8 (.inl rfl) rfl (zk U36 rfl rfl hb2.range0 z4) ?_;replace hB:=(hB.tr0 s12).tr1 s13 lo2;exact⟨qQ (J2 h0 hf3 h38 (hR'.trans (qw om hty (show (7:Int)≠0 by decide))) (show (7:Int)≠0 by decide)),hB⟩
   have hse':jj ((rs.take (j + 1)).map (·.name)) (rs[k]'hlt).name=false:=by rw [ux rs hjt,List.map_append,List.map_cons,List.map_nil,ZQ,hse];simp [c64]
   refine zn7 ?_;refine qV (k - (j + 1)) om agA ?_;exact⟨j + 1,by omega,rfl,rfl,hB.u,hb1.u,hb2.u,hb5.u,hse'⟩
  have hsn:jj ((rs.take k).map (·.name)) (rs[k]'hlt).name=false:=by
    have e:k=j:=by omega
    subst e;exact hse
  refine zn8 ?_;refine wl (zV U25 rfl rfl (hb1.sub (n:=2) (xs:=[_,_]) rfl) IY) (zn1 ?_);refine zJ fn31 (ruler_any AT AF Gk Sk Bk ct cf cgk csk mk l fs (rs[k]'hlt) _ (hTy.mono hB) hS.vt hS.le (hF.mono hB) hfo (hGk.mono hB) (hSk.mono hB) (hTk.mono hB)) rfl (fun e' w18 hr=>?_);obtain⟨rfl,s14⟩:=hr;replace s14:=sB s14;refine⟨_,rfl,?_⟩;refine zn9 ?_;refine zy rfl (fun c73=>?_) (fun c73=>?_)
  ·have hty:=rnF (l:=l) (fs:=fs) hlt hnm hsn;refine zn4 ?_;refine wl (yv (v0:= .int _ _) (v1:= .int _ _) (fun v0 v1=>#[v0,v1]) rfl rfl kR) ?_;refine zj hb2.u rfl rfl z4 rfl zX (fun w19 hq s15=>?_);replace hb2:=hq;refine zn8 ?_;refine x8 (.inl rfl) rfl (zk U36 rfl rfl hb2.range0 z4) ?_;exact⟨qQ (J2 h0 hf3 h38 (hR'.trans (qw om hty c73)) c73),hB.u⟩
  have hty0:=(rnF (l:=l) (fs:=fs) hlt hnm hsn).trans (Decidable.not_not.1 c73);refine zn7 ?_;refine qV (rs.length - (k + 1)) om agA ?_;exact⟨k + 1,by omega,rfl,rfl,hB.u,hb1.u,hb2.u,hR'.trans (xV hlt hty0)⟩
 have hRz:zW (uw l fs rs) 0 rs.length=(0,0):=hR'.trans (yq om);refine Z6 ?_;refine zK (rg [9,10,11] 81 15) (fun m g w'=>∃ q:Nat,q≤xs.length∧m=xs.length - q∧g 81= .int .i64 q∧Bel w w'∧Blk w' b1 32 #[.slice AT l.length ct,.slice AF fs.length cf,.slice AR rs.length cr,.slice AX xs.length cx,.slice AS st.length cst]∧Blk w' b2 36 #[.int .i64 0,.int .i64 0]∧zW (gJ l fs xs) 0 xs.length=zW (gJ l fs xs) q (xs.length - q)) (xs.length) ?_ (fun m g24 w20 hI=>?_)
 ·exact⟨0,Nat.zero_le _,rfl,rfl,hB,hb1,hb2,rfl⟩
 obtain⟨q,hq,hm,h81,hB,hb1,hb2,hL'⟩:=hI;refine zQ 81 _ h81 nu (zn6 ?_);refine zy rfl (fun c82=>?_) (fun c82=>?_)
 ·have hlq:q < xs.length:=by omega
  obtain⟨ub,uo,Gk,cgk,Sk,csk,Bk,mk,rfl,hub,hszq,hur,hGk,hSk,hTk⟩:=hLx.at_ hB hlq;refine zn8 ?_;refine wl (zV U46 rfl rfl hur Tw) ?_;refine zY (cs:=#[.string ⟨#[]⟩,.slice none 0 0,.int .i64 0,.int .i64 0,.string ⟨#[]⟩,.int .i64 0,.string ⟨#[]⟩,.slice none 0 0,.slice none 0 0]) ze46_GFt rfl (fun b10 w21 hb10 s16 hr=>?_);have:=nLL hb1.lt hr;have:=nLL hb2.lt hr;have lo10:=nLT (Bel.size hB) hr;refine waI rfl ?_;refine zj hb10 rfl rfl Tw rfl zX (fun w22 hq s17=>?_);replace hb10:=hq;refine zn5 ?_;refine wl (zV U25 rfl rfl (hb1.u.sub (n:=2) (xs:=[_,_]) rfl) IY) (zn1 ?_);refine zJ fn32 (F8 AT AF Gk Sk Bk ct cf cgk csk mk l fs (xs[q]'hlq) _ (hTy.mono hB.u) hS.vt hS.le (hF.mono hB.u) hfo (hGk.mono hB.u) (hSk.mono hB.u) (hTk.mono hB.u) hszq) rfl (fun e' w23 hr=>?_);obtain⟨rfl,s18⟩:=hr;replace s18:=sB s18;refine⟨_,rfl,?_⟩;refine zn9 ?_;refine zy rfl (fun c91=>?_) (fun c91=>?_)
  ·have hly:=lnF (l:=l) (fs:=fs) hlq;refine zn4 ?_;refine wl (yv (v0:= .int _ _) (v1:= .int _ _) (fun v0 v1=>#[v0,v1]) rfl rfl kR) ?_;refine zj hb2.u rfl rfl z4 rfl zX (fun w24 hq s19=>?_);replace hb2:=hq;refine zn8 ?_;refine x8 (.inl rfl) rfl (zk U36 rfl rfl hb2.range0 z4) ?_;exact⟨qQ (gr_lex h0 hf3 h38 hRz (hL'.trans (qw om hly c91)) c91),hB.u⟩
  have hly0:=(lnF (l:=l) (fs:=fs) hlq).trans (Decidable.not_not.1 c91);refine zn7 ?_;refine qV (xs.length - (q + 1)) om agA ?_;exact⟨q + 1,by omega,rfl,rfl,hB.u,hb1.u,hb2.u,hL'.trans (xV hlq hly0)⟩
 have hLz:zW (gJ l fs xs) 0 xs.length=(0,0):=hL'.trans (yq om);refine zn9 ?_;refine wl (zV U25 rfl rfl (hb1.sub (n:=2) (xs:=[_,_]) rfl) IY) (zn1 ?_);refine wl (zV U30 rfl rfl (hb1.sub (n:=1) (xs:=[_]) rfl) uj) ?_;refine zJ fn33 (S7 AT AF AS ct cf cst l fs st _ (hTy.mono hB) hS.vt hS.le (hF.mono hB) (hG.mono hB) hfo) rfl (fun e' w25 hr=>?_);obtain⟨rfl,s20⟩:=hr;replace s20:=sB s20;refine⟨_,rfl,?_⟩;refine xW (cs:=#[.int .i64 0,.int .i64 0]) qk rfl (fun _=>rfl) (fun _=>rfl) z4 rfl zX (fun b12 w27 hb12 s21 hr=>?_);refine zn9 ?_;refine zy rfl (fun c103=>?_) (fun c103=>?_)
 ·refine zn4 ?_;refine wl (yv (v0:= .int _ _) (v1:= .int _ _) (fun v0 v1=>#[v0,v1]) rfl rfl kR) ?_;refine zj hb2.u rfl rfl z4 rfl zX (fun w28 hq s22=>?_);replace hb2:=hq;refine zn4 ?_;refine x8 (.inl rfl) rfl (zk U36 rfl rfl hb2.range0 z4) ?_;exact⟨qQ (FJ h0 hf3 h38 hRz hLz c103),hB.u⟩
 refine zn4 ?_;refine wl (uv (vs:=#[]) (cs:=#[.int .i64 0,.int .i64 0]) (by simp) kR) ?_;refine zj hb2.u rfl rfl z4 rfl zX (fun w29 hq s23=>?_);replace hb2:=hq;refine zn3 ?_;refine x8 (.inl rfl) rfl (zk U36 rfl rfl hb2.range0 z4) ?_;exact⟨qQ (gr_ok h0 hf3 h38 hRz hLz (Decidable.not_not.1 c103)),hB.u⟩
end Go.Proofs.YtbcpgfnfiekbiaaGreatDoor
namespace Go.Proofs.YtbcpgfnfiekbiaaGreatDoor
open Go.RowKit
theorem H6:gramB smallT smallF smallRs smallXs smallS=true:=by decide +kernel
theorem R4:jv smallT smallF smallR smallX smallS=(0,0):=gram_ok H6
end Go.Proofs.YtbcpgfnfiekbiaaGreatDoor
namespace Go.Proofs.YtbcpgfnfiekbiaaGreatDoor
open Go.RowKit
def wug:ByteArray:=⟨#[119,117,103]⟩
def rex:ByteArray:=⟨#[114,101,120]⟩
def extW (n:Nat):List ByteArray→List ByteArray→Option (List ByteArray)
  | [],zs=>some zs
  | s :: ws,zs=>if 100 < (zs ++ if zs.any (fun x=>decide (x=s)) then [] else List.replicate n s).length then none else extW n ws (zs ++ if zs.any (fun x=>decide (x=s)) then [] else List.replicate n s)
theorem RW {l:List Ty} {fs:List Ft} {us xs:List Lx} {s:ByteArray}:(xs ++ nw l fs us xs s).map (·.word)=xs.map (·.word) ++ if (xs.map (·.word)).any (fun x=>decide (x=s)) then [] else List.replicate us.length s:=by
  have hk:(xs.map (·.word)).any (fun x=>decide (x=s))=uZ xs s:=by rw [List.any_map];rfl
  rw [List.map_append,hk]
  congr 1
  cases h:uZ xs s with
  | true=>rw [O9 h];rfl
  | false=>
    rw [DZ h,List.map_map,if_neg dE,List.eq_replicate_iff];exact⟨by rw [List.length_map],fun b hb=>by obtain⟨x,_,rfl⟩:=List.mem_map.1 hb;rfl⟩
theorem C4 {l:List Ty} {fs:List Ft} {us:List Lx}:∀ (ws:List ByteArray) (xs:List Lx),(Y2 l fs us ws xs).map (List.map (·.word))=extW us.length ws (xs.map (·.word))
  | [],xs=>rfl
  | s :: ws,xs=>by
    have hlen:(xs ++ nw l fs us xs s).length=((xs ++ nw l fs us xs s).map (·.word)).length:=by rw [List.length_map]
    unfold Y2 extW
    rw [hlen,RW]
    by_cases h:100 < (xs.map (·.word) ++ if (xs.map (·.word)).any (fun x=>decide (x=s)) then [] else List.replicate us.length s).length
    · rw [if_pos h,if_pos h];rfl
    · rw [if_neg h,if_neg h,C4 ws,RW]
theorem JX {f:Nat→Int}:∀ (m i:Nat),(∀ k,i≤k→k < i + m→f k=0)→zW f i m=(0,0)
  | 0,_,_=>rfl
  | m + 1,i,h=>by
    unfold zW
    rw [if_neg (fun e=>e (h i (Nat.le_refl _) om))]
    exact JX m (i + 1) (fun k h1 h2=>h k om om)
theorem gr_lex0 {l:List Ty} {fs:List Ft} {rs:List Rl} {xs:List Lx} {st:List Nd} (h:(jv l fs rs xs st).1=0):(zW (gJ l fs xs) 0 xs.length).1=0:=by
  refine Classical.byContradiction (fun h5=>?_);unfold jv at h;by_cases h1:(qx l fs).1≠0
  · rw [if_pos h1] at h;exact absurd h h1
  rw [if_neg h1] at h;by_cases h2:fs.length≤3
  · rw [if_pos h2] at h;cases h
  rw [if_neg h2] at h;by_cases h3:40 < rs.length∨100 < xs.length
  · rw [if_pos h3] at h;cases h
  rw [if_neg h3] at h;by_cases h4:(zW (uw l fs rs) 0 rs.length).1≠0
  · rw [if_pos h4] at h;exact absurd h h4
  rw [if_neg h4,if_pos h5] at h;exact h5 h
def sws:List ByteArray:=[wug,rex,wug]
def sus:List Lx:=(smallX.drop 3).take 2
theorem Xy:sus.length=2:=by decide +kernel
theorem M6:smallX.length=21:=by decide +kernel
theorem swords:yX wug=true∧yX rex=true:=by decide +kernel
theorem sext:(extW 2 sws (smallX.map (·.word))).map (fun z=>(z.length,z[22]?))=some (23,some wug):=by decide +kernel
theorem small_ext:∃ ys,W3 smallT smallF smallR smallX smallS sws sus=((0,0),ys)∧ys.length=23∧(ys[22]?).map (·.word)=some wug:=by
  have hw:zW (wdN sws) 0 sws.length=(0,0):=JX _ _ (fun k _ h=>by
    match k,h with
    | 0,_=>exact T4 (ws:=sws) (i:=0) dE swords.1
    | 1,_=>exact T4 (ws:=sws) (i:=1) dE swords.2
    | 2,_=>exact T4 (ws:=sws) (i:=2) dE swords.1)
  have hg:(jv smallT smallF smallR smallX smallS).1=0:=by rw [R4]
  have hl:zW (gJ smallT smallF sus) 0 sus.length=(0,0):=JX _ _ (fun k _ h=>by
    rw [Xy,Nat.zero_add] at h;have h1:=yJ (gr_lex0 hg) (3 + k) (Nat.zero_le _) (by rw [M6];omega);have e:sus[k]? =smallX[3 + k]?:=by
      unfold sus;rw [List.getElem?_take,if_pos h,List.getElem?_drop]
    unfold gJ at h1 ⊢
    rw [e];exact h1)
  have hE:=OV (l:=smallT) (fs:=smallF) (ws:=sws) (us:=sus) dE hw (by rw [Xy];decide) hl;have hx:=C4 (l:=smallT) (fs:=smallF) (us:=sus) sws (smallX.map (ow smallT smallF));have hm:(smallX.map (ow smallT smallF)).map (·.word)=smallX.map (·.word):=by rw [List.map_map];rfl
  rw [hm,Xy] at hx;have hs:=sext;rw [← hx] at hs;cases hq:Y2 smallT smallF sus sws (smallX.map (ow smallT smallF)) with
  | none=>rw [hq] at hs;cases hs
  | some ys=>
    rw [hq] at hs;have h2:=Option.some.inj hs;refine⟨ys,(N7 R4).trans (ea_ok hE hq),?_,?_⟩
    · have h3:=congrArg Prod.fst h2
      simpa using h3
    · have h3:=congrArg Prod.snd h2
      simpa using h3
def WugAt (w:World) (X:Option Addr):Prop:=∃ b o,X=some ⟨b,o,none⟩∧b < w.heap.size∧w.cell? ⟨b,o + 22 * 9,none⟩=some (.string wug)
theorem WugAt.tr {w w2:World} {X:Option Addr} {b t:Nat} {cs:Array Value} (h:WugAt w X) (hb:Blk w b t cs) (hcs:∀ (j:Nat) (s:ByteArray),cs[j]?≠some (.string s)) (hs:Same [b] w w2):WugAt w2 X:=by
  obtain⟨b',o,e,hl,hc⟩:=h;have hne:b'≠b:=fun e=>by
    subst e;rw [cell_of_row w b' _ _ t (0,0) hb] at hc;exact hcs _ _ hc
  refine⟨b',o,e,nLL hl hs.size,?_⟩;unfold World.cell? at hc ⊢;rw [hs.blk b' hl (by simpa using hne)];exact hc
theorem WugAt.mono {w w2:World} {X:Option Addr} (h:WugAt w X) (hB:Bel w w2):WugAt w2 X:=by
  obtain⟨b',o,e,hl,hc⟩:=h;exact⟨b',o,e,nLL hl hB.size,hB.cell hl hc⟩
theorem ext_wug {w':World} {e:Ending} (h:G8 (W3 smallT smallF smallR smallX smallS sws sus) smallT smallF smallR smallS w' e):
    ∃ (T F R X G:Option Addr) (k1 k2 k3 k4 k5 n1 n2 n3 n5:Nat),e= .returned (.tuple #[.agg #[.slice T n1 k1,.slice F n2 k2,.slice R n3 k3,.slice X 23 k4,.slice G n5 k5],.agg #[.int .i64 0,.int .i64 0]])∧WugAt w' X:=by
  obtain⟨ys,hA,h23,hwg⟩:=small_ext;rw [hA] at h;obtain⟨T,F,R,X,G,k1,k2,k3,k4,k5,l',fs',rs',xs',st',rfl,hr,hH⟩:=h;rcases hr with ⟨_,rfl,rfl,rfl,hxs,rfl⟩ | ⟨hc,_⟩
  · obtain rfl:ys=xs':=hxs.symm
    refine⟨T,F,R,X,G,k1,k2,k3,k4,k5,_,_,_,_,by rw [← h23],?_⟩;have hx:=hH.now.2.2.2.1;have h22:22 < ys.length:=by omega
    obtain⟨b,o,_,_,_,_,_,_,e,hb,_,hr,_⟩:=hx.at_ (Below.refl _ _:Bel w' w') h22;refine⟨b,o,e,hb,?_⟩;have hy:(ys[22]).word=wug:=by
      rw [List.getElem?_eq_getElem h22] at hwg;exact Option.some.inj hwg
    rw [← hy];exact hr 0 _ rfl
  · exact absurd rfl hc
theorem P3 {w:World} {a b t u:Nat} {cs ds:Array Value} (h:Blk w a t cs) (g:Blk w b u ds) (hne:t≠u):a≠b:=fun e=>by
  subst e
  have h2:=h.symm.trans g
  injection h2 with h2
  injection h2 with _ h3
  exact hne h3
theorem JK (j:Nat) (s:ByteArray):(#[.slice none 0 0,.slice none 0 0,.slice none 0 0,.slice none 0 0,.slice none 0 0]:Array Value)[j]?≠some (.string s):=by
  match j with
  | 0=>simp
  | 1=>simp
  | 2=>simp
  | 3=>simp
  | 4=>simp
  | j + 5=>simp
theorem K1 (j:Nat) (s:ByteArray):(#[.int .i64 0,.int .i64 0]:Array Value)[j]?≠some (.string s):=by
  match j with
  | 0=>simp
  | 1=>simp
  | j + 2=>simp
theorem H5 {w:World} {b t:Nat} (h:Blk w b t #[.string wug,.string rex,.string wug]):StrsIn w (some ⟨b,0,none⟩) sws:=
  ⟨by decide,fun _=>⟨b,0,rfl,h.lt,fun k hk=>by
    match k,hk with
    | 0,_=>exact h.cell rfl
    | 1,_=>exact h.cell rfl
    | 2,_=>exact h.cell rfl⟩⟩
theorem sws_size:∀ x ∈ sws,x.size < 9223372036854775807:=by decide +kernel
theorem sus_in {w:World} {X:Option Addr} (h:LexesIn w X smallX):∃ b o,X=some ⟨b,o,none⟩∧LexesIn w (some ⟨b,o + 27,none⟩) sus:=by
  obtain⟨b,o,e,hl,hc⟩:=h.2 (by intro h0;have:=M6;rw [h0] at this;cases this);refine⟨b,o,e,by rw [Xy];decide,fun _=>⟨b,o + 27,rfl,hl,fun k hk=>?_⟩⟩;rw [Xy] at hk;have h1:=hc (3 + k) (by rw [M6];omega);have e1:sus[k]'(by rw [Xy];exact hk)=smallX[3 + k]'(by rw [M6];omega):=by
    apply Option.some.inj
    rw [← List.getElem?_eq_getElem,← List.getElem?_eq_getElem];unfold sus;rw [List.getElem?_take,if_pos hk,List.getElem?_drop]
  rw [e1];have e2:o + 27 + k * 9=o + (3 + k) * 9:=by omega
  rw [e2];exact h1
theorem ef_zero {l:List Ty} {fs:List Ft} {ws:List ByteArray} {us:List Lx} (h:(Vj l fs ws us).1=0):(zW (gJ l fs us) 0 us.length).1=0:=by
  unfold Vj at h;by_cases h1:ws.length=0∨12 < ws.length
  · rw [if_pos h1] at h;cases h
  rw [if_neg h1] at h;by_cases h2:(zW (wdN ws) 0 ws.length).1≠0
  · rw [if_pos h2] at h;exact absurd h h2
  rw [if_neg h2] at h;by_cases h3:100 < us.length
  · rw [if_pos h3] at h;cases h
  rwa [if_neg h3] at h
theorem ext_ok {l:List Ty} {fs:List Ft} {us ys:List Lx} (hu:∀ x ∈ us,TmK x.mean):∀ (ws:List ByteArray) (xs:List Lx),Y2 l fs us ws xs=some ys→xs.length≤100→(∀ x ∈ xs,TmK x.mean)→ys.length≤100∧∀ y ∈ ys,TmK y.mean
  | [],xs,h,hl,hx=>by cases h;exact⟨hl,hx⟩
  | s :: ws,xs,h,hl,hx=>by
    unfold Y2 at h
    by_cases h1:100 < (xs ++ nw l fs us xs s).length
    · rw [if_pos h1] at h;cases h
    rw [if_neg h1] at h
    refine ext_ok hu ws _ h om (fun x hm=>?_)
    rcases List.mem_append.1 hm with hm | hm
    · exact hx x hm
    cases hk:uZ xs s with
    | true=>rw [O9 hk] at hm;cases hm
    | false=>
      rw [DZ hk] at hm
      obtain⟨u,hu1,rfl⟩:=List.mem_map.1 hm
      exact hu u hu1
theorem res_K {l:List Ty} {fs:List Ft} {rs:List Rl} {xs us:List Lx} {st:List Nd} {ws:List ByteArray} {l1:List Ty} {f1:List Ft} {r1:List Rl} {x1:List Lx} {s1:List Nd} (hP:GpS l fs rs xs st) (hr:resOk (OJ l fs xs ws us) l fs rs st l1 f1 r1 x1 s1):
    r1.length≤1000000∧x1.length≤1000000∧(∀ i (h:i < r1.length),TmK (r1[i]).mean)∧(∀ i (h:i < x1.length),TmK (x1[i]).mean):=by
  rcases hr with ⟨h0,_,_,e3,hx1,_⟩ | ⟨_,rfl,rfl,rfl,rfl,rfl⟩
  · subst e3
    have hrn:=hP.rn;have hE:(Vj l fs ws us).1=0:=by
      refine Classical.byContradiction (fun hc=>?_);rw [Y3 rfl hc] at h0;exact hc h0
    have hu:∀ x ∈ us,TmK x.mean:=fun x hm=>by
      obtain⟨i,hi,rfl⟩:=List.mem_iff_getElem.1 hm;exact(Ex hP.hier (ef_zero hE) i hi).2
    have hx:x1.length≤100∧∀ y ∈ x1,TmK y.mean:=by
      unfold OJ at h0 hx1;rw [if_neg (fun h=>h hE)] at h0 hx1;cases hq:Y2 l fs us ws (xs.map (ow l fs)) with
      | none=>rw [hq] at h0;cases h0
      | some ys=>
        rw [hq] at hx1;obtain rfl:x1=ys:=hx1;refine ext_ok hu ws _ hq (by rw [List.length_map];exact hP.xn) (fun x hm=>?_);obtain⟨u,hu1,rfl⟩:=List.mem_map.1 hm;obtain⟨i,hi,rfl⟩:=List.mem_iff_getElem.1 hu1;exact(hP.xok i hi).2
    refine⟨by rw [List.length_map];omega,by have:=hx.1;omega,fun i h=>?_,fun i h=>hx.2 _ (List.getElem_mem h)⟩;rw [List.getElem_map];exact(hP.rok i (by rw [List.length_map] at h;exact h)).2
  · exact⟨Nat.zero_le _,Nat.zero_le _,fun i h=>absurd h (Nat.not_lt_zero _),fun i h=>absurd h (Nat.not_lt_zero _)⟩
section rules
variable {P:Program} {n:Nat} {f:Fr} {w:World} {ty:TypeId} {pos:String} {af:Array Edge} {x y z:Operand} {t e:TypeId}
theorem r_slB {dst:Option Tmp} {gd:Option (Nat×Bool)} {b o m c l h:Nat} {sz:Nat} (hu:P.underlying t=some (.slice e)) (hs:(P.info? e).map (·.size)=some sz) (hx:ev n f x= .slice (some ⟨b,o,none⟩) m c) (hy:ev n f y= .int .i64 (l:Int)) (hz:ev n f z= .int .i64 (h:Int)) (hl:l≤h) (hh:h≤c) (hc:l < c) (h0:l * sz≠0):
    RV P n f w ⟨dst,.slice t x (some y) (some z) none,ty,pos,af,gd⟩ (.slice (some ⟨b,o + l * sz,none⟩) (h - l) (c - l)) w:=by
  cases hq:P.info? e with
  | none=>simp [hq] at hs
  | some i=>
    have hz2:i.size=sz:=by simpa [hq] using hs
    have h1:(Instr.sliceBound (.int .i64 (l:Int)) h .sliceB).run P w= .ok l w:=by simp [Instr.sliceBound,asIntOf,hl]
    have h2:(Instr.sliceBound (.int .i64 (h:Int)) c .sliceAcap).run P w= .ok h w:=by simp [Instr.sliceBound,asIntOf,hh]
    have h3:¬c=l:=by omega
    have h4:(⟨b,o,none⟩:Addr).add (l * sz)=⟨b,o + l * sz,none⟩:=by unfold Addr.add;rw [if_neg h0]
    simp [RV,execOp,hx,hy,hz,Instr.sliceAt,run_underlying hu,Instr.slice,Instr.sliceBounds,h1,h2,sizeOf,typeInfo,hq,hz2,h3,h4]
end rules
end Go.Proofs.YtbcpgfnfiekbiaaGreatDoor
namespace Go.Proofs.YtbcpgfnfiekbiaaGreatDoor
open Go.RowKit
theorem fn93:zZ Tryz.prog 93=true:=by kernel_rfl
theorem Kz:(Tryz.prog.info? 41).map (·.size)=some 2:=by kernel_rfl
set_option maxRecDepth 100000 in
set_option maxHeartbeats 2000000 in
theorem ssm_step {s:Sm} {A1 A2:Option Addr} {c1 c2:Nat} {w:World} (hK:s.args.length≤1000) (h1:SimsIn w A1 s.args) (h2:SimsIn w A2 s.args) (IH:∀ x ∈ s.args,∀ (A1 A2:Option Addr) (c1 c2:Nat) (w:World),SimsIn w A1 x.args→SimsIn w A2 x.args→Calls Tryz.prog 93 #[.agg #[.string (x).base,.slice A1 (x).args.length c1],.agg #[.string (x).base,.slice A2 (x).args.length c2]] w fun e w'=>e= .returned (.bool true)∧Bel w w'):Calls Tryz.prog 93 #[.agg #[.string (s).base,.slice A1 (s).args.length c1],.agg #[.string (s).base,.slice A2 (s).args.length c2]] w fun e w'=>e= .returned (.bool true)∧Bel w w':=by
 refine enT Tryz.func93 Tryz.ntmps93 rfl rfl fun hB=>?_;refine zn2 ?_;refine qK (v:= .agg #[_,_]) (cs:=#[_,_]) rfl rfl (fun b2 w1 hb2 s1 hr=>?_);refine qK (v:= .agg #[_,_]) (cs:=#[_,_]) rfl rfl (fun b3 w2 hb3 s2 hr=>?_);refine yx ?_;refine wl (xZ (v:= .bool false) (congrArg Value.bool (decide_eq_false (fun h=>h rfl)))) (N9 ?_);refine zy rfl (fun c19=>?_) (fun c19=>?_)
 ·exact absurd rfl c19
 refine y8 ?_;refine zK (rg [4,5] 23 16) (fun m g w'=>∃ j:Nat,j≤s.args.length∧m=s.args.length - j∧g 23= .int .i64 j∧Bel w w'∧Blk w' b2 41 #[.string s.base,.slice A1 s.args.length c1]∧Blk w' b3 41 #[.string s.base,.slice A2 s.args.length c2]) (s.args.length) ?_ (fun m g4 w3 hI=>?_)
 ·exact⟨0,Nat.zero_le _,rfl,rfl,hB.u,hb2.u,hb3⟩
 obtain⟨j,hj,hmj,h23,hB,hb2,hb3⟩:=hI;refine zQ 23 _ h23 nu (zn6 ?_);refine zy rfl (fun c24=>?_) (fun c24=>?_)
 ·have hja:j < s.args.length:=by omega
  obtain⟨sb,so,A3,c3,rfl,hsb,hr3,hs3⟩:=h1.at_ hja;obtain⟨tb,to,A4,c4,rfl,htb,hr4,hs4⟩:=h2.at_ hja;refine yx ?_;refine QJ 10 kR kR (fun w4 s3=>?_);refine zn3 ?_;refine ws (xw (i:=j) U39 Kz rfl rfl hja rfl) (zn4 ?_);refine ws (xw (i:=j) U39 Kz rfl rfl hja rfl) (zn1 ?_);refine Qk ?_;refine zJ fn93 (IH _ (List.getElem_mem hja) A3 A4 c3 c4 _ (hs3.mono hB.u) (hs4.mono hB.u)) rfl (fun e' w5 hr=>?_);obtain⟨rfl,s4⟩:=hr;replace s4:=sB s4;refine⟨_,rfl,?_⟩;refine zn3 ?_;refine vw rfl (fun c37=>?_) (fun c37=>?_)
  ·exact absurd c37 dE
  refine zn7 ?_;refine qV (s.args.length - (j + 1)) om agA ?_;exact⟨j + 1,by omega,rfl,rfl,hB.u,hb2.u,hb3.u⟩
 refine y8 ?_;exact⟨rfl,hB⟩
theorem ssm_any {s:Sm} (h:SmK s):∀ (A1 A2:Option Addr) (c1 c2:Nat) (w:World),SimsIn w A1 s.args→SimsIn w A2 s.args→Calls Tryz.prog 93 #[.agg #[.string (s).base,.slice A1 (s).args.length c1],.agg #[.string (s).base,.slice A2 (s).args.length c2]] w fun e w'=>e= .returned (.bool true)∧Bel w w':=by
  induction h with
  | mk hl _ ih=>exact fun A1 A2 c1 c2 w h1 h2=>ssm_step hl h1 h2 (fun x hx A1 A2 c1 c2 w h3 h4=>ih x hx A1 A2 c1 c2 w h3 h4)
end Go.Proofs.YtbcpgfnfiekbiaaGreatDoor
namespace Go.Proofs.YtbcpgfnfiekbiaaGreatDoor
open Go.RowKit
theorem fn51:zZ Tryz.prog 51=true:=by kernel_rfl
theorem QV:(Tryz.prog.info? 44).map (·.size)=some 6:=by kernel_rfl
set_option maxRecDepth 100000 in
set_option maxHeartbeats 2000000 in
theorem stm_step {t:Tm} {S1 S2 B1 B2:Option Addr} {s1 s2 c1 c2:Nat} {w:World} (hK:t.args.length≤1000) (hKt:SmK t.type) (hS1:SimsIn w S1 t.type.args) (hS2:SimsIn w S2 t.type.args) (hT1:TmsIn w B1 t.args) (hT2:TmsIn w B2 t.args) (IH:∀ x ∈ t.args,∀ (S1 S2 B1 B2:Option Addr) (s1 s2 c1 c2:Nat) (w:World),SimsIn w S1 x.type.args→SimsIn w S2 x.type.args→TmsIn w B1 x.args→TmsIn w B2 x.args→Calls Tryz.prog 51 #[.agg #[.int .i64 (x).kind,.string (x).name,.int .i64 (x).index,.string (x).type.base,.slice S1 (x).type.args.length s1,.slice B1 (x).args.length c1],.agg #[.int .i64 (x).kind,.string (x).name,.int .i64 (x).index,.string (x).type.base,.slice S2 (x).type.args.length s2,.slice B2 (x).args.length c2]] w fun e w'=>e= .returned (.bool true)∧Bel w w'):Calls Tryz.prog 51 #[.agg #[.int .i64 (t).kind,.string (t).name,.int .i64 (t).index,.string (t).type.base,.slice S1 (t).type.args.length s1,.slice B1 (t).args.length c1],.agg #[.int .i64 (t).kind,.string (t).name,.int .i64 (t).index,.string (t).type.base,.slice S2 (t).type.args.length s2,.slice B2 (t).args.length c2]] w fun e w'=>e= .returned (.bool true)∧Bel w w':=by
 refine enT Tryz.func51 Tryz.ntmps51 rfl rfl fun hB=>?_;refine zn2 ?_;refine qK (v:= .agg #[_,_,_,_,_,_]) (cs:=#[_,_,_,_,_,_]) rfl rfl (fun b2 w1 hb2 t1 hr=>?_);refine qK (v:= .agg #[_,_,_,_,_,_]) (cs:=#[_,_,_,_,_,_]) rfl rfl (fun b3 w2 hb3 t2 hr=>?_);refine yx ?_;refine wl (xZ (v:= .bool false) (congrArg Value.bool (decide_eq_false (fun h=>h rfl)))) (yx ?_);refine wl (xZ (v:= .bool false) (congrArg Value.bool (decide_eq_false (fun h=>h rfl)))) (yx ?_);refine wl (xZ (v:= .bool false) (congrArg Value.bool (decide_eq_false (fun h=>h rfl)))) (zn3 ?_);refine wl (zV U41 rfl rfl (hb2.u.sub (n:=2) (xs:=[_,_]) rfl) Kz) (zn3 ?_);refine wl (zV U41 rfl rfl (hb3.sub (n:=2) (xs:=[_,_]) rfl) Kz) (zn1 ?_);refine zJ fn93 (ssm_any hKt S1 S2 s1 s2 _ (hS1.mono hB.u) (hS2.mono hB.u)) rfl (fun e' w3 hr=>?_);obtain⟨rfl,t3⟩:=hr;replace t3:=sB t3;refine⟨_,rfl,?_⟩;refine zn3 ?_;refine wl (xZ (v:= .bool false) rfl) (N9 ?_);refine zy rfl (fun c41=>?_) (fun c41=>?_)
 ·exact absurd rfl c41
 refine y8 ?_;refine zK (rg [4,5] 45 16) (fun m g w'=>∃ j:Nat,j≤t.args.length∧m=t.args.length - j∧g 45= .int .i64 j∧Bel w w'∧Blk w' b2 44 #[.int .i64 (t).kind,.string (t).name,.int .i64 (t).index,.string (t).type.base,.slice S1 (t).type.args.length s1,.slice B1 (t).args.length c1]∧Blk w' b3 44 #[.int .i64 (t).kind,.string (t).name,.int .i64 (t).index,.string (t).type.base,.slice S2 (t).type.args.length s2,.slice B2 (t).args.length c2]) (t.args.length) ?_ (fun m g4 w4 hI=>?_)
 ·exact⟨0,Nat.zero_le _,rfl,rfl,hB.u,hb2.u,hb3.u⟩
 obtain⟨j,hj,hmj,h45,hB,hb2,hb3⟩:=hI;refine zQ 45 _ h45 nu (zn6 ?_);refine zy rfl (fun c46=>?_) (fun c46=>?_)
 ·have hja:j < t.args.length:=by omega
  obtain⟨sb,so,S3,s3,B3,c3,rfl,hsb,hr3,hs3,ht3⟩:=hT1.at_ hja;obtain⟨tb,to,S4,s4,B4,c4,rfl,htb,hr4,hs4,ht4⟩:=hT2.at_ hja;refine yx ?_;refine QJ 10 kR kR (fun w5 t4=>?_);refine zn3 ?_;refine ws (xw (i:=j) U42 QV rfl rfl hja rfl) (zn4 ?_);refine ws (xw (i:=j) U42 QV rfl rfl hja rfl) (zn1 ?_);refine Qk ?_;refine zJ fn51 (IH _ (List.getElem_mem hja) S3 S4 B3 B4 s3 s4 c3 c4 _ (hs3.mono hB.u) (hs4.mono hB.u) (ht3.mono hB.u) (ht4.mono hB.u)) rfl (fun e' w6 hr=>?_);obtain⟨rfl,t5⟩:=hr;replace t5:=sB t5;refine⟨_,rfl,?_⟩;refine zn3 ?_;refine vw rfl (fun c59=>?_) (fun c59=>?_)
  ·exact absurd c59 dE
  refine zn7 ?_;refine qV (t.args.length - (j + 1)) om agA ?_;exact⟨j + 1,by omega,rfl,rfl,hB.u,hb2.u,hb3.u⟩
 refine y8 ?_;exact⟨rfl,hB⟩
theorem stm_any {x:Tm} (h:TmK x):∀ (S1 S2 B1 B2:Option Addr) (s1 s2 c1 c2:Nat) (w:World),SimsIn w S1 x.type.args→SimsIn w S2 x.type.args→TmsIn w B1 x.args→TmsIn w B2 x.args→Calls Tryz.prog 51 #[.agg #[.int .i64 (x).kind,.string (x).name,.int .i64 (x).index,.string (x).type.base,.slice S1 (x).type.args.length s1,.slice B1 (x).args.length c1],.agg #[.int .i64 (x).kind,.string (x).name,.int .i64 (x).index,.string (x).type.base,.slice S2 (x).type.args.length s2,.slice B2 (x).args.length c2]] w fun e w'=>e= .returned (.bool true)∧Bel w w':=by
  induction h with
  | mk hs hl _ ih=>exact fun S1 S2 B1 B2 s1 s2 c1 c2 w h1 h2 h3 h4=>stm_step hl hs h1 h2 h3 h4 (fun x hx=>ih x hx)
end Go.Proofs.YtbcpgfnfiekbiaaGreatDoor
namespace Go.Proofs.YtbcpgfnfiekbiaaGreatDoor
open Go.RowKit
def trN (σ:Nat→Nat) (x:Nd):Nd:=⟨x.ty,x.ln.map (fun y=>(y.1,(σ y.2.toNat:Int)))⟩
theorem N2 {nf n m:Nat} {σ:Nat→Nat}:∀ {xs:List (Int×Int)} {last:Int},yj nf n last xs=0→(∀ x ∈ xs,σ x.2.toNat < m)→yj nf m last (xs.map (fun y=>(y.1,(σ y.2.toNat:Int))))=0
  | [],_,_,_=>rfl
  | y :: ys,last,h,hm=>by
    unfold yj at h
    by_cases h1:uy nf n y
    · rw [if_pos h1] at h;cases h
    rw [if_neg h1] at h
    by_cases h2:y.1≤last
    · rw [if_pos h2] at h;cases h
    rw [if_neg h2] at h
    have h3:=hm y (by simp)
    have h4:¬uy nf m (y.1,(σ y.2.toNat:Int)):=by
      unfold uy at h1 ⊢;omega
    rw [List.map_cons];unfold yj;rw [if_neg h4,if_neg h2];exact N2 h (fun x hx=>hm x (List.mem_cons_of_mem _ hx))
theorem gv_img {l:List Ty} {fs:List Ft} {g gt:List Nd} {σ τ:Nat→Nat} (h:GV l fs g) (hp:0 < gt.length) (hle:gt.length≤60)
    (hτ:∀ j,j < gt.length→τ j < g.length∧nd gt j=trN σ (nd g (τ j))∧∀ x ∈ (nd g (τ j)).ln,σ x.2.toNat < gt.length∧(nd gt (σ x.2.toNat)).ty=(nd g x.2.toNat).ty)
    (hR:∀ j,j < gt.length→Rch gt j):(jJ l fs gt).1=0:=by
  have hl:vj l.length fs.length gt=(0,0):=by
    unfold vj;rw [if_neg om];refine JJ (fun k _ hk=>?_);have hk':k < gt.length:=by omega
    obtain⟨hτ1,hτ2,hτ3⟩:=hτ k hk';rw [j8 hk',j8 hτ1] at hτ2;rw [j8 hτ1] at hτ3;have hty:=h.gok.ty _ hτ1;have hln:=Oq h.lo _ hτ1;have e:¬((gt[k]).ty < 0∨(l.length:Int)≤(gt[k]).ty):=by rw [hτ2];simp only [trN];omega
    rw [X9 hk' e,List.drop_zero,hτ2];exact N2 hln (fun x hx=>(hτ3 x hx).1)
  have ht:tyF l fs gt=(0,0):=by
    refine JJ (fun k _ hk=>?_);have hk':k < gt.length:=by omega
    obtain⟨hτ1,hτ2,hτ3⟩:=hτ k hk';refine WK hk' (fun j hj=>?_);have h0:tyN l fs g (τ k)=0:=yJ (by rw [show zW (tyN l fs g) 0 g.length=tyF l fs g from rfl,h.t]) _ (Nat.zero_le _) om;rw [j8 hk',j8 hτ1] at hτ2;rw [j8 hτ1] at hτ3;have hex:∃ y ∈ (g[τ k]).ln,(gt[k]).ln[j]=(y.1,(σ y.2.toNat:Int)):=by
      have hm:(gt[k]).ln[j] ∈ (trN σ (g[τ k])).ln:=by rw [← hτ2];exact List.getElem_mem hj
      simp only [trN,List.mem_map] at hm;obtain⟨y,hy,e⟩:=hm;exact⟨y,hy,e.symm⟩
    obtain⟨y,hy,ey⟩:=hex;have h1:Mk l fs g (g[τ k]).ty y=false:=by
      simp only [tyN,List.getElem?_eq_getElem hτ1] at h0;cases hb:Mk l fs g (g[τ k]).ty y with
      | false=>rfl
      | true=>rw [if_pos (List.any_eq_true.2 ⟨y,hy,hb⟩)] at h0;cases h0
    have e3:=(hτ3 y hy).2;have e2:(gt[k]).ty=(g[τ k]).ty:=by rw [hτ2];rfl
    rw [ey,e2];unfold Mk at h1 ⊢;have e4:(Nx gt ((σ y.2.toNat:Nat):Int)).ty=(Nx g y.2).ty:=by
      unfold nd at e3;unfold Nx;rw [Int.toNat_natCast];exact e3
    rw [e4];exact h1
  have hu:(-1:Int)=J3 gt:=E8 (.inl ⟨rfl,hR⟩);rw [FV h.h,Nv (by rw [hl]) ht om]
theorem unr_ex (g:List Nd):∃ r,UnrIs g r:=by
  have h:∀ n:Nat,(∀ i,i < n→Rch g i)∨∃ k,k < n∧¬Rch g k∧∀ i,i < k→Rch g i:=by
    intro n
    induction n with
    | zero=>exact .inl (fun i hi=>absurd hi om)
    | succ n ih=>
      rcases ih with h | ⟨k,h1,h2,h3⟩
      · by_cases hn:Rch g n
        · refine .inl (fun i hi=>?_)
          by_cases e:i=n
          · rw [e];exact hn
          · exact h i om
        · exact .inr ⟨n,by omega,hn,h⟩
      · exact .inr ⟨k,by omega,h2,h3⟩
  rcases h g.length with h | ⟨k,h1,h2,h3⟩
  · exact⟨-1,.inl ⟨rfl,h⟩⟩
  · exact⟨k,.inr ⟨k,rfl,h1,h2,h3⟩⟩
theorem GV.rch {l:List Ty} {fs:List Ft} {g:List Nd} (h:GV l fs g):∀ i,i < g.length→Rch g i:=by
  obtain⟨r,hr⟩:=unr_ex g;have hu:=h.u;rw [← E8 hr] at hu;rcases hr with ⟨_,h3⟩ | ⟨k,h3,_⟩
  · exact h3
  · exact absurd (show 0≤r by omega) hu
structure Turn (g gt:List Nd) (σ ρ:Nat→Nat):Prop where
  len:gt.length=g.length
  z:σ 0=0
  lt:∀ i,i < g.length→σ i < g.length
  rl:∀ j,j < g.length→ρ j < g.length∧σ (ρ j)=j
  lr:∀ i,i < g.length→ρ (σ i)=i
  nd:∀ i,i < g.length→nd gt (σ i)=trN σ (nd g i)
section turn
variable {g gt:List Nd} {σ ρ:Nat→Nat}
theorem Turn.inj (t:Turn g gt σ ρ) {x y:Nat} (hx:x < g.length) (hy:y < g.length) (h:σ x=σ y):x=y:=by rw [← t.lr x hx,← t.lr y hy,h]
theorem Turn.succ (t:Turn g gt σ ρ) {i:Nat} (hi:i < g.length):yy gt (σ i)=(yy g i).map σ:=by
  unfold yy;rw [t.nd i hi];simp [trN]
theorem Turn.dl (t:Turn g gt σ ρ) (hr:∀ i,i < g.length→∀ y ∈ yy g i,y < g.length) {is a b:List Nat} (h:DL g is a b):(∀ i ∈ is,i < g.length)→(∀ x ∈ b,x < g.length)→DL gt (is.map σ) (a.map σ) (b.map σ):=by
  induction h with
  | nil=>exact fun _ _=> .nil
  | old h _ ih=>exact fun hi hb=> .old (List.mem_map_of_mem h) (ih (fun i h=>hi i (List.mem_cons_of_mem _ h)) hb)
  | new h s u ihs iht=>
    intro hi hb
    rename_i i is o o1 o'
    have hil:=hi i (List.mem_cons_self ..);have ho1:∀ x ∈ o1,x < g.length:=fun x hx=>hb x (u.sub _ hx)
    refine .new (fun hm=>?_) ?_ (iht (fun i h=>hi i (List.mem_cons_of_mem _ h)) hb)
    · obtain⟨y,hy,e⟩:=List.mem_map.1 hm
      have hyl:=ho1 y (s.sub _ (List.mem_append_left _ hy));exact h (t.inj hyl hil e ▸ hy)
    · have:=ihs (hr i hil) ho1
      rw [List.map_append] at this;rw [t.succ hil];exact this
theorem Turn.rch (t:Turn g gt σ ρ) (hr:∀ i,i < g.length→∀ y ∈ yy g i,y < g.length) (hp:0 < g.length) {i:Nat} (h:Rch g i):i < g.length∧Rch gt (σ i):=by
  induction h with
  | zero=>exact⟨hp,by rw [t.z];exact .zero⟩
  | step h hi hx ih=>
    rename_i i x
    refine⟨hr i hi _ (by simp only [yy,j8 hi,List.mem_map];exact⟨x,hx,rfl⟩),?_⟩;have hlt:σ i < gt.length:=by rw [t.len];exact t.lt i hi
    have e:=t.nd i hi;rw [j8 hlt,j8 hi] at e;have:=Rch.step (x:=(x.1,((σ x.2.toNat:Nat):Int))) ih.2 hlt (by rw [e];exact List.mem_map.2 ⟨x,hx,rfl⟩)
    simpa using this
end turn
end Go.Proofs.YtbcpgfnfiekbiaaGreatDoor
namespace Go.Proofs.YtbcpgfnfiekbiaaGreatDoor
open Go.RowKit
structure TrR (g:List Nd) (r:Nat) (o:List Nat):Prop where
  dl:DL g [r] [] o
  ok:OOk g.length o
  nodup:o.Nodup
  has:r ∈ o
  zero:o.idxOf r=0
  clo:∀ x ∈ o,∀ t ∈ yy g x,t ∈ o
theorem DL.within {g:List Nd} {o:List Nat} (hc:∀ x ∈ o,∀ t ∈ yy g x,t ∈ o) {is a b:List Nat} (h:DL g is a b):(∀ i ∈ is,i ∈ o)→(∀ x ∈ a,x ∈ o)→∀ x ∈ b,x ∈ o:=by
  induction h with
  | nil=>exact fun _ h=>h
  | old h t ih=>exact fun hi ha=>ih (fun i h=>hi i (List.mem_cons_of_mem _ h)) ha
  | new h s t ihs iht=>
    intro hi ha;have hio:=hi _ (List.mem_cons_self ..);refine iht (fun i h=>hi i (List.mem_cons_of_mem _ h)) (ihs (hc _ hio) (fun x hx=>?_));rcases List.mem_append.1 hx with hx | hx
    · exact ha x hx
    · rw [List.mem_singleton.1 hx];exact hio
section sub
variable {g:List Nd} {r:Nat} {o:List Nat}
theorem TrR.mem (t:TrR g r o) {x:Nat} (hx:x ∈ o) {y:Int×Int} (hy:y ∈ (nd g x).ln):y.2.toNat ∈ o:=t.clo x hx _ (by simp only [yy,List.mem_map];exact⟨y,hy,rfl⟩)
theorem TrR.lt (t:TrR g r o) {x:Nat} (hx:x ∈ o):x < g.length:=t.ok.lt x hx
theorem TrR.dl2 (t:TrR g r o) {c:Nat} {o2:List Nat} (hc:c ∈ o) (h2:DL g [c] [] o2):DL (jK g o) [o.idxOf c] [] (o2.map (o.idxOf ·)):=
  h2.map t.clo (h2.within t.clo (fun i hi=>by rw [List.mem_singleton.1 hi];exact hc) (fun x hx=>by cases hx))
theorem TrR.valid {l:List Ty} {fs:List Ft} (t:TrR g r o) (h:GV l fs g):(jJ l fs (jK g o)).1=0:=by
  have hlen:=Zq g o;have hole:o.length≤g.length:=by have:=t.ok.cnt;omega
  have hpos:0 < o.length:=List.length_pos_of_mem t.has;have hle:=h.gok.le;have hget:∀ j (hj:j < o.length),o.idxOf o[j]=j:=fun j hj=>Ix t.nodup hj
  have hrg:∀ i,i < (jK g o).length→∀ y ∈ yy (jK g o) i,y < (jK g o).length:=fun i hi y hy=>by
    rw [hlen] at hi ⊢;rw [← hget i hi,C6 t.clo (List.getElem_mem hi)] at hy;obtain⟨z,hz,rfl⟩:=List.mem_map.1 hy;exact(Z5 (t.clo _ (List.getElem_mem hi) z hz)).1
  refine gv_img (σ:=(o.idxOf ·)) (τ:=fun j=>o.getD j 0) h om om (fun j hj=>?_) (fun j hj=>?_)
  · have hjo:j < o.length:=by omega
    have eg:o.getD j 0=o[j]:=by simp [List.getD,hjo]
    have hm:o[j] ∈ o:=List.getElem_mem hjo;have en:=E0 (g:=g) hm;rw [hget j hjo] at en;simp only [eg];refine⟨t.lt hm,?_,fun x hx=>?_⟩
    · rw [en]
      refine BQ rfl ?_;simp only [canN,trN];refine List.map_congr_left (fun y hy=>?_);simp only [QX,BZ (t.mem hm hy)]
    · have hxo:=t.mem hm hx
      rw [E0 hxo,hlen];exact⟨(Z5 hxo).1,rfl⟩
  · have hd:=t.dl2 t.has t.dl
    rw [t.zero,map_idx t.nodup] at hd;have hR:=hd.rch hrg (fun i hi=>by rw [List.mem_singleton.1 hi];omega) (fun i hi=>by rw [List.mem_singleton.1 hi];exact .zero) (fun x hx=>by cases hx);exact hR j (List.mem_range.2 om)
end sub
section comp
variable {l:List Ty} {fs:List Ft} {g:List Nd} {p q:List Int}
end comp
end Go.Proofs.YtbcpgfnfiekbiaaGreatDoor
