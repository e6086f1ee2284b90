/- What these functions compute, at every world: equal.Small, ref3.runeLength, ref3.Word, ref1.Name, ref1.TermFault; and plain laws. -/
import Derived.Test.YtgcgnkmmbecfmaaGreatDoorU
import Derived.Test.YtgcgnkmmbecfmaaGreatDoorZst
import Derived.Test.YtgcgnkmmbecfmaaGreatDoorDSmC
import Derived.Test.YtgcgnkmmbecfmaaGreatDoorHtx
import Derived.Test.YtgcgnkmmbecfmaaGreatDoorNTo
import Derived.Test.YtgcgnkmmbecfmaaGreatDoorEng7
import Derived.Test.YtgcgnkmmbecfmaaGreatDoorGVd
namespace Go.Proofs.YtgcgnkmmbecfmaaGreatDoor
open Go.RowKit Go.Proofs.Tryz
set_option maxHeartbeats 2000000
variable {b:Nat}{t:Tm}
theorem sz32:(prog.info? 32).map (·.size)=some 5:=by kernel_rfl
theorem sz61_DSm:(prog.info? 61).map (·.size)=some 3:=by kernel_rfl
theorem ze32:(prog.info? 32).map (·.zero)=some (some (.agg cG)):=by kernel_rfl
theorem ze61_DSm:(prog.info? 61).map (·.zero)=some (some (.agg #[.string ⟨#[]⟩,.int .i64 0,.int .i64 0])):=by kernel_rfl
theorem ze9:(prog.info? 9).map (·.zero)=some (some (.string ⟨#[]⟩)):=by kernel_rfl
set_option maxHeartbeats 8000000 in
theorem small_d(w:World):Calls prog 4 #[] w fun e w'=>(∃ v,e= .returned v/\GmD smallT smallF smallR smallX smallS w w' v)/\Bel w w':=by
 refine enT func4 ntmps4 rfl rfl fun hB=>?_;refine zn2 ?_;refine qW (cs:=cG) ze32 rfl (fun b0 w1 b7 s1 hr=>?_);have lo0:=hB.ob hr;refine zn4 ?_;refine ba kR (ZK _ _) rfl (fun w2 s2=>?_);refine ba kR (ZK _ _) rfl (fun w3 s3=>?_);refine qW (cs:=#[.string ⟨#[]⟩,.slice none 0 0]) jv rfl (fun b1 w4 bq s4 hr=>?_);have:=b7.u.ob hr;have lo1:=hB.u.ob hr;refine qW (cs:=#[.string ⟨#[]⟩,.slice none 0 0]) jv rfl (fun b2 w5 bv s5 hr=>?_);have:=b7.u.ob hr;have:=bq.ob hr;have lo2:=hB.u.ob hr;refine zZ bq.u rfl rfl xW rfl qz (fun w6 hq s6=>?_);replace bq:=hq;refine zZ bv.u rfl rfl xW rfl qz (fun w7 hq s7=>?_);replace bv:=hq;refine zn6 ?_;refine qq K6 (Qx [] (Ts.b false) (Ts.b true) _ _ _ _ _ _ _ (by simp) (Fz.triv _ _ TS (fun _=>SimsIn.nil)) (Fz.triv _ _ TS (fun _=>SimsIn.nil))) rfl (fun e' w8 hr=>?_);obtain⟨⟨_,rfl,an,ab,n12,rfl,a4⟩,s8⟩:=hr;replace s8:=sB s8;refine⟨_,rfl,?_⟩;refine yx (cs:=#[.string ⟨#[]⟩,.slice none 0 0]) jv rfl (fun _=>rfl) (fun _=>rfl) xW rfl qz (fun b3 w10 c5 s9 hr=>?_);refine zn6 ?_;replace a4:=a4.tr0 s9;refine qq K6 (Qx [] (Ts.b false) (Ts.f (Ts.b false) (Ts.b true)) _ _ _ _ _ _ _ (by simp) (Fz.triv _ _ TS (fun _=>SimsIn.nil)) a4) rfl (fun e' w11 hr=>?_);obtain⟨⟨_,rfl,ac,a9,n15,rfl,b6⟩,bu⟩:=hr;replace bu:=sB bu;refine⟨_,rfl,?_⟩;refine yx (cs:=#[.string ⟨#[]⟩,.slice none 0 0]) jv rfl (fun _=>rfl) (fun _=>rfl) xW rfl qz (fun b4 w13 c4 c0 hr=>?_);refine zn4 ?_;refine qW (cs:=cG) ze32 rfl (fun b5 w14 a2 bt hr=>?_);have bg:b0<b5:=b7.u.ob hr;have bf:b1<b5:=bq.u.ob hr;have be:b2<b5:=bv.u.ob hr;have bd:b3<b5:=c5.u.ob hr;have bc:b4<b5:=c4.ob hr;have lo5:=hB.u.ob hr;refine zn4 ?_;refine qV (cs:=#[_,_,_,_,_,_,_,_,_,_,_,_,_,_,_]) [(0,.string _),(1,.string _),(2,.string _),(3,.string _),(4,.string _),(5,.string _),(6,.string _),(7,.string _),(8,.string _),(9,.string _),(10,.string _),(11,.string _),(12,.string _),(13,.string _),(14,.string _)] rfl underlying58 sz9_DHo ze9 dE dE kR rfl (fun b16 w15 cf bo hr=>?_);refine qV (cs:=#[_,_,_,_,_,_,_,_,_,_,_,_,_,_,_]) [(0,.int _ _),(1,.int _ _),(2,.int _ _),(3,.int _ _),(4,.int _ _),(5,.int _ _),(6,.int _ _),(7,.int _ _),(8,.int _ _),(9,.int _ _),(10,.int _ _),(11,.int _ _),(12,.int _ _),(13,.int _ _),(14,.int _ _)] rfl U59 RQ qX dE dE kR rfl (fun b17 w16 ce bn hr=>?_)
 refine wl (E3 (v0:= .string _) (v1:= .int _ _) (v2:= .int _ _) (fun v0 v1 v2=>#[v0,v1,v2]) rfl rfl rfl kR) (wl (E3 (v0:= .string _) (v1:= .int _ _) (v2:= .int _ _) (fun v0 v1 v2=>#[v0,v1,v2]) rfl rfl rfl kR) (wl (E3 (v0:= .string _) (v1:= .int _ _) (v2:= .int _ _) (fun v0 v1 v2=>#[v0,v1,v2]) rfl rfl rfl kR) (wl (E3 (v0:= .string _) (v1:= .int _ _) (v2:= .int _ _) (fun v0 v1 v2=>#[v0,v1,v2]) rfl rfl rfl kR) (wl (E3 (v0:= .string _) (v1:= .int _ _) (v2:= .int _ _) (fun v0 v1 v2=>#[v0,v1,v2]) rfl rfl rfl kR) ?_))));refine qV (cs:=#[_,_,_,_,_,_,_,_,_,_,_,_,_,_,_]) [(0,.agg _),(1,.agg _),(2,.agg _),(3,.agg _),(4,.agg _)] rfl U23 sz61_DSm ze61_DSm dE dE kR rfl (fun a5 w17 c1 bk hr=>?_);refine qq kR (Sz (some ⟨b16,0,none⟩) (some ⟨b17,0,none⟩) _ _ _ _ _ smallN smallP _ (HW smallN cf.u) (qY smallP ce.u dE) dE rfl) rfl (fun e' w18 hr=>?_);obtain⟨⟨At,a1,rfl,br⟩,bb⟩:=hr;replace bb:=sB bb;replace c1:=c1.tr0 bb;have c2:=(Fz.blk (X:=[]) (ts:=TS) c1 (by simp) (Ok dE dE dE _)).imp (fun _ h=>Wx smallF h dE);replace br:Fz [] _ TS w18 (fun w=>TypesIn w At smallT):=br;refine⟨_,rfl,?_⟩;refine zn1 ?_;replace a2:=a2.tr0 (bo.t (bn.t (bk.t bb)));refine Mv a2 rfl rfl N9 (by first|decide|simp) qz rfl (fun w19 hq bh=>?_);replace a4:=a4.tr0 (bu.t (c0.t (bt.t (bo.t (bn.t (bk.t bb))))));replace a4:=a4.sp1 bh a2 (.inl dE);replace b6:=b6.tr0 (c0.t (bt.t (bo.t (bn.t (bk.t bb)))));replace b6:=b6.sp1 bh a2 (.inl dE);replace br:=br.sp1 bh a2 (.inl dE);replace c2:=c2.sp1 bh a2 (.inl dE);replace a2:=hq;refine zn4 ?_;refine qq kR (meanings_d _) rfl (fun e' w20 hr=>?_);obtain⟨⟨bm,csm,nm,rfl,hbm,hTm⟩,b8⟩:=hr;replace b8:=sB b8;refine⟨_,rfl,?_⟩;refine zn4 ?_;refine y9 (rg [] 27 68) (fun g w'=>Same [b5] w20 w'/\∃ a3 cr nRl,w20.heap.size<=a3/\Blk w' a3 50 cr/\Fz [] nRl TS w' (fun w=>RlCs w smallR cr.toList)/\Blk w' b5 32 #[.slice At 15 a1,.slice (some ⟨a5,0,none⟩) 5 5,.slice (some ⟨a3,0,none⟩) 6 6,.slice none 0 0,.slice none 0 0]) ?_ (fun g7 w21 hI=>?_)
 ·replace a2:=a2.tr0 b8;have hh:=fun f Q k0 k1 kq=>small_r7 a2 hbm hTm f Q k0 k1 kq
  exact hh _ _ (by rfl) (by rfl) (by intro d;cases d<;>exact fun _ _ _ _ h=>h)
 obtain⟨bi,a3,cr,nRl,c6,b9,hRl,cd⟩:=hI;have ca:b5<a3:=nLL a2.u.lt c6;replace hB:=(((((hB.tr0 (s1.t (s2.t (s3.t (s4.t s5))))).tr1 s6 lo1).tr1 s7 lo2).tr0 (s8.t (s9.t (bu.t (c0.t (bt.t (bo.t (bn.t (bk.t bb))))))))).tr1 bh lo5).tr0 b8;have lo93:=nLT (Bel.size hB) c6;replace hB:=hB.tr1 bi lo5;replace b7:=(((((b7.tr0 (s2.t (s3.t (s4.t s5)))).tr1 s6 oG).tr1 s7 oG).tr0 (s8.t (s9.t (bu.t (c0.t (bt.t (bo.t (bn.t (bk.t bb))))))))).tr1 bh oG).tr0 b8;replace b7:=b7.tr1 bi oG;replace bq:=(((bq.tr1 s7 oG).tr0 (s8.t (s9.t (bu.t (c0.t (bt.t (bo.t (bn.t (bk.t bb))))))))).tr1 bh oG).tr0 b8;replace bq:=bq.tr1 bi oG;replace bv:=((bv.tr0 (s8.t (s9.t (bu.t (c0.t (bt.t (bo.t (bn.t (bk.t bb))))))))).tr1 bh oG).tr0 b8;replace bv:=bv.tr1 bi oG;replace c5:=((c5.tr0 (bu.t (c0.t (bt.t (bo.t (bn.t (bk.t bb))))))).tr1 bh oG).tr0 b8;replace c5:=c5.tr1 bi oG;replace c4:=((c4.tr0 (bt.t (bo.t (bn.t (bk.t bb))))).tr1 bh oG).tr0 b8;replace c4:=c4.tr1 bi oG;replace a2:=a2.tr0 b8;replace br:=br.tr0 b8;replace br:=br.sp1 bi a2 (.inl dE);replace c2:=c2.tr0 b8;replace c2:=c2.sp1 bi a2 (.inl dE);replace a4:=a4.tr0 b8;replace a4:=a4.sp1 bi a2 (.inl dE);replace b6:=b6.tr0 b8;replace b6:=b6.sp1 bi a2 (.inl dE);replace a2:=cd;refine zn3 ?_;refine wl (r_mf rfl) (zn4 ?_);obtain⟨base,ao⟩:∃ b,b=w21.heap.size:=⟨_,rfl⟩
 have hI:SmSt smallT smallF smallR b0 b1 b2 b3 b4 b5 a5 a3 base a1 ab a9 At an ac cr 0 D5 w w21:=⟨⟨hB,ay ao,b7,bq,bv,c5,c4,b9,by rw[ao];exact br.and (c2.and hRl),by rw[ao];exact a4.up,by rw[ao];exact b6.up,lo5,lo93,⟨bg,bf,be,bd,bc,ca⟩,⟨by rw[ao];exact a2.lt,by rw[ao];exact b9.lt⟩⟩,none,0,[],_,a2,Own.nil _ _ _ _,Fz.triv [] _ TS (fun _=>LxData.nil)⟩
 refine y9 [96,97,98,99,100,101] (fun g w'=>SmSt smallT smallF smallR b0 b1 b2 b3 b4 b5 a5 a3 base a1 ab a9 At an ac cr 1 NX w w') ?_ (fun g9 w22 hI=>?_)
 ·have hh:=fun f Q k0 kq=>small_r9 hI f Q k0 kq
  exact hh _ _ (by rfl) (by intro d;cases d<;>exact fun _ _ _ _ h=>h)
 obtain hI:=hI;refine e_S (xV ?_);refine y9 [102,103,104,105,106,107] (fun g w'=>SmSt smallT smallF smallR b0 b1 b2 b3 b4 b5 a5 a3 base a1 ab a9 At an ac cr 2 NQ w w') ?_ (fun g10 w23 hI=>?_)
 ·have hh:=fun f Q k0 kq=>small_r10 hI f Q k0 kq
  exact hh _ _ (by rfl) (by intro d;cases d<;>exact fun _ _ _ _ h=>h)
 obtain hI:=hI;refine e_S (xV ?_);refine y9 [108,109,110,111,112] (fun g w'=>SmSt smallT smallF smallR b0 b1 b2 b3 b4 b5 a5 a3 base a1 ab a9 At an ac cr 3 NZ w w') ?_ (fun g11 w24 hI=>?_)
 ·have hh:=fun f Q k0 kq=>small_r11 hI f Q k0 kq
  exact hh _ _ (by rfl) (by intro d;cases d<;>exact fun _ _ _ _ h=>h)
 obtain hI:=hI;refine e_S (xV ?_);refine y9 [113,114,115,116,117,118,119] (fun g w'=>SmSt smallT smallF smallR b0 b1 b2 b3 b4 b5 a5 a3 base a1 ab a9 At an ac cr 4 Ny w w') ?_ (fun g12 w25 hI=>?_)
 ·have hh:=fun f Q k0 k1 kq=>small_r12 hI f Q k0 k1 kq
  exact hh _ _ (by rfl) (by rfl) (by intro d;cases d<;>exact fun _ _ _ _ h=>h)
 obtain hI:=hI;refine e_S (xV ?_);refine y9 [120,121,122,123,124,125,126] (fun g w'=>SmSt smallT smallF smallR b0 b1 b2 b3 b4 b5 a5 a3 base a1 ab a9 At an ac cr 5 Nv w w') ?_ (fun g13 w26 hI=>?_)
 ·have hh:=fun f Q k0 k1 kq=>small_r13 hI f Q k0 k1 kq
  exact hh _ _ (by rfl) (by rfl) (by intro d;cases d<;>exact fun _ _ _ _ h=>h)
 obtain hI:=hI;refine e_S (xV ?_);refine y9 [127,128,129,130,131,132,133] (fun g w'=>SmSt smallT smallF smallR b0 b1 b2 b3 b4 b5 a5 a3 base a1 ab a9 At an ac cr 6 Nk w w') ?_ (fun g14 w27 hI=>?_)
 ·have hh:=fun f Q k0 k1 kq=>small_r14 hI f Q k0 k1 kq
  exact hh _ _ (by rfl) (by rfl) (by intro d;cases d<;>exact fun _ _ _ _ h=>h)
 obtain hI:=hI;refine e_S (xV ?_);refine y9 [134,135,136,137,138,139,140] (fun g w'=>SmSt smallT smallF smallR b0 b1 b2 b3 b4 b5 a5 a3 base a1 ab a9 At an ac cr 7 Nj w w') ?_ (fun g15 w28 hI=>?_)
 ·have hh:=fun f Q k0 k1 kq=>small_r15 hI f Q k0 k1 kq
  exact hh _ _ (by rfl) (by rfl) (by intro d;cases d<;>exact fun _ _ _ _ h=>h)
 obtain hI:=hI;refine e_S (xV ?_);refine y9 [141,142,143,144,145,146,147] (fun g w'=>SmSt smallT smallF smallR b0 b1 b2 b3 b4 b5 a5 a3 base a1 ab a9 At an ac cr 8 Nx w w') ?_ (fun g16 w29 hI=>?_)
 ·have hh:=fun f Q k0 k1 kq=>small_r16 hI f Q k0 k1 kq
  exact hh _ _ (by rfl) (by rfl) (by intro d;cases d<;>exact fun _ _ _ _ h=>h)
 obtain hI:=hI;refine e_S (xV ?_);refine y9 [148,149,150,151,152,153,154] (fun g w'=>SmSt smallT smallF smallR b0 b1 b2 b3 b4 b5 a5 a3 base a1 ab a9 At an ac cr 9 Nq w w') ?_ (fun g17 w30 hI=>?_)
 ·have hh:=fun f Q k0 k1 kq=>small_r17 hI f Q k0 k1 kq
  exact hh _ _ (by rfl) (by rfl) (by intro d;cases d<;>exact fun _ _ _ _ h=>h)
 obtain hI:=hI;refine e_S (xV ?_);refine y9 [155,156,157,158,159,160,161] (fun g w'=>SmSt smallT smallF smallR b0 b1 b2 b3 b4 b5 a5 a3 base a1 ab a9 At an ac cr 10 I2 w w') ?_ (fun g18 w31 hI=>?_)
 ·have hh:=fun f Q k0 k1 kq=>small_r18 hI f Q k0 k1 kq
  exact hh _ _ (by rfl) (by rfl) (by intro d;cases d<;>exact fun _ _ _ _ h=>h)
 obtain hI:=hI;refine e_S (xV ?_);refine y9 [162,163,164,165,166,167,168] (fun g w'=>SmSt smallT smallF smallR b0 b1 b2 b3 b4 b5 a5 a3 base a1 ab a9 At an ac cr 11 I1 w w') ?_ (fun g19 w32 hI=>?_)
 ·have hh:=fun f Q k0 k1 kq=>small_r19 hI f Q k0 k1 kq
  exact hh _ _ (by rfl) (by rfl) (by intro d;cases d<;>exact fun _ _ _ _ h=>h)
 obtain hI:=hI;refine e_S (xV ?_);refine y9 [169,170,171,172,173,174,175] (fun g w'=>SmSt smallT smallF smallR b0 b1 b2 b3 b4 b5 a5 a3 base a1 ab a9 At an ac cr 12 I0 w w') ?_ (fun g20 w33 hI=>?_)
 ·have hh:=fun f Q k0 k1 kq=>small_r20 hI f Q k0 k1 kq
  exact hh _ _ (by rfl) (by rfl) (by intro d;cases d<;>exact fun _ _ _ _ h=>h)
 obtain hI:=hI;refine e_S (xV ?_);refine y9 [176,177,178,179,180,181,182] (fun g w'=>SmSt smallT smallF smallR b0 b1 b2 b3 b4 b5 a5 a3 base a1 ab a9 At an ac cr 13 KY w w') ?_ (fun g21 w34 hI=>?_)
 ·have hh:=fun f Q k0 k1 kq=>small_r21 hI f Q k0 k1 kq
  exact hh _ _ (by rfl) (by rfl) (by intro d;cases d<;>exact fun _ _ _ _ h=>h)
 obtain hI:=hI;refine e_S (xV ?_);refine y9 [183,184,185,186,187,188,189] (fun g w'=>SmSt smallT smallF smallR b0 b1 b2 b3 b4 b5 a5 a3 base a1 ab a9 At an ac cr 14 KW w w') ?_ (fun g22 w35 hI=>?_)
 ·have hh:=fun f Q k0 k1 kq=>small_r22 hI f Q k0 k1 kq
  exact hh _ _ (by rfl) (by rfl) (by intro d;cases d<;>exact fun _ _ _ _ h=>h)
 obtain hI:=hI;refine e_S (xV ?_);refine y9 [190,191,192,193,194,195,196] (fun g w'=>SmSt smallT smallF smallR b0 b1 b2 b3 b4 b5 a5 a3 base a1 ab a9 At an ac cr 15 KV w w') ?_ (fun g23 w36 hI=>?_)
 ·have hh:=fun f Q k0 k1 kq=>small_r23 hI f Q k0 k1 kq
  exact hh _ _ (by rfl) (by rfl) (by intro d;cases d<;>exact fun _ _ _ _ h=>h)
 obtain hI:=hI;refine e_S (xV ?_);refine y9 [197,198,199,200,201,202,203] (fun g w'=>SmSt smallT smallF smallR b0 b1 b2 b3 b4 b5 a5 a3 base a1 ab a9 At an ac cr 16 KK w w') ?_ (fun g24 w37 hI=>?_)
 ·have hh:=fun f Q k0 k1 kq=>small_r24 hI f Q k0 k1 kq
  exact hh _ _ (by rfl) (by rfl) (by intro d;cases d<;>exact fun _ _ _ _ h=>h)
 obtain hI:=hI;refine e_S (xV ?_);refine y9 [204,205,206,207,208,209,210] (fun g w'=>SmSt smallT smallF smallR b0 b1 b2 b3 b4 b5 a5 a3 base a1 ab a9 At an ac cr 17 KJ w w') ?_ (fun g25 w38 hI=>?_)
 ·have hh:=fun f Q k0 k1 kq=>small_r25 hI f Q k0 k1 kq
  exact hh _ _ (by rfl) (by rfl) (by intro d;cases d<;>exact fun _ _ _ _ h=>h)
 obtain hI:=hI;refine e_S (xV ?_);refine y9 (rg [] 211 8) (fun g w'=>SmSt smallT smallF smallR b0 b1 b2 b3 b4 b5 a5 a3 base a1 ab a9 At an ac cr 18 KX w w') ?_ (fun g26 w39 hI=>?_)
 ·have hh:=fun f Q k0 k1 kq=>small_r26 hI f Q k0 k1 kq
  exact hh _ _ (by rfl) (by rfl) (by intro d;cases d<;>exact fun _ _ _ _ h=>h)
 obtain hI:=hI;refine e_S (xV ?_);refine y9 (rg [] 219 10) (fun g w'=>SmSt smallT smallF smallR b0 b1 b2 b3 b4 b5 a5 a3 base a1 ab a9 At an ac cr 19 KQ w w') ?_ (fun g27 w40 hI=>?_)
 ·have hh:=fun f Q k0 k1 kq=>small_r27 hI f Q k0 k1 kq
  exact hh _ _ (by rfl) (by rfl) (by intro d;cases d<;>exact fun _ _ _ _ h=>h)
 obtain hI:=hI;refine e_S (xV ?_);refine y9 (rg [] 229 11) (fun g w'=>SmSt smallT smallF smallR b0 b1 b2 b3 b4 b5 a5 a3 base a1 ab a9 At an ac cr 20 KZ w w') ?_ (fun g28 w41 hI=>?_)
 ·have hh:=fun f Q k0 k1 k2 kq=>small_r28 hI f Q k0 k1 k2 kq
  exact hh _ _ (by rfl) (by rfl) (by rfl) (by intro d;cases d<;>exact fun _ _ _ _ h=>h)
 obtain hI:=hI;refine e_S (xV ?_);refine y9 (rg [] 240 11) (fun g w'=>SmSt smallT smallF smallR b0 b1 b2 b3 b4 b5 a5 a3 base a1 ab a9 At an ac cr 21 Cq w w') ?_ (fun g29 w42 hI=>?_)
 ·have hh:=fun f Q k0 k1 k2 kq=>small_r29 hI f Q k0 k1 k2 kq
  exact hh _ _ (by rfl) (by rfl) (by rfl) (by intro d;cases d<;>exact fun _ _ _ _ h=>h)
 obtain hI:=hI;refine e_S (xV ?_);obtain⟨hC,A,cap,xs,nL,a2,ho,hL⟩:=hI;have hB:=hC.bel;have b7:=hC.k0;have b9:=hC.k93;have hD:=hC.dt;have lo5:=hC.lo5;obtain⟨o0,_,_,_,_,o9⟩:=hC.o;obtain⟨l5,l9⟩:=hC.l;refine oK ?_;refine qV (cs:=#[_]) [(0,.int _ _)] rfl U59 RQ qX dE dE kR rfl (fun b251 w43 c8 bz hr=>?_);refine qV (cs:=#[_]) [(0,.slice _ _ _)] rfl U64 Hv xY dE dE kR rfl (fun b252 w44 c7 bx hr=>?_);refine qq kR (ZJ _ _ [[6]] _ (xx (rs:=[[6]]) c7 (.cons ⟨_,_,rfl,qY [6] c8.u dE,by decide,by decide⟩ .nil) dE)) rfl (fun e' w45 hr=>?_);obtain⟨⟨Ast,cst,rfl,c9⟩,bj⟩:=hr;replace bj:=sB bj;refine⟨_,rfl,?_⟩;refine zn1 ?_;replace a2:=a2.tr0 (bz.t (bx.t bj));refine Mv a2 rfl rfl C7 (by first|decide|simp) qz rfl (fun w46 hq bw=>?_);replace hD:=hD.tr0 (bz.t (bx.t bj));replace hD:=hD.sp1 bw a2 (.inl dE);replace ho:=ho.tr0 (bz.t (bx.t bj));replace ho:=ho.tq bw;replace hL:=hL.tr0 (bz.t (bx.t bj));replace hL:=hL.sp1 bw a2 (.inl dE);replace c9:=c9.sp1 bw a2 (.inl dE);replace a2:=hq;refine zn5 ?_;refine zZ b7.u rfl rfl sz32 rfl qz (fun w47 hq c3=>?_);replace b7:=(b7.tr0 (bz.t (bx.t bj))).tr1 bw oG;replace hD:=hD.sp1 c3 b7 (.inl dE);replace ho:=ho.tq c3;replace hL:=hL.sp1 c3 b7 (.inl dE);replace c9:=c9.sp1 c3 b7 (.inl dE);replace b7:=hq;refine zn3 ?_;refine xK (.inl rfl) rfl (zW U32 rfl rfl b7.range0 sz32) ?_;have cb:∀ t∈[50],t∈TS:=by decide
 have cc:=((hD.sub cb).and ((((ho.fz (ts:=[50]) (Ok dE dE dE)).and (hL.sub cb)).imp (fun _ h=>gof_lexes h.1 h.2)).and (c9.sub cb))).imp (Q:=fun w=>TypesIn w At smallT/\FeatsIn w (some ⟨a5,0,none⟩) smallF/\RlCs w smallR cr.toList/\LexesIn w A smallX/\NodesIn w Ast smallS) (fun _ h=>⟨h.1.1,h.1.2.1,h.1.2.2,h.2.1,h.2.2⟩);replace hB:=((hB.tr0 (bz.t (bx.t bj))).tr1 bw lo5).tr1 c3 lo0;replace b9:=((b9.tr0 (bz.t (bx.t bj))).tr1 bw oG).tr1 c3 oG;exact⟨⟨_,rfl,At,a1,some ⟨a5,0,none⟩,5,a3,cr,A,cap,Ast,cst,_,rfl,hC.lo93,(show (smallX).length<=cap from ho.cap_le),b9,cc⟩,hB⟩
theorem rl_any(x:ByteArray)(hx:0<x.size)(w:World):Calls prog 64 #[.string x] w fun e w'=>e= .returned (.int .i64 (E0 x))/\w=w':=by
 have hb0:=ov x 0;refine enter func64 ntmps64 rfl (aD rfl) (zn8 ?_);refine wl (u7 (i:=0) U9 rfl rfl hx) (zn23 ?_);refine zQ rfl (fun c10=>?_) (fun c10=>?_)
 ·refine zn9 ?_;exact⟨congrArg (fun z=>Ending.returned (.int .i64 z)) (rlen_low oG).symm,rfl⟩
 have ab:128<=gb x 0:=by omega
 refine xV ?_;refine xw [13,14,15,16,17,18,19] 13 (.bool (decide (194<=gb x 0/\gb x 0<=223))) nu ?_ (fun gq=>?_)
 ·refine zn4 ?_;refine zw 16 rfl (fun g16=>?_) (fun g16=>?_)
  ·refine zn6 ?_;refine zJ (e_R ⟨rfl,agA,?_⟩);exact clA
  refine zn4 ?_;refine zJ (e_R ⟨rfl,agA,?_⟩);exact clA
 refine e_S ?_;refine y9 (rg [2,4,5,6] 20 23) (fun g w'=>∃(nn:Nat) (vz lz:Int),g 4= .int .i64 (nn:Int)/\g 6= .int .i64 vz/\g 5= .int .i64 lz/\Hd (gb x 0) nn vz lz/\w=w') ?_ (fun gx1 w1 hI=>?_)
 ·refine zQ rfl (fun a5=>?_) (fun a5=>?_)
  ·refine zn2 ?_;refine wl (CJ U5 U3 rfl oG) (wl (kZ rfl rfl rfl oG) (zn4 ?_));refine e_R ⟨agA,?_⟩
   first
     | exact⟨2,_,_,rfl,rfl,rfl,.inl ⟨a5.1,a5.2,rfl,rfl,rfl⟩,rfl⟩
     | exact⟨3,_,_,rfl,rfl,rfl,.inr (.inl ⟨a4.1,a4.2,rfl,rfl,rfl⟩),rfl⟩
     | exact⟨4,_,_,rfl,rfl,rfl,.inr (.inr ⟨a3.1,a3.2,rfl,rfl,rfl⟩),rfl⟩
  refine xV ?_;refine xw [23,24,25,26,27,28,29] 23 (.bool (decide (224<=gb x 0/\gb x 0<=239))) nu ?_ (fun gq=>?_)
  ·refine zn4 ?_;refine zw 26 rfl (fun g26=>?_) (fun g26=>?_)
   ·refine zn6 ?_;refine zJ (e_R ⟨rfl,agA,?_⟩);exact clA
   refine zn4 ?_;refine zJ (e_R ⟨rfl,agA,?_⟩);exact clA
  refine e_S ?_;refine zQ rfl (fun a4=>?_) (fun a4=>?_)
  ·refine zn2 ?_;refine wl (CJ U5 U3 rfl oG) (wl (kZ rfl rfl rfl oG) (zn4 ?_));refine e_R ⟨agA,?_⟩
   first
     | exact⟨2,_,_,rfl,rfl,rfl,.inl ⟨a5.1,a5.2,rfl,rfl,rfl⟩,rfl⟩
     | exact⟨3,_,_,rfl,rfl,rfl,.inr (.inl ⟨a4.1,a4.2,rfl,rfl,rfl⟩),rfl⟩
     | exact⟨4,_,_,rfl,rfl,rfl,.inr (.inr ⟨a3.1,a3.2,rfl,rfl,rfl⟩),rfl⟩
  refine xV ?_;refine xw [33,34,35,36,37,38,39] 33 (.bool (decide (240<=gb x 0/\gb x 0<=244))) nu ?_ (fun gq=>?_)
  ·refine zn4 ?_;refine zw 36 rfl (fun g36=>?_) (fun g36=>?_)
   ·refine zn6 ?_;refine zJ (e_R ⟨rfl,agA,?_⟩);exact clA
   refine zn4 ?_;refine zJ (e_R ⟨rfl,agA,?_⟩);exact clA
  refine e_S ?_;refine zQ rfl (fun a3=>?_) (fun a3=>?_)
  ·refine zn2 ?_;refine wl (CJ U5 U3 rfl oG) (wl (kZ rfl rfl rfl oG) (zn4 ?_));refine e_R ⟨agA,?_⟩
   first
     | exact⟨2,_,_,rfl,rfl,rfl,.inl ⟨a5.1,a5.2,rfl,rfl,rfl⟩,rfl⟩
     | exact⟨3,_,_,rfl,rfl,rfl,.inr (.inl ⟨a4.1,a4.2,rfl,rfl,rfl⟩),rfl⟩
     | exact⟨4,_,_,rfl,rfl,rfl,.inr (.inr ⟨a3.1,a3.2,rfl,rfl,rfl⟩),rfl⟩
  refine zn6 ?_;refine e_RSr (zn3 ?_);exact⟨congrArg (fun z=>Ending.returned (.int .i64 z)) (rlen_no ab oG).symm,rfl⟩
 obtain⟨nn,vz,lz,h4,h6,h5,hd,rfl⟩:=hI;obtain⟨a9,a2⟩:=hd_rl hd;have hn:2<=nn/\nn<=4/\0<=vz/\vz<=31:=by
   rcases hd with ⟨q1,q2,q3,q4,q5⟩|⟨q1,q2,q3,q4,q5⟩|⟨q1,q2,q3,q4,q5⟩<;>omega
 clear hd;refine jj 4 _ h4 nu (jj 6 _ h6 nu (jj 5 _ h5 nu (jq ?_)));refine zQ rfl (fun c46=>?_) (fun c46=>?_)
 ·refine zn8 ?_;exact⟨congrArg (fun z=>Ending.returned (.int .i64 z)) (a2 (.inl oG)).symm,rfl⟩
 have hxs:nn<=x.size:=by omega
 refine zn9 ?_;refine qx (rg [2,6,7] 47 23) (fun m g w'=>∃ k:Nat,k+1<=nn/\m=nn-(k+1)/\g 7= .int .i64 ((k+1:Nat):Int)/\g 6= .int .i64 (vv x vz k)/\(∀ j,1<=j->j<k+1->128<=gb x j/\gb x j<=191)/\0<=vv x vz k/\((k=0/\vv x vz k<=31)\/(k=1/\vv x vz k<=2047)\/(k=2/\vv x vz k<=131071)\/(k=3/\vv x vz k<=8388607))/\w=w') (nn-1) ?_ (fun m g16 w2 hI=>?_)
 ·exact⟨0,by omega,rfl,rfl,rfl,fun j h1 h2=>by omega,hn.2.2.1,.inl ⟨rfl,hn.2.2.2⟩,rfl⟩
 obtain⟨k,hk,hm,h7,h6b,a1,hv0,hvb,rfl⟩:=hI;refine zX 7 _ h7 nu (zX 6 _ h6b nu (zn8 ?_));refine zQ rfl (fun c49=>?_) (fun c49=>?_)
 ·have hk2:k+1<nn:=by omega
  refine zn6 ?_;refine xw (rg [] 52 10) 61 (.bool (decide ((¬(128<=gb x (k+1)/\gb x (k+1)<=191))))) nu ?_ (fun gq=>?_)
  ·refine zn3 ?_;refine wl (u7 (i:=(k+1)) U9 rfl rfl oG) (zn2 ?_);refine zw 56 rfl (fun g56=>?_) (fun g56=>?_)
   ·refine zn5 ?_;refine zJ (e_R ⟨rfl,agA,?_⟩);exact clA
   refine zn5 ?_;refine wl (u7 (i:=(k+1)) U9 rfl rfl oG) (zn3 ?_);refine zJ (e_R ⟨rfl,agA,?_⟩);exact clA
  refine e_S ?_;refine zQ rfl (fun an=>?_) (fun an=>?_)
  ·refine uw ?_;exact⟨congrArg (fun z=>Ending.returned (.int .i64 z)) (a2 (.inr (.inl ⟨k+1,by omega,hk2,an⟩))).symm,rfl⟩
  have hbt:128<=gb x (k+1)/\gb x (k+1)<=191:=az.1 an;refine zn4 ?_;refine wl (r_mul rfl rfl rfl (by clear a1 a9 a2;omega)) (zn2 ?_);refine wl (u7 (i:=(k+1)) U9 rfl rfl oG) (wl (CJ U5 U3 rfl oG) (wl (Z4 rfl rfl rfl (by clear a1 a9 a2;omega)) (wl (kZ rfl rfl rfl (by clear a1 a9 a2;omega)) (zn9 ?_))));refine x8 (nn-(k+2)) oG agA ?_;refine⟨k+1,by omega,rfl,rfl,rfl,fun j h1 h2=>?_,?_,?_,rfl⟩
  · by_cases e:j=k+1
    · rw[e];exact hbt
    · exact a1 j h1 oG
  · simp only[vv];omega
  · simp only[vv];clear a1 a9 a2;omega
 have hkn:nn=k+1:=by omega
 subst hkn;simp only[Nat.add_sub_cancel]at a9 a2;refine zn7 ?_
 try clear h6
 refine xw (rg [] 70 15) 84 (.bool (decide (vv x vz k<lz\/1114111<vv x vz k\/(55296<=vv x vz k/\vv x vz k<=57343)))) nu ?_ (fun gq=>?_)
 ·refine zn5 ?_;refine zw 73 rfl (fun g73=>?_) (fun g73=>?_)
  ·refine jq ?_;refine zJ (e_R ⟨rfl,agA,?_⟩);exact clA
  refine zn6 ?_;refine zw 77 rfl (fun g77=>?_) (fun g77=>?_)
  ·refine zn7 ?_;refine zJ (e_R ⟨rfl,agA,?_⟩);exact clA
  refine zn6 ?_;refine zw 80 rfl (fun g80=>?_) (fun g80=>?_)
  ·refine zn7 ?_;refine zJ (e_R ⟨rfl,agA,?_⟩);exact clA
  refine zn5 ?_;refine zJ (e_R ⟨rfl,agA,?_⟩);exact clA
 refine e_S ?_;refine zQ rfl (fun ac=>?_) (fun ac=>?_)
 ·refine zn8 ?_;exact⟨congrArg (fun z=>Ending.returned (.int .i64 z)) (a2 (.inr (.inr ⟨ac,a1⟩))).symm,rfl⟩
 refine yW ?_;exact⟨congrArg (fun z=>Ending.returned (.int .i64 z)) (a9 hxs a1 ac).symm,rfl⟩
theorem wordr_any(s:ByteArray)(w:World)(hsz:s.size<9223372036854775807):Calls prog 50 #[.string s] w fun e w'=>e= .returned (.bool (kw s))/\Bel w w':=by
 refine enT func50 ntmps50 rfl rfl fun hB=>?_;refine ZV ?_;refine wl_rg U9 rfl (fun b9 w1 a2 s1 hr=>?_);have lo9:=hB.ob hr;refine zn3 ?_;refine qx (rg [2,3,5] 10 39) (fun m g w'=>∃ p n:Nat,p<=s.size/\m=s.size-p/\n<=p/\g 3= .int .i64 n/\n+(ch s p).length=(ch s 0).length/\brd s 0=brd s p/\Bel w w'/\ItIn w' b9 s p) (s.size) ?_ (fun m g3 w2 hI=>?_)
 ·exact⟨0,0,ag _,rfl,ah _,rfl,Nat.zero_add _,rfl,hB.u,a2⟩
 obtain⟨p,n,hp,hm,hnp,h3,hc,a5,hB,a2⟩:=hI;refine zX 3 _ h3 nu (zn2 ?_);rcases aQ (p) (s).size with hnlt|hnge
 ·refine wl_nx a2 rfl hnlt (fun w3 hq s2=>?_);replace a2:=hq;have hwp:=Yw hnlt;have hwl:=Rz hnlt;rw[EQ hnlt,List.length_cons]at hc;refine wl (vY (v:= .bool true) rfl rfl) (zn9 ?_);refine wl (vY (v:= .int _ _) rfl rfl) (jq ?_);replace hB:=hB.tr1 s2 lo9;refine xw (rg [] 15 34) 48 (.bool (decide ((Utf8.decode s p).1=32\/(Utf8.decode s p).1=9\/(Utf8.decode s p).1=10\/(Utf8.decode s p).1=40\/(Utf8.decode s p).1=41\/(Utf8.decode s p).1=91\/(Utf8.decode s p).1=93\/(Utf8.decode s p).1=44\/(Utf8.decode s p).1=59))) nu ?_ (fun gq=>?_)
  ·refine zn4 ?_;refine zw 17 rfl (fun g17=>?_) (fun g17=>?_)
   ·refine zn30 ?_;refine zn1 ?_;refine zJ (e_R ⟨rfl,agA,?_⟩);exact clA
   refine zn6 ?_;refine zw 21 rfl (fun g21=>?_) (fun g21=>?_)
   ·refine zn27 ?_;refine zJ (e_R ⟨rfl,agA,?_⟩);exact clA
   refine zn6 ?_;refine zw 25 rfl (fun g25=>?_) (fun g25=>?_)
   ·refine zn23 ?_;refine zJ (e_R ⟨rfl,agA,?_⟩);exact clA
   refine zn6 ?_;refine zw 29 rfl (fun g29=>?_) (fun g29=>?_)
   ·refine zn19 ?_;refine zJ (e_R ⟨rfl,agA,?_⟩);exact clA
   refine zn6 ?_;refine zw 33 rfl (fun g33=>?_) (fun g33=>?_)
   ·refine Yv ?_;refine zJ (e_R ⟨rfl,agA,?_⟩);exact clA
   refine zn6 ?_;refine zw 37 rfl (fun g37=>?_) (fun g37=>?_)
   ·refine jq ?_;refine zJ (e_R ⟨rfl,agA,?_⟩);exact clA
   refine zn6 ?_;refine zw 41 rfl (fun g41=>?_) (fun g41=>?_)
   ·refine zn7 ?_;refine zJ (e_R ⟨rfl,agA,?_⟩);exact clA
   refine zn6 ?_;refine zw 45 rfl (fun g45=>?_) (fun g45=>?_)
   ·refine zn3 ?_;refine zJ (e_R ⟨rfl,agA,?_⟩);exact clA
   refine zn5 ?_;refine zJ (e_R ⟨rfl,agA,?_⟩);exact clA
  refine e_S ?_;refine zQ rfl (fun ab=>?_) (fun ab=>?_)
  ·refine jq ?_;exact⟨congrArg (fun b=>Ending.returned (.bool b)) (by unfold kw;rw[a5,J2 hnlt,(spc_iff _).2 ab];simp),hB⟩
  have hsn:spc (Utf8.decode s p).1=false:=by
    cases h:spc (Utf8.decode s p).1 with
    | false=>rfl
    | true=>exact absurd ((spc_iff _).1 h) ab
  refine Yj (e_B (x8 (s.size-(p+wdt s p)) oG agA ?_));exact⟨p+wdt s p,n+1,hwl,rfl,by omega,rfl,by omega,by rw[a5,J2 hnlt,hsn,Bool.false_or],hB,a2⟩
 refine wl (r_ne a2 rfl (Nat.not_lt.2 hnge)) ?_;rw[Wk (Nat.not_lt.2 hnge),List.length_nil,Nat.add_zero]at hc;rw[Dw (Nat.not_lt.2 hnge)]at a5;refine wl (vY (v:= .bool false) rfl rfl) (jq ?_);refine xw [49,50,51,52,53,54] 54 (.bool (decide (n<1\/30<n))) nu ?_ (fun gq=>?_)
 ·refine zn4 ?_;refine zw 51 rfl (fun g51=>?_) (fun g51=>?_)
  ·refine zn3 ?_;refine zJ (e_R ⟨rfl,agA,?_⟩);exact clA
  refine zn5 ?_;refine zJ (e_R ⟨rfl,agA,?_⟩);exact clA
 refine e_S ?_;refine zQ rfl (fun c54=>?_) (fun c54=>?_)
 ·refine zn8 ?_;exact⟨congrArg (fun b=>Ending.returned (.bool b)) (by unfold kw;rcases c54 with h|h<;>first|(rw[decide_eq_false (show ¬1<=(ch s 0).length by omega)];rfl)|(rw[decide_eq_false (show ¬(ch s 0).length<=30 by omega)];simp)),hB⟩
 refine zn9 ?_;refine qx (rg [2,6,7] 55 13) (fun m g w'=>∃ q:Nat,q<=s.size/\s.size-q<=m/\g 6= .int .i64 q/\vq s 0=vq s q/\Bel w w') (s.size) ?_ (fun m g11 w4 hI=>?_)
 ·exact⟨0,ag _,ah _,rfl,rfl,hB⟩
 obtain⟨q,hq,hm2,h6,hv,hB⟩:=hI;obtain⟨mo,rfl⟩:∃ x,x=m:=⟨_,rfl⟩
 refine zX 6 _ h6 nu (zn9 ?_);refine zQ rfl (fun c58=>?_) (fun c58=>?_)
 ·have a3:q<s.size:=by omega
  have hwp2:=Yw a3;have a9:=Rz a3;refine zn7 ?_;refine wl (VJ (l:=q) U9 rfl rfl oG) ?_;refine qq kR (rl_any (sdr q s) (by rw[yX];omega) _) rfl (fun e' w5 hr=>?_);obtain⟨rfl,rfl⟩:=hr;have a1:=rlen_sdr q s;refine⟨_,rfl,?_⟩;refine yW ?_;refine zQ rfl (fun c64=>?_) (fun c64=>?_)
  ·have a4:Y5 s q=false:=by
     cases h:Y5 s q with
     | false=>rfl
     | true=>rw[h,if_pos rfl]at a1;omega
   refine vj ?_;exact⟨congrArg (fun b=>Ending.returned (.bool b)) (by unfold kw;rw[hv,H4 a3 a4];simp),hB⟩
  have a4:Y5 s q=true:=by
    cases h:Y5 s q with
    | true=>rfl
    | false=>rw[h,if_neg dE]at a1;exact absurd a1 c64
  have hrl:E0 (sdr q s)=((wdt s q:Nat):Int):=by rw[a1,a4,if_pos rfl]
  refine zn5 ?_;refine wl (Z4 rfl rfl rfl (by rw[hrl];omega)) (zn3 ?_);refine x8 (mo-1) oG agA ?_;exact⟨q+wdt s q,a9,by omega,by rw[hrl];rfl,by rw[hv,H5 a3 a4],hB⟩
 rw[vq_end (p:=q) oG]at hv;refine vj ?_;exact⟨congrArg (fun b=>Ending.returned (.bool b)) (by unfold kw;rw[hv,a5,decide_eq_true (show 1<=(ch s 0).length by omega),decide_eq_true (show (ch s 0).length<=30 by omega)];rfl),hB⟩
section
theorem inB_le(t:Tm)(b:Nat):inB t b<=b+1:=by unfold inB;split<;>omega
def argN(k:Nat):Int:=if k=3 then 1 else if k=4 then 2 else 0
theorem arg_at{k:Nat}(h:k<5):(#[.int .i64 0,.int .i64 0,.int .i64 0,.int .i64 1,.int .i64 2]:Array Value)[0+k*1]? =some (.int .i64 (argN k)):=by
 match k,h with
 | 0,_=>rfl
 | 1,_=>rfl
 | 2,_=>rfl
 | 3,_=>rfl
 | 4,_=>rfl
def zOk(k:Nat)(t:Tm):Prop:=((t.args.length:Nat):Int)=argN k/\(k=1\/t.name=⟨#[]⟩)/\(k=2\/t.index=0)/\(k=1\/k=3\/Mz t.type)
instance(k:Nat)(t:Tm):Decidable (zOk k t):=by unfold zOk;infer_instance
def ndX(n d b:Nat)(t:Tm):Int:=if 200<n+1\/40<d then 1 else ndC b t
theorem ndX_bad{n d:Nat}{r:List (Tm×Nat×Nat)}(h:ndX n d b t≠0):tst ((t,d,b)::r) n=(n+1,(ndX n d b t,(n:Int))):=by
 grind[ndX,tst_out,tst_bad]
theorem ndX_go{n d:Nat}{r:List (Tm×Nat×Nat)}(h:ndX n d b t=0):tst ((t,d,b)::r) n=tst (t.args.map (fun y=>(y,d+1,inB t b))++r) (n+1)/\(d<=40/\n+1<=200)/\ndC b t=0:=by
 grind[ndX,tst_go]
theorem ndC_len(h:ndC b t=0):t.args.length<=2:=by
 grind[ndC]
section x
variable {n d b k:Nat} {t:Tm} (hb:¬(200<n+1\/40<d)) (hk:t.kind=(k:Int)) (h1:1<=k) (h4:k<=4)
include hb
theorem ndX_4(h:t.kind<1\/4<t.kind):ndX n d b t=4:=by
 grind[ndX,ndC]
include hk h1 h4
theorem ndX_5(h:¬zOk k t):ndX n d b t=5:=by
 grind[ndX,ndC,zOk,argN,h1]
theorem ndX_z(h:zOk k t):ndX n d b t=if k=1 then (if yJ t.name=true then (if smF t.type=0 then 0 else 12)else 10)else if k=2 then (if t.index<0\/(b:Int)<=t.index then 15 else 0)else if k=3 then (if smF t.type=0 then 0 else 12)else 0:=by
 grind[ndX,ndC,zOk,argN,h1]
end x
theorem name1_any(s:ByteArray)(w:World):Calls Tryz.prog 87 #[.string s] w fun e w'=>e= .returned (.bool (yJ s))/\w=w':=by
 obtain⟨c0,e0⟩:=hd_num s;have hN:=Lib.hid (OQ s c0 e0);refine enter Tryz.func87 Tryz.ntmps87 rfl (aD rfl) (zn7 ?_);refine xw (rg [] 6 8) 13 (.bool (decide (s.size<1\/30<s.size))) nu ?_ (fun gq=>?_)
 ·refine zn5 ?_;refine zw 9 rfl (fun g9=>?_) (fun g9=>?_)
  ·refine zn4 ?_;refine zJ (e_R ⟨rfl,agA,?_⟩);exact clA
  refine zn7 ?_;refine zJ (e_R ⟨rfl,agA,?_⟩);exact clA
 refine e_S ?_;refine zQ rfl (fun c13=>?_) (fun c13=>?_)
 ·refine zn8 ?_;exact⟨jJ (by rw[hN.out];exact ap (fun h=>by omega)),rfl⟩
 refine zn9 ?_;refine qx (rg [2,3,4,5] 14 48) (fun m g w'=>∃ k:Nat,k<=s.size/\m=s.size-k/\g 3= .int .i64 k/\w=w'/\(0<k->97<=c0/\c0<=122)/\(∀ j (hj:j<s.size),j<k->Q5 (s[j]'hj)=true)) (s.size) ?_ (fun m g4 w1 hI=>?_)
 ·exact⟨0,ag _,rfl,rfl,rfl,fun h=>by omega,fun j hj h=>by omega⟩
 obtain⟨k,hk,hm,h3,rfl,hz,a2⟩:=hI;refine zX 3 _ h3 nu (zn9 ?_);refine zQ rfl (fun c17=>?_) (fun c17=>?_)
 ·refine zn5 ?_;refine xw (rg [4] 20 10) 4 (.bool (decide (97<=(s[k]'oG).toNat/\(s[k]'oG).toNat<=122))) nu ?_ (fun gq=>?_)
  ·refine zn3 ?_;refine wl (K1 (i:=k) U9 rfl rfl oG) (zn2 ?_);refine zw 24 rfl (fun g24=>?_) (fun g24=>?_)
   ·refine zn5 ?_;refine wl (K1 (i:=k) U9 rfl rfl oG) (zn4 ?_);refine zJ (e_R ⟨rfl,agA,?_⟩);exact clA
   refine zn6 ?_;refine zJ (e_R ⟨rfl,agA,?_⟩);exact clA
  refine e_S (xV ?_);refine xw (rg [5] 30 22) 5 (.bool (decide ((48<=(s[k]'oG).toNat/\(s[k]'oG).toNat<=57)\/(s[k]'oG).toNat=95\/(s[k]'oG).toNat=45))) nu ?_ (fun gq=>?_)
  ·refine zn3 ?_;refine wl (K1 (i:=k) U9 rfl rfl oG) (zn2 ?_);refine zw 34 rfl (fun g34=>?_) (fun g34=>?_)
   ·refine zn5 ?_;refine wl (K1 (i:=k) U9 rfl rfl oG) (zn4 ?_);refine zw 40 rfl (fun g40=>?_) (fun g40=>?_)
    ·refine vj ?_;refine zJ (e_R ⟨rfl,agA,?_⟩);exact clA
    refine zn5 ?_;refine wl (K1 (i:=k) U9 rfl rfl oG) (zn4 ?_);refine zw 46 rfl (fun a3=>?_) (fun a3=>?_)
    ·refine zn6 ?_;refine zJ (e_R ⟨rfl,agA,?_⟩);exact clA
    refine zn5 ?_;refine wl (K1 (i:=k) U9 rfl rfl oG) (zn4 ?_);refine zJ (e_R ⟨rfl,agA,?_⟩);exact clA
   refine jq ?_;refine wl (K1 (i:=k) U9 rfl rfl oG) (zn4 ?_);refine zw 46 rfl (fun a3=>?_) (fun a3=>?_)
   ·refine zn6 ?_;refine zJ (e_R ⟨rfl,agA,?_⟩);exact clA
   refine zn5 ?_;refine wl (K1 (i:=k) U9 rfl rfl oG) (zn4 ?_);refine zJ (e_R ⟨rfl,agA,?_⟩);exact clA
  refine e_S (xV ?_);refine xw (rg [] 52 10) 61 (.bool (decide (¬(97<=(s[k]'oG).toNat/\(s[k]'oG).toNat<=122)/\(¬((48<=(s[k]'oG).toNat/\(s[k]'oG).toNat<=57)\/(s[k]'oG).toNat=95\/(s[k]'oG).toNat=45)\/k=0)))) nu ?_ (fun gq=>?_)
  ·refine zn4 ?_;refine zw 54 rfl (fun g54=>?_) (fun g54=>?_)
   ·refine zn6 ?_;refine zw 57 rfl (fun g57=>?_) (fun g57=>?_)
    ·refine zn5 ?_;refine zJ (e_R ⟨rfl,agA,?_⟩);exact clA
    refine zn7 ?_;refine zJ (e_R ⟨rfl,agA,?_⟩);exact clA
   refine zn7 ?_;refine zJ (e_R ⟨rfl,agA,?_⟩);exact clA
  refine e_S ?_;refine zQ rfl (fun c61=>?_) (fun c61=>?_)
  ·have hno:¬((97<=c0/\c0<=122)/\∀ j (hj:j<s.size),Q5 (s[j]'hj)=true):=fun h=>by
     have h1:=(Qk _).1 (h.2 k oG);have h2:k=0:=by omega
     subst h2;have:=e0 oG;omega
   refine vj ?_;exact⟨jJ (by rw[hN.out];exact ap (fun h=>hno h.2)),rfl⟩
  have hz':97<=c0/\c0<=122:=by
    by_cases e:k=0
    · subst e;have:=e0 oG;omega
    · exact hz oG
  have a1:∀ j (hj:j<s.size),j<k+1->Q5 (s[j]'hj)=true:=fun j hj h=>by
    by_cases e:j=k
    · subst e;exact(Qk _).2 oG
    · exact a2 j hj oG
  refine zn8 ?_;refine x8 (s.size-(k+1)) oG agA ?_;exact⟨k+1,by omega,rfl,rfl,rfl,fun _=>hz',fun j hj h=>a1 j hj h⟩
 refine vj ?_;exact⟨jJ (by rw[hN.out];exact ai ⟨by omega,hz oG,fun j hj=>a2 j hj oG⟩),rfl⟩
end
theorem in139:(prog.info? 139).map (fun i=>(i.zero,i.size,i.bytes))=some (some (.agg #[.int .i64 0,.string ⟨#[]⟩,.int .i64 0,.string ⟨#[]⟩,.slice none 0 0,.slice none 0 0,.int .i64 0,.int .i64 0]),8,112):=by kernel_rfl
theorem T1:(prog.info? 139).map (·.size)=some 8:=by kernel_rfl
theorem ze139:(prog.info? 139).map (·.zero)=some (some (.agg #[.int .i64 0,.string ⟨#[]⟩,.int .i64 0,.string ⟨#[]⟩,.slice none 0 0,.slice none 0 0,.int .i64 0,.int .i64 0])):=by kernel_rfl
theorem ze44:(prog.info? 44).map (·.zero)=some (some (.agg cD)):=by kernel_rfl
set_option maxRecDepth 100000 in
set_option maxHeartbeats 8000000 in
theorem tfault_any(A B:Option Addr)(c mB:Nat)(t:Tm)(w:World)(hS:SimsIn w A t.type.args)(hT:TmsIn w B t.args):Calls prog 63 #[.agg (cA (t) A c B mB)] w fun e w'=>e= .returned (flV (tmF t))/\Bel w w':=by
 have hR0:twk t 1 0 0=tst [(t,1,0)] 0:=(tst_one t 1 0 0).symm;refine enT func63 ntmps63 rfl rfl fun hB=>?_;refine zn2 ?_;refine xy (v:= .agg #[_,_,_,_,_,_]) (cs:=#[_,_,_,_,_,_]) rfl rfl (fun b1 w1 a3 s1 hr=>?_);refine qW (cs:=#[.int .i64 0,.int .i64 0]) x6 rfl (fun b2 w2 a1 s2 hr=>?_);have cg:=hB.u.ob hr;refine zn5 ?_;refine wl (E3 (v0:= .agg _) (v1:= .int _ _) (v2:= .int _ _) (fun v0 v1 v2=>#[(x5 v0 0),(x5 v0 1),(x5 v0 2),(x5 v0 3),(x5 v0 4),(x5 v0 5),v1,v2]) rfl rfl rfl kR) ?_;refine qV (cs:=#[_,_,_,_,_,_,_,_]) [(0,.agg _)] rfl U140 T1 ze139 dE dE kR rfl (fun b16 w3 cu s3 hr=>?_);have cj:=hB.u.ob hr;refine yW ?_;refine qx (rg (rg [] 3 9) 17 151) (fun mm g w'=>∃(st:List (Tm×Nat×Nat)) (vs:List Value) (q b8 n:Nat),mm=201-n/\n<=200/\st.length<=2*n+1/\g 3= .slice (some ⟨q,0,none⟩) st.length b8/\g 4= .int .i64 n/\Bel w w'/\Blk w' b1 44 (cA (t) A c B mB)/\Blk w' b2 36 #[.int .i64 0,.int .i64 0]/\Own w' w.heap.size 139 8 (some ⟨q,0,none⟩) st.length b8 vs/\StkT w st vs/\twk t 1 0 0=tst st.reverse n/\∀ x∈st,x.2.2<x.2.1) (201) ?_ (fun m g3 w4 hI=>?_)
 ·replace hB:=hB.tr0 (s1.t (s2.t s3));replace a3:=a3.tr0 (s2.t s3);replace a1:=a1.tr0 s3;exact⟨[(t,1,0)],_,_,_,0,rfl,by omega,by simp,rfl,rfl,hB,a3,a1,YK (m:=1) cu cj rfl dE,.snoc .nil hS hT,hR0,fun x hx=>by rw[List.mem_singleton.1 hx];exact Nat.zero_lt_one⟩
 obtain⟨st,vs,q,b8,n,hm,hn,hsl,h3,h4,hB,a3,a1,ho,ck,hR,c8⟩:=hI;have b4:=Xz ho a3 dE;have b3:=Xz ho a1 dE;refine zX 3 _ h3 nu (zX 4 _ h4 nu (zn8 ?_));refine zQ rfl (fun c19=>?_) (fun c19=>?_)
 ·obtain⟨an,c5,t1,d1,e1,A1,B1,c1,m1,rfl,rfl,bh,hs1,ht1⟩:=ck.pop oG;have bn:(an++[(t1,d1,e1)]).length=an.length+1:=by simp
  rw[I4]at hR;have hbd1:e1<d1:=c8 (t1,d1,e1) (List.mem_append_right _ (aq.2 rfl));replace c8:∀ x∈an,x.2.2<x.2.1:=fun x hx=>c8 x (List.mem_append_left _ hx)
  refine zn9 ?_;refine wl (kZ (c:=(an.length:Int)) rfl rfl (by rw[bn];omega) oG) (wl (x9 (i:=an.length) U140 T1 rfl rfl (by rw[bn];omega) rfl) (wl (qw U139 rfl rfl (own_top ho bh.len) T1) ?_));refine yx (cs:=#[.int .i64 0,.string ⟨#[]⟩,.int .i64 0,.string ⟨#[]⟩,.slice none 0 0,.slice none 0 0,.int .i64 0,.int .i64 0]) ze139 rfl (fun _=>rfl) (fun _=>rfl) T1 rfl qz (fun b5 w6 a4 s4 hr=>?_);have a5:=ho.ob hr;refine zn7 ?_;refine wl (kZ (c:=(an.length:Int)) rfl rfl (by rw[bn];omega) oG) ?_;replace ho:=ho.tr0 s4;refine wl (I7 (h:=an.length) U140 T1 rfl rfl (by have:=ho.cap_le;omega)) (zn4 ?_);replace hB:=hB.tr0 s4;replace a3:=a3.tr0 s4;replace a1:=a1.tr0 s4;replace ho:Own w6 w.heap.size 139 8 (some ⟨q,0,none⟩) an.length b8 c5:=by
    have h:=ho.take (k':=an.length) oG oG
    rwa[List.take_append_of_le_length (by rw[bh.len];exact ah _),aZ (by rw[bh.len];exact ah _)]at h
  refine zn2 ?_;refine wl (qw U44 rfl rfl (a4.sub (n:=6) (xs:=[_,_,_,_,_,_]) rfl) Kv) ?_;refine yx (cs:=cD) ze44 rfl (fun _=>rfl) (fun _=>rfl) Kv rfl qz (fun b6 w8 a2 s5 hr=>?_);have ao:=ho.ob hr;refine zn9 ?_;replace hB:=hB.tr0 s5;replace a3:=a3.tr0 s5;replace a1:=a1.tr0 s5;replace ho:=ho.tr0 s5;replace a4:=a4.tr0 s5;refine xw [35,36,37,38,39,40,41] 41 (.bool (decide (200<n+1\/40<d1))) nu ?_ (fun gq=>?_)
  ·refine zn4 ?_;refine zw 37 rfl (fun g37=>?_) (fun g37=>?_)
   ·refine zn4 ?_;refine zJ (e_R ⟨rfl,agA,?_⟩);exact clA
   refine zn7 ?_;refine zJ (e_R ⟨rfl,agA,?_⟩);exact clA
  refine e_S ?_;refine y9 (rg [7,8,9] 42 93) (fun g w'=>g 7= .int .i64 (ndX n d1 e1 t1)/\Bel w w'/\Blk w' b1 44 (cA (t) A c B mB)/\Blk w' b2 36 #[.int .i64 0,.int .i64 0]/\Blk w' b5 139 #[.int .i64 (t1).kind,.string (t1).name,.int .i64 (t1).index,.string (t1).type.base,.slice A1 (t1).type.args.length c1,.slice B1 (t1).args.length m1,.int .i64 (d1:Nat),.int .i64 (e1:Nat)]/\Blk w' b6 44 (cA t1 A1 c1 B1 m1)/\Own w' w.heap.size 139 8 (some ⟨q,0,none⟩) an.length b8 c5) ?_ (fun gx1 w9 hI=>?_)
  ·refine zQ rfl (fun c4=>?_) (fun c4=>?_)
   ·have bc:(ndX n d1 e1 t1)=1:=if_pos c4;refine zn3 ?_;refine e_R ⟨agA,?_⟩;exact⟨by rw[bc];rfl,hB,a3,a1,a4,a2,ho⟩
   refine xV ?_;refine xw (rg [] 42 8) 49 (.bool (decide (t1.kind<1\/4<t1.kind))) nu ?_ (fun gq=>?_)
   ·refine zn5 ?_;refine zw 45 rfl (fun g45=>?_) (fun g45=>?_)
    ·refine zn4 ?_;refine zJ (e_R ⟨rfl,agA,?_⟩);exact clA
    refine zn7 ?_;refine zJ (e_R ⟨rfl,agA,?_⟩);exact clA
   refine e_S ?_;refine zQ rfl (fun c49=>?_) (fun c49=>?_)
   ·have bc:=ndX_4 (b:=e1) c4 c49;refine zn3 ?_;refine e_R ⟨agA,?_⟩;exact⟨by rw[bc];rfl,hB,a3,a1,a4,a2,ho⟩
   obtain⟨kk,c7⟩:∃ kk:Nat,t1.kind=kk:=⟨t1.kind.toNat,by omega⟩
   have h1k:1<=kk:=by omega
   have h4k:kk<=4:=by omega
   refine xV ?_;rw[c7]at a2;refine oK ?_;refine qV (cs:=#[_,_,_,_,_]) [(0,.int _ _),(1,.int _ _),(2,.int _ _),(3,.int _ _),(4,.int _ _)] rfl U59 qk Z1 dE dE kR rfl (fun b50 cc cr s6 hr=>?_);refine zn3 ?_;refine wl (qy (v:= .int _ _) U3 rfl rfl (cr.cell (arg_at oG))) (zn4 ?_);replace a2:=a2.tr0 s6;rw[<- c7]at a2;replace ho:=ho.tr0 s6;refine y9 (rg [9] 55 40) (fun g w'=>(g 9= .bool (decide (zOk kk t1)))/\Same [] cc w') ?_ (fun g14 cb hI=>?_)
   ·have hZ:SameQ [] cc cc:=Same.refl _ _;refine zn7 ?_;refine zw 60 rfl (fun g60=>?_) (fun g60=>?_)
    ·refine zn8 ?_;refine zw 64 rfl (fun g64=>?_) (fun g64=>?_)
     ·refine Yv ?_;refine zw 74 rfl (fun cz=>?_) (fun cz=>?_)
      ·refine Yv ?_;refine zw 84 rfl (fun br=>?_) (fun br=>?_)
       ·refine Yv ?_;refine e_R ⟨agA,?_⟩;refine⟨?_,hZ⟩;simp only[zOk]
        exact ad
       refine yW ?_;refine zw 89 rfl (fun bq=>?_) (fun bq=>?_)
       ·refine zn8 ?_;refine e_R ⟨agA,?_⟩;refine⟨?_,hZ⟩;simp only[zOk]
        exact ad
       refine zn3 ?_;refine wl (qw U41 rfl rfl (a2.sub (n:=2) (xs:=[_,_]) rfl) yv) (zn1 ?_);refine qq kR (Jv A1 c1 t1.type _) rfl (fun e' w12 hr=>?_);obtain⟨rfl,s7⟩:=hr;replace s7:=sB s7;replace hZ:=SameQ.trans hZ s7 (by simp);refine⟨_,rfl,?_⟩;refine zn5 ?_;refine e_R ⟨agA,?_⟩;refine⟨?_,hZ⟩;simp only[zOk]
       exact ad
      refine yW ?_;refine zw 80 rfl (fun cy=>?_) (fun cy=>?_)
      ·refine zn8 ?_;refine zw 84 rfl (fun br=>?_) (fun br=>?_)
       ·refine Yv ?_;refine e_R ⟨agA,?_⟩;refine⟨?_,hZ⟩;simp only[zOk]
        exact ad
       refine yW ?_;refine zw 89 rfl (fun bq=>?_) (fun bq=>?_)
       ·refine zn8 ?_;refine e_R ⟨agA,?_⟩;refine⟨?_,hZ⟩;simp only[zOk]
        exact ad
       refine zn3 ?_;refine wl (qw U41 rfl rfl (a2.sub (n:=2) (xs:=[_,_]) rfl) yv) (zn1 ?_);refine qq kR (Jv A1 c1 t1.type _) rfl (fun e' w13 hr=>?_);obtain⟨rfl,s8⟩:=hr;replace s8:=sB s8;replace hZ:=SameQ.trans hZ s8 (by simp);refine⟨_,rfl,?_⟩;refine zn5 ?_;refine e_R ⟨agA,?_⟩;refine⟨?_,hZ⟩;simp only[zOk]
       exact ad
      refine Kz ?_;refine e_R ⟨agA,?_⟩;refine⟨?_,hZ⟩;simp only[zOk]
      exact ad
     refine yW ?_;refine zw 70 rfl (fun g70=>?_) (fun g70=>?_)
     ·refine zn8 ?_;refine zw 74 rfl (fun cz=>?_) (fun cz=>?_)
      ·refine Yv ?_;refine zw 84 rfl (fun br=>?_) (fun br=>?_)
       ·refine Yv ?_;refine e_R ⟨agA,?_⟩;refine⟨?_,hZ⟩;simp only[zOk]
        exact ad
       refine yW ?_;refine zw 89 rfl (fun bq=>?_) (fun bq=>?_)
       ·refine zn8 ?_;refine e_R ⟨agA,?_⟩;refine⟨?_,hZ⟩;simp only[zOk]
        exact ad
       refine zn3 ?_;refine wl (qw U41 rfl rfl (a2.sub (n:=2) (xs:=[_,_]) rfl) yv) (zn1 ?_);refine qq kR (Jv A1 c1 t1.type _) rfl (fun e' w14 hr=>?_);obtain⟨rfl,s9⟩:=hr;replace s9:=sB s9;replace hZ:=SameQ.trans hZ s9 (by simp);refine⟨_,rfl,?_⟩;refine zn5 ?_;refine e_R ⟨agA,?_⟩;refine⟨?_,hZ⟩;simp only[zOk]
       exact ad
      refine yW ?_;refine zw 80 rfl (fun cy=>?_) (fun cy=>?_)
      ·refine zn8 ?_;refine zw 84 rfl (fun br=>?_) (fun br=>?_)
       ·refine Yv ?_;refine e_R ⟨agA,?_⟩;refine⟨?_,hZ⟩;simp only[zOk]
        exact ad
       refine yW ?_;refine zw 89 rfl (fun bq=>?_) (fun bq=>?_)
       ·refine zn8 ?_;refine e_R ⟨agA,?_⟩;refine⟨?_,hZ⟩;simp only[zOk]
        exact ad
       refine zn3 ?_;refine wl (qw U41 rfl rfl (a2.sub (n:=2) (xs:=[_,_]) rfl) yv) (zn1 ?_);refine qq kR (Jv A1 c1 t1.type _) rfl (fun e' w15 hr=>?_);obtain⟨rfl,cf⟩:=hr;replace cf:=sB cf;replace hZ:=SameQ.trans hZ cf (by simp);refine⟨_,rfl,?_⟩;refine zn5 ?_;refine e_R ⟨agA,?_⟩;refine⟨?_,hZ⟩;simp only[zOk]
       exact ad
      refine Kz ?_;refine e_R ⟨agA,?_⟩;refine⟨?_,hZ⟩;simp only[zOk]
      exact ad
     refine zn26 ?_;refine e_R ⟨agA,?_⟩;refine⟨?_,hZ⟩;simp only[zOk]
     exact ad
    refine zn30 ?_;refine zn6 ?_;refine e_R ⟨agA,?_⟩;refine⟨?_,hZ⟩;simp only[zOk]
    exact ad
   obtain⟨h9,a9⟩:=hI;refine jj 9 _ h9 nu (zn7 ?_);replace ho:=ho.tr0 a9;refine zQ rfl (fun d8=>?_) (fun d8=>?_)
   ·have bc:=ndX_5 (b:=e1) c4 c7 h1k h4k d8;refine zn3 ?_;refine e_R ⟨agA,?_⟩;replace hB:=hB.tr0 (s6.t a9);replace a3:=a3.tr0 (s6.t a9);replace a1:=a1.tr0 (s6.t a9);replace a4:=a4.tr0 (s6.t a9);replace a2:=a2.tr0 a9;exact⟨by rw[bc];rfl,hB,a3,a1,a4,a2,ho⟩
   have hzk:zOk kk t1:=ak.1 d8;have bo:=ndX_z (b:=e1) c4 c7 h1k h4k hzk;refine xV ?_;refine y9 (rg [] 97 9) (fun g w'=>(g 105= .bool (decide (kk=1/\¬yJ t1.name=true)))/\Same [] cb w') ?_ (fun g17 ca hI=>?_)
   ·have hZ:SameQ [] cb cb:=Same.refl _ _;refine zn5 ?_;refine zw 100 rfl (fun d6=>?_) (fun d6=>?_)
    ·refine zn5 ?_;refine qq kR (name1_any _ _) rfl (fun e' w17 hr=>?_);obtain⟨rfl,rfl⟩:=hr;refine⟨_,rfl,?_⟩;refine zn4 ?_;refine e_R ⟨agA,?_⟩;refine⟨?_,hZ⟩
     exact ad
    refine zn6 ?_;refine e_R ⟨agA,?_⟩;refine⟨?_,hZ⟩
    exact ad
   obtain⟨cx,b7⟩:=hI;refine jj 105 _ cx nu (e_S ?_);replace ho:=ho.tr0 b7;refine zQ rfl (fun bw=>?_) (fun bw=>?_)
   ·have bc:(ndX n d1 e1 t1)=10:=by rw[bo,if_pos bw.1,if_neg bw.2]
    refine zn3 ?_;refine e_R ⟨agA,?_⟩;replace hB:=hB.tr0 (s6.t (a9.t b7));replace a3:=a3.tr0 (s6.t (a9.t b7));replace a1:=a1.tr0 (s6.t (a9.t b7));replace a4:=a4.tr0 (s6.t (a9.t b7));replace a2:=a2.tr0 (a9.t b7);exact⟨by rw[bc];rfl,hB,a3,a1,a4,a2,ho⟩
   refine xV ?_;refine y9 (rg [] 106 14) (fun g w'=>(g 119= .bool (decide ((kk=1\/kk=3)/\smF t1.type≠0)))/\Same [] ca w') ?_ (fun g19 w18 hI=>?_)
   ·have hZ:SameQ [] ca ca:=Same.refl _ _;refine zn5 ?_;refine zw 109 rfl (fun d5=>?_) (fun d5=>?_)
    ·refine zn8 ?_;refine wl (qw U41 rfl rfl (a2.u.sub (n:=2) (xs:=[_,_]) rfl) yv) (zn1 ?_);refine qq kR (Cx A1 c1 t1.type _ (hs1.mono hB.u)) rfl (fun e' w19 hr=>?_);obtain⟨rfl,ce⟩:=hr;replace ce:=sB ce;replace hZ:=SameQ.trans hZ ce (by simp);refine⟨_,rfl,?_⟩;refine zn4 ?_;refine e_R ⟨agA,?_⟩;refine⟨?_,hZ⟩
     exact ad
    refine zn8 ?_;refine zw 114 rfl (fun d4=>?_) (fun d4=>?_)
    ·refine zn3 ?_;refine wl (qw U41 rfl rfl (a2.u.sub (n:=2) (xs:=[_,_]) rfl) yv) (zn1 ?_);refine qq kR (Cx A1 c1 t1.type _ (hs1.mono hB.u)) rfl (fun e' w20 hr=>?_);obtain⟨rfl,cd⟩:=hr;replace cd:=sB cd;replace hZ:=SameQ.trans hZ cd (by simp);refine⟨_,rfl,?_⟩;refine zn4 ?_;refine e_R ⟨agA,?_⟩;refine⟨?_,hZ⟩
     exact ad
    refine zn6 ?_;refine e_R ⟨agA,?_⟩;refine⟨?_,hZ⟩
    exact ad
   obtain⟨cw,be⟩:=hI;refine jj 119 _ cw nu (e_S ?_);replace ho:=ho.tr0 be;refine zQ rfl (fun db=>?_) (fun db=>?_)
   ·have bc:(ndX n d1 e1 t1)=12:=by rw[bo];clear bo;grind
    refine zn3 ?_;refine e_R ⟨agA,?_⟩;replace hB:=hB.tr0 (s6.t (a9.t (b7.t be)));replace a3:=a3.tr0 (s6.t (a9.t (b7.t be)));replace a1:=a1.tr0 (s6.t (a9.t (b7.t be)));replace a4:=a4.tr0 (s6.t (a9.t (b7.t be)));replace a2:=a2.tr0 (a9.t (b7.t be));exact⟨by rw[bc];rfl,hB,a3,a1,a4,a2,ho⟩
   refine xV ?_;replace hB:=hB.tr0 (s6.t (a9.t (b7.t be)));replace a3:=a3.tr0 (s6.t (a9.t (b7.t be)));replace a1:=a1.tr0 (s6.t (a9.t (b7.t be)));replace a4:=a4.tr0 (s6.t (a9.t (b7.t be)));replace a2:=a2.tr0 (a9.t (b7.t be));refine xw (rg [] 120 15) 134 (.bool (decide (kk=2/\(t1.index<0\/(e1:Int)<=t1.index)))) nu ?_ (fun gq=>?_)
   ·refine zn5 ?_;refine zw 123 rfl (fun d3=>?_) (fun d3=>?_)
    ·refine zn8 ?_;refine zw 127 rfl (fun d2=>?_) (fun d2=>?_)
     ·refine zn8 ?_;refine zJ (e_R ⟨rfl,agA,?_⟩);show Value.bool _=Value.bool _
      exact ad
     refine uw ?_;refine zJ (e_R ⟨rfl,agA,?_⟩);show Value.bool _=Value.bool _
     exact ad
    refine jq ?_;refine zJ (e_R ⟨rfl,agA,?_⟩);show Value.bool _=Value.bool _
    exact ad
   refine e_S ?_;refine zQ rfl (fun da=>?_) (fun da=>?_)
   ·have bc:(ndX n d1 e1 t1)=15:=by rw[bo];clear bo;grind
    refine zn3 ?_;refine e_R ⟨agA,?_⟩;exact⟨by rw[bc];rfl,hB,a3,a1,a4,a2,ho⟩
   have bc:(ndX n d1 e1 t1)=0:=by rw[bo];clear bo;grind
   refine Yj ?_;refine e_R ⟨agA,?_⟩;exact⟨by rw[bc];rfl,hB,a3,a1,a4,a2,ho⟩
  obtain⟨h7,hB,a3,a1,a4,a2,ho⟩:=hI;refine jj 7 _ h7 nu (zn8 ?_);refine zQ rfl (fun bi=>?_) (fun bi=>?_)
  ·rw[ndX_bad bi]at hR;have hF:tmF t=((ndX n d1 e1 t1),(n:Int)):=by rw[tmF_bad (by rw[hR];exact bi),hR]
   refine zn4 ?_;refine wl (vw (v0:= .int _ _) (v1:= .int _ _) (fun v0 v1=>#[v0,v1]) rfl rfl kR) ?_;refine zZ a1 rfl rfl zj rfl qz (fun w21 hq s16=>?_);replace a1:=hq;refine zn9 ?_;refine xK (.inl rfl) rfl (zW U36 rfl rfl a1.range0 zj) ?_;replace hB:=hB.tr1 s16 cg;exact⟨by rw[hF];rfl,hB⟩
  obtain⟨cv,⟨hd40,hn200⟩,cq⟩:=ndX_go (r:=an.reverse) (ak.1 bi);rw[cv]at hR;have hal:=ndC_len cq;refine PK ?_;refine y9 [10,145,146] (fun g w'=>g 10= .int .i64 ((inB t1 e1:Nat):Int)/\Bel w w'/\Blk w' b1 44 (cA (t) A c B mB)/\Blk w' b2 36 #[.int .i64 0,.int .i64 0]/\Blk w' b5 139 #[.int .i64 (t1).kind,.string (t1).name,.int .i64 (t1).index,.string (t1).type.base,.slice A1 (t1).type.args.length c1,.slice B1 (t1).args.length m1,.int .i64 (d1:Nat),.int .i64 (e1:Nat)]/\Blk w' b6 44 (cA t1 A1 c1 B1 m1)/\Own w' w.heap.size 139 8 (some ⟨q,0,none⟩) an.length b8 c5) ?_ (fun gx2 w22 hI=>?_)
  ·refine zQ rfl (fun bv=>?_) (fun bv=>?_)
   ·have cp:inB t1 e1=e1+1:=if_pos bv;refine zn5 ?_;refine e_R ⟨agA,?_⟩;exact⟨by rw[cp];rfl,hB,a3,a1,a4,a2,ho⟩
   have cp:inB t1 e1=e1:=if_neg bv;refine Yj ?_;refine e_R ⟨agA,?_⟩;exact⟨by rw[cp];rfl,hB,a3,a1,a4,a2,ho⟩
  obtain⟨h10,hB,a3,a1,a4,a2,ho⟩:=hI;refine jj 10 _ h10 nu (zn6 ?_);refine wl (kZ rfl rfl rfl oG) (zn4 ?_);refine qx (rg [3,11] 151 17) (fun mm g w'=>∃(i:Nat) (z:Int) (ac:List (Tm×Nat×Nat)) (bx:List Value) (q2 bt:Nat),i<=t1.args.length/\mm=i/\z+1=i/\g 11= .int .i64 z/\g 3= .slice (some ⟨q2,0,none⟩) ac.length bt/\ac.length=an.length+(t1.args.length-i)/\ac.reverse=(t1.args.drop i).map (fun y=>(y,d1+1,inB t1 e1))++an.reverse/\Bel w w'/\Blk w' b1 44 (cA (t) A c B mB)/\Blk w' b2 36 #[.int .i64 0,.int .i64 0]/\Blk w' b5 139 #[.int .i64 (t1).kind,.string (t1).name,.int .i64 (t1).index,.string (t1).type.base,.slice A1 (t1).type.args.length c1,.slice B1 (t1).args.length m1,.int .i64 (d1:Nat),.int .i64 (e1:Nat)]/\Blk w' b6 44 (cA t1 A1 c1 B1 m1)/\Own w' w.heap.size 139 8 (some ⟨q2,0,none⟩) ac.length bt bx/\StkT w ac bx/\(∀ x∈ac,x.2.2<x.2.1)/\∀ g∈aL (some (⟨q2,0,none⟩:Addr)),g≠b5) (t1.args.length) ?_ (fun m g29 w23 hI=>?_)
  ·exact⟨t1.args.length,_,an,c5,q,b8,ah _,rfl,by omega,rfl,rfl,by omega,by rw[List.drop_length];rfl,hB,a3,a1,a4,a2,ho,bh,c8,fun g hg=>by have:=a5 g hg;omega⟩
  obtain⟨i,z,ac,bx,q2,bt,hi,hmi,hzi,h11,h3,hl2,co,hB,a3,a1,a4,a2,ho,bk,c2,a5⟩:=hI;have b4:=Xz ho a3 dE;have b3:=Xz ho a1 dE;have ao:=Xz ho a2 dE;refine zX 11 _ h11 nu (zX 3 _ h3 nu (zn7 ?_));refine zQ rfl (fun d9=>?_) (fun d9=>?_)
  ·obtain⟨p,rfl⟩:∃ p:Nat,z=p:=⟨z.toNat,by omega⟩
   obtain rfl:i=p+1:=by omega
   have ab:p<t1.args.length:=by omega
   obtain⟨tb,to,A9,c9,B9,m9,rfl,htb,htr,hs9,ht9⟩:=ht1.at_ ab;have cn:(ac++[((t1.args[p]'ab),d1+1,inB t1 e1)]).reverse=(t1.args.drop p).map (fun y=>(y,d1+1,inB t1 e1))++an.reverse:=by
     rw[I4,co,List.drop_eq_getElem_cons ab];rfl
   refine zn4 ?_;have zo:=fun g hg=>(ho.lt g hg).2
   have lt5W:=a4.lt;refine Qz [] [12] [0,1,2,3,4,5,6,7,8,9,10,11,12,13] rfl (fun w24 bm=>?_);have cm:=bm;refine zn4 ?_;refine hl rfl (fun _=>x9 (i:=p) U42 Kv rfl rfl ab rfl) (zn5 ?_);refine hl rfl (fun _=>E3 (v0:= .agg _) (v1:= .int _ _) (v2:= .int _ _) (fun v0 v1 v2=>#[(x5 v0 0),(x5 v0 1),(x5 v0 2),(x5 v0 3),(x5 v0 4),(x5 v0 5),v1,v2]) rfl rfl rfl kR) (h1 rfl ?_);refine qV (cs:=#[_,_,_,_,_,_,_,_]) [(0,.agg _)] rfl U140 T1 ze139 dE dE kR rfl (fun b166 w25 c3 bj hr=>?_);have:=a3.u.ob hr;have:=a1.u.ob hr;have:=a4.u.ob hr;have:=a2.u.ob hr;have bz:=bj;refine zJ (K9 bz (h1 rfl ?_));replace ho:=ho.tr0 (bm.t bj);refine j7 U140 in139 rfl dE ho c3 rfl rfl rfl qz dE oG oG (Bel.size hB.u) (fun bd b9 w26 bf c0 bg=>?_);replace hB:=hB.tr0 (bm.t bj);replace hB:=hB.tr c0 (fun g hg=>nLT (ah _) (ho.lt g hg).1);replace a3:=a3.tr0 (bm.t bj);replace a3:=a3.tb c0 (fun g hg=>by have:=b4 g hg;omega);replace a1:=a1.tr0 (bm.t bj);replace a1:=a1.tb c0 (fun g hg=>by have:=b3 g hg;omega);replace a4:=a4.tr0 (bm.t bj);replace a4:=a4.tb c0 (fun g hg=>by have:=a5 g hg;omega);replace a2:=a2.tr0 (bm.t bj);replace a2:=a2.tb c0 (fun g hg=>by have:=ao g hg;omega);replace cm:=cm.t bj;obtain⟨bd,b9,d7,bf,bg⟩:∃ g cap,(.slice (some ⟨bd,0,none⟩) (ac.length+1) b9:Value)= .slice (some ⟨g,0,none⟩) (ac.length+1) cap/\Own w26 w.heap.size 139 8 (some ⟨g,0,none⟩) (ac.length+1) cap (bx++[.int .i64 ((t1.args[p]'ab)).kind,.string ((t1.args[p]'ab)).name,.int .i64 ((t1.args[p]'ab)).index,.string ((t1.args[p]'ab)).type.base,.slice A9 ((t1.args[p]'ab)).type.args.length c9,.slice B9 ((t1.args[p]'ab)).args.length m9,.int .i64 ((d1:Nat)+1:Int),.int .i64 ((inB t1 e1:Nat):Int)])/\(g=q2\/w23.heap.size<=g):=⟨_,_,rfl,bf,bg.imp (fun h=>(List.singleton_inj.1 h).symm) (fun h=>nLT cm.size h)⟩
   cases d7;refine zJ (D0 [] ?_);have q1:(ac++[((t1.args[p]'ab),d1+1,inB t1 e1)]).length=ac.length+1:=by simp
   have ho:Own w26 w.heap.size 139 8 (some ⟨bd,0,none⟩) (ac++[((t1.args[p]'ab),d1+1,inB t1 e1)]).length b9 (bx++[.int .i64 ((t1.args[p]'ab)).kind,.string ((t1.args[p]'ab)).name,.int .i64 ((t1.args[p]'ab)).index,.string ((t1.args[p]'ab)).type.base,.slice A9 ((t1.args[p]'ab)).type.args.length c9,.slice B9 ((t1.args[p]'ab)).args.length m9,.int .i64 ((d1:Nat)+1:Int),.int .i64 ((inB t1 e1:Nat):Int)]):=by rw[q1];exact bf
   have bb:∀ g∈aL (some (⟨bd,0,none⟩:Addr)),g≠b5:=fun g hg=>by
     rw[List.mem_singleton.1 hg];rcases bg with h|h
     · show bd≠b5
       rw[h];exact a5 q2 (aq.2 rfl)
     · show bd≠b5
       omega
   refine zn6 ?_;refine wl (kZ rfl rfl rfl oG) (zn2 ?_);refine x8 (p) oG agA ?_
   exact⟨p,_,ac++[((t1.args[p]'ab),d1+1,inB t1 e1)],_,_,_,by omega,rfl,by omega,rfl,(by rw[q1];rfl),(by rw[q1,hl2];omega),cn,hB,a3,a1,a4,a2,ho,.snoc bk hs9 ht9,(fun x hx=>by
     rcases aE.1 hx with h|h
     · exact c2 x h
     · rw[List.mem_singleton.1 h];show inB t1 e1<d1+1;have:=inB_le t1 e1;omega),bb⟩
  obtain rfl:i=0:=by omega
  rw[List.drop_zero]at co;have cv:twk t 1 0 0=tst ac.reverse (n+1):=by rw[hR,co]
  have hl3:ac.length=an.length+t1.args.length:=by rw[hl2,Nat.sub_zero]
  refine jq ?_;refine x8 (201-(n+1)) oG agA ?_;exact⟨ac,bx,_,_,n+1,rfl,by omega,by omega,rfl,rfl,hB,a3,a1,ho,bk,cv,c2⟩
 have hst:st= []:=aK.1 oG;subst hst;have hz:(twk t 1 0 0).2.1=0:=by rw[hR];rfl
 obtain⟨tv,rfl,hok,_,hv2⟩:=RZ t 1 0 0 hz;have hF:=tmF_ok hz;refine zn9 ?_;refine qq kR (typeof_any tv A B c mB _ _ (Below.refl _ _) (hS.mono hB) (hT.mono hB) oG hok) rfl (fun e' w27 hr=>?_);obtain⟨⟨sX,AX,nX,cX,rfl,_⟩,c6⟩:=hr;replace c6:=sB c6;refine⟨_,rfl,?_⟩;refine wmT rfl (wl (vY (v:= .agg _) rfl rfl) (wl (vY (v:= .bool _) rfl rfl) ?_));refine yx (cs:=#[.string ⟨#[]⟩,.slice none 0 0]) N2 rfl (fun _=>rfl) (fun _=>rfl) yv rfl qz (fun b12 w29 hb12 s20 hr=>?_);refine zn9 ?_;refine jQ rfl (fun bu=>?_) (fun bu=>?_)
 ·rw[if_neg (by simpa using bu)]at hF;refine zn2 ?_;refine wl (vw (v0:= .int _ _) (v1:= .int _ _) (fun v0 v1=>#[v0,v1]) rfl rfl kR) ?_;refine zZ a1.u rfl rfl zj rfl qz (fun w30 hq s21=>?_);replace a1:=hq;refine zn4 ?_;refine xK (.inl rfl) rfl (zW U36 rfl rfl a1.range0 zj) ?_;replace hB:=(hB.tr0 (c6.t s20)).tr1 s21 cg;exact⟨by rw[hF];rfl,hB⟩
 rw[if_pos (by simpa using bu)]at hF;refine zn4 ?_;refine wl (gQ (vs:=#[]) (cs:=#[.int .i64 0,.int .i64 0]) (by simp) kR) ?_;refine zZ a1.u rfl rfl zj rfl qz (fun w31 hq s22=>?_);replace a1:=hq;refine zn3 ?_;refine xK (.inl rfl) rfl (zW U36 rfl rfl a1.range0 zj) ?_;replace hB:=(hB.tr0 (c6.t s20)).tr1 s22 cg;exact⟨by rw[hF];rfl,hB⟩
end Go.Proofs.YtgcgnkmmbecfmaaGreatDoor
