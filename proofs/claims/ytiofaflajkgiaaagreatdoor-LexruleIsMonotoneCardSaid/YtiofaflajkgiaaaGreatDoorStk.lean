/- What these functions compute, at every world: equal.Small, internal/stringslite.HasSuffix, internal/stringslite.CutSuffix, strings.CutSuffix, unicode/utf8.RuneCountInString, unicode/utf8.word[string]; and plain laws. -/
import Derived.Test.YtiofaflajkgiaaaGreatDoorU
import Derived.Test.YtiofaflajkgiaaaGreatDoorZst
import Derived.Test.YtiofaflajkgiaaaGreatDoorDSmC
import Derived.Test.YtiofaflajkgiaaaGreatDoorLxd
import Derived.Test.YtiofaflajkgiaaaGreatDoorRng
import Derived.Test.YtiofaflajkgiaaaGreatDoorComp
import Derived.Test.YtiofaflajkgiaaaGreatDoorGro
import Derived.Test.YtiofaflajkgiaaaGreatDoorMeet
namespace Go.Proofs.YtiofaflajkgiaaaGreatDoor
open Go.RowKit Go.Proofs.Tryz
set_option maxHeartbeats 2000000
theorem sz42:(prog.info? 42).map (·.size)=some 5:=by kernel_rfl
theorem sz70_DSm:(prog.info? 70).map (·.size)=some 3:=by kernel_rfl
theorem ze42:(prog.info? 42).map (·.zero)=some (some (.agg #[.slice none 0 0,.slice none 0 0,.slice none 0 0,.slice none 0 0,.slice none 0 0])):=by kernel_rfl
theorem ze70_DSm:(prog.info? 70).map (·.zero)=some (some (.agg #[.string ⟨#[]⟩,.int .i64 0,.int .i64 0])):=by kernel_rfl
theorem ze9:(prog.info? 9).map (·.zero)=some (some (.string ⟨#[]⟩)):=by kernel_rfl
set_option maxHeartbeats 8000000 in
theorem small_d(w:World):Calls prog 5 #[] w fun e w'=>(∃ v,e= .returned v/\GmD smallT smallF x6 smallX smallS w w' v)/\Bel w w':=by
 refine enT func5 ntmps5 rfl rfl fun hB=>?_;refine zn2 ?_;refine qk (cs:=#[.slice none 0 0,.slice none 0 0,.slice none 0 0,.slice none 0 0,.slice none 0 0]) ze42 rfl (fun b0 w1 b6 s1 hr=>?_);have lo0:=nLT (Bel.size hB) hr;refine zn4 ?_;refine aY Hx (Zz _ _) rfl (fun w2 s2=>?_);refine aY Hx (Zz _ _) rfl (fun w3 s3=>?_);refine qk (cs:=#[.string ⟨#[]⟩,.slice none 0 0]) j5 rfl (fun b1 w4 bn s4 hr=>?_);have:=nLL b6.u.lt hr;have lo1:=nLT (Bel.size hB.u) hr;refine qk (cs:=#[.string ⟨#[]⟩,.slice none 0 0]) j5 rfl (fun b2 w5 bt s5 hr=>?_);have:=nLL b6.u.lt hr;have:=nLL bn.lt hr;have lo2:=nLT (Bel.size hB.u) hr;refine zk bn.u rfl rfl xq rfl zJ (fun w6 hq s6=>?_);replace bn:=hq;refine zk bt.u rfl rfl xq rfl zJ (fun w7 hq s7=>?_);replace bt:=hq;refine zn6 ?_;refine zW Jy (Q0 [] (Ts.b false) (Ts.b true) _ _ _ _ _ _ _ (by simp) (Fz.triv _ _ TS (fun _=>SimsIn.nil)) (Fz.triv _ _ TS (fun _=>SimsIn.nil))) rfl (fun e' w8 hr=>?_);obtain⟨⟨_,rfl,a9,a7,n12,rfl,a4⟩,s8⟩:=hr;replace s8:=sB s8;refine⟨_,rfl,?_⟩;refine yj (cs:=#[.string ⟨#[]⟩,.slice none 0 0]) j5 rfl (fun _=>rfl) (fun _=>rfl) xq rfl zJ (fun b3 w10 c3 s9 hr=>?_);refine zn6 ?_;replace a4:=a4.tr0 s9;refine zW Jy (Q0 [] (Ts.b false) (Ts.f (Ts.b false) (Ts.b true)) _ _ _ _ _ _ _ (by simp) (Fz.triv _ _ TS (fun _=>SimsIn.nil)) a4) rfl (fun e' w11 hr=>?_);obtain⟨⟨_,rfl,a8,a6,n15,rfl,an⟩,br⟩:=hr;replace br:=sB br;refine⟨_,rfl,?_⟩;refine yj (cs:=#[.string ⟨#[]⟩,.slice none 0 0]) j5 rfl (fun _=>rfl) (fun _=>rfl) xq rfl zJ (fun b4 w13 c2 bx hr=>?_);refine zn4 ?_;refine qk (cs:=#[.slice none 0 0,.slice none 0 0,.slice none 0 0,.slice none 0 0,.slice none 0 0]) ze42 rfl (fun b5 w14 a2 bq hr=>?_);have be:b0<b5:=nLL b6.u.lt hr;have bd:b1<b5:=nLL bn.u.lt hr;have bc:b2<b5:=nLL bt.u.lt hr;have bb:b3<b5:=nLL c3.u.lt hr;have ba:b4<b5:=nLL c2.lt hr;have lo5:=nLT (Bel.size hB.u) hr;refine zn4 ?_;refine qv (cs:=#[_,_,_,_,_,_,_,_,_,_,_,_,_,_,_]) [(0,.string _),(1,.string _),(2,.string _),(3,.string _),(4,.string _),(5,.string _),(6,.string _),(7,.string _),(8,.string _),(9,.string _),(10,.string _),(11,.string _),(12,.string _),(13,.string _),(14,.string _)] rfl underlying67 sz9_DHo ze9 dE dE kR rfl (fun b16 w15 cd bk hr=>?_)
 refine qv (cs:=#[_,_,_,_,_,_,_,_,_,_,_,_,_,_,_]) [(0,.int _ _),(1,.int _ _),(2,.int _ _),(3,.int _ _),(4,.int _ _),(5,.int _ _),(6,.int _ _),(7,.int _ _),(8,.int _ _),(9,.int _ _),(10,.int _ _),(11,.int _ _),(12,.int _ _),(13,.int _ _),(14,.int _ _)] rfl U68 T4 qq dE dE kR rfl (fun b17 w16 cc bj hr=>?_);refine wl (IV (v0:= .string _) (v1:= .int _ _) (v2:= .int _ _) (fun v0 v1 v2=>#[v0,v1,v2]) rfl rfl rfl kR) (wl (IV (v0:= .string _) (v1:= .int _ _) (v2:= .int _ _) (fun v0 v1 v2=>#[v0,v1,v2]) rfl rfl rfl kR) (wl (IV (v0:= .string _) (v1:= .int _ _) (v2:= .int _ _) (fun v0 v1 v2=>#[v0,v1,v2]) rfl rfl rfl kR) (wl (IV (v0:= .string _) (v1:= .int _ _) (v2:= .int _ _) (fun v0 v1 v2=>#[v0,v1,v2]) rfl rfl rfl kR) (wl (IV (v0:= .string _) (v1:= .int _ _) (v2:= .int _ _) (fun v0 v1 v2=>#[v0,v1,v2]) rfl rfl rfl kR) ?_))));refine qv (cs:=#[_,_,_,_,_,_,_,_,_,_,_,_,_,_,_]) [(0,.agg _),(1,.agg _),(2,.agg _),(3,.agg _),(4,.agg _)] rfl underlying23 sz70_DSm ze70_DSm dE dE kR rfl (fun a5 w17 bz bi hr=>?_);refine zW kR (CJ (some ⟨b16,0,none⟩) (some ⟨b17,0,none⟩) _ _ _ _ _ LJ LX _ (FZ LJ cd.u) (qw LX cc.u dE) dE rfl) rfl (fun e' w18 hr=>?_);obtain⟨⟨At,a1,rfl,bo⟩,b9⟩:=hr;replace b9:=sB b9;replace bz:=bz.tr0 b9;have c0:=(Fz.blk (X:=[]) (ts:=TS) bz (by simp) (EY dE dE dE _)).imp (fun _ h=>R8 smallF h dE);replace bo:Fz [] _ TS w18 (fun w=>TypesIn w At smallT):=bo;refine⟨_,rfl,?_⟩;refine zn1 ?_;replace a2:=a2.tr0 (bk.t (bj.t (bi.t b9)));refine Vq a2 rfl rfl JY (by first|decide|simp) zJ rfl (fun w19 hq bf=>?_);replace a4:=a4.tr0 (br.t (bx.t (bq.t (bk.t (bj.t (bi.t b9))))));replace a4:=a4.sp1 bf a2 (.inl dE);replace an:=an.tr0 (bx.t (bq.t (bk.t (bj.t (bi.t b9)))));replace an:=an.sp1 bf a2 (.inl dE);replace bo:=bo.sp1 bf a2 (.inl dE);replace c0:=c0.sp1 bf a2 (.inl dE);replace a2:=hq;refine zn4 ?_;refine zW kR (Gw _) rfl (fun e' w20 hr=>?_);obtain⟨⟨bm,csm,nm,rfl,hbm,hTm⟩,b7⟩:=hr;replace b7:=sB b7;refine⟨_,rfl,?_⟩;refine zn4 ?_;refine y7 (rg [] 27 68) (fun g w'=>Same [b5] w20 w'/\∃ a3 cr nRl,w20.heap.size<=a3/\Blk w' a3 74 cr/\Fz [] nRl TS w' (fun w=>RlCs w x6 cr.toList)/\Blk w' b5 42 #[.slice At 15 a1,.slice (some ⟨a5,0,none⟩) 5 5,.slice (some ⟨a3,0,none⟩) 6 6,.slice none 0 0,.slice none 0 0]) ?_ (fun g7 w21 hI=>?_)
 ·replace a2:=a2.tr0 b7;have hh:=fun f Q k0 k1 kq=>small_r7 a2 hbm hTm f Q k0 k1 kq
  exact hh _ _ (by rfl) (by rfl) (by intro d;cases d<;>exact fun _ _ _ _ h=>h)
 obtain⟨bg,a3,cr,nRl,c4,b8,hRl,cb⟩:=hI;have c8:b5<a3:=nLL a2.u.lt c4;replace hB:=(((((hB.tr0 (s1.t (s2.t (s3.t (s4.t s5))))).tr1 s6 lo1).tr1 s7 lo2).tr0 (s8.t (s9.t (br.t (bx.t (bq.t (bk.t (bj.t (bi.t b9))))))))).tr1 bf lo5).tr0 b7;have lo93:=nLT (Bel.size hB) c4;replace hB:=hB.tr1 bg lo5;replace b6:=(((((b6.tr0 (s2.t (s3.t (s4.t s5)))).tr1 s6 oG).tr1 s7 oG).tr0 (s8.t (s9.t (br.t (bx.t (bq.t (bk.t (bj.t (bi.t b9))))))))).tr1 bf oG).tr0 b7;replace b6:=b6.tr1 bg oG;replace bn:=(((bn.tr1 s7 oG).tr0 (s8.t (s9.t (br.t (bx.t (bq.t (bk.t (bj.t (bi.t b9))))))))).tr1 bf oG).tr0 b7;replace bn:=bn.tr1 bg oG;replace bt:=((bt.tr0 (s8.t (s9.t (br.t (bx.t (bq.t (bk.t (bj.t (bi.t b9))))))))).tr1 bf oG).tr0 b7;replace bt:=bt.tr1 bg oG;replace c3:=((c3.tr0 (br.t (bx.t (bq.t (bk.t (bj.t (bi.t b9))))))).tr1 bf oG).tr0 b7;replace c3:=c3.tr1 bg oG;replace c2:=((c2.tr0 (bq.t (bk.t (bj.t (bi.t b9))))).tr1 bf oG).tr0 b7;replace c2:=c2.tr1 bg oG;replace a2:=a2.tr0 b7;replace bo:=bo.tr0 b7;replace bo:=bo.sp1 bg a2 (.inl dE);replace c0:=c0.tr0 b7;replace c0:=c0.sp1 bg a2 (.inl dE);replace a4:=a4.tr0 b7;replace a4:=a4.sp1 bg a2 (.inl dE);replace an:=an.tr0 b7;replace an:=an.sp1 bg a2 (.inl dE);replace a2:=cb;refine zn3 ?_;refine wl (r_mf rfl) (zn4 ?_);obtain⟨base,ad⟩:∃ b,b=w21.heap.size:=⟨_,rfl⟩
 have hI:SmSt smallT smallF x6 b0 b1 b2 b3 b4 b5 a5 a3 base a1 a7 a6 At a9 a8 cr 0 P8 w w21:=⟨⟨hB,aC ad,b6,bn,bt,c3,c2,b8,by rw[ad];exact bo.and (c0.and hRl),by rw[ad];exact a4.up,by rw[ad];exact an.up,lo5,lo93,⟨be,bd,bc,bb,ba,c8⟩,⟨by rw[ad];exact a2.lt,by rw[ad];exact b8.lt⟩⟩,none,0,[],_,a2,Own.nil _ _ _ _,Fz.triv [] _ TS (fun _=>LxData.nil)⟩
 refine y7 [96,97,98,99,100,101] (fun g w'=>SmSt smallT smallF x6 b0 b1 b2 b3 b4 b5 a5 a3 base a1 a7 a6 At a9 a8 cr 1 N9 w w') ?_ (fun g9 w22 hI=>?_)
 ·have hh:=fun f Q k0 kq=>small_r9 hI f Q k0 kq
  exact hh _ _ (by rfl) (by intro d;cases d<;>exact fun _ _ _ _ h=>h)
 obtain hI:=hI;refine e_S (xy ?_);refine y7 [102,103,104,105,106,107] (fun g w'=>SmSt smallT smallF x6 b0 b1 b2 b3 b4 b5 a5 a3 base a1 a7 a6 At a9 a8 cr 2 N8 w w') ?_ (fun g10 w23 hI=>?_)
 ·have hh:=fun f Q k0 kq=>small_r10 hI f Q k0 kq
  exact hh _ _ (by rfl) (by intro d;cases d<;>exact fun _ _ _ _ h=>h)
 obtain hI:=hI;refine e_S (xy ?_);refine y7 [108,109,110,111,112] (fun g w'=>SmSt smallT smallF x6 b0 b1 b2 b3 b4 b5 a5 a3 base a1 a7 a6 At a9 a8 cr 3 N7 w w') ?_ (fun g11 w24 hI=>?_)
 ·have hh:=fun f Q k0 kq=>small_r11 hI f Q k0 kq
  exact hh _ _ (by rfl) (by intro d;cases d<;>exact fun _ _ _ _ h=>h)
 obtain hI:=hI;refine e_S (xy ?_);refine y7 [113,114,115,116,117,118,119] (fun g w'=>SmSt smallT smallF x6 b0 b1 b2 b3 b4 b5 a5 a3 base a1 a7 a6 At a9 a8 cr 4 N6 w w') ?_ (fun g12 w25 hI=>?_)
 ·have hh:=fun f Q k0 k1 kq=>small_r12 hI f Q k0 k1 kq
  exact hh _ _ (by rfl) (by rfl) (by intro d;cases d<;>exact fun _ _ _ _ h=>h)
 obtain hI:=hI;refine e_S (xy ?_);refine y7 [120,121,122,123,124,125,126] (fun g w'=>SmSt smallT smallF x6 b0 b1 b2 b3 b4 b5 a5 a3 base a1 a7 a6 At a9 a8 cr 5 N5 w w') ?_ (fun g13 w26 hI=>?_)
 ·have hh:=fun f Q k0 k1 kq=>small_r13 hI f Q k0 k1 kq
  exact hh _ _ (by rfl) (by rfl) (by intro d;cases d<;>exact fun _ _ _ _ h=>h)
 obtain hI:=hI;refine e_S (xy ?_);refine y7 [127,128,129,130,131,132,133] (fun g w'=>SmSt smallT smallF x6 b0 b1 b2 b3 b4 b5 a5 a3 base a1 a7 a6 At a9 a8 cr 6 N4 w w') ?_ (fun g14 w27 hI=>?_)
 ·have hh:=fun f Q k0 k1 kq=>small_r14 hI f Q k0 k1 kq
  exact hh _ _ (by rfl) (by rfl) (by intro d;cases d<;>exact fun _ _ _ _ h=>h)
 obtain hI:=hI;refine e_S (xy ?_);refine y7 [134,135,136,137,138,139,140] (fun g w'=>SmSt smallT smallF x6 b0 b1 b2 b3 b4 b5 a5 a3 base a1 a7 a6 At a9 a8 cr 7 N3 w w') ?_ (fun g15 w28 hI=>?_)
 ·have hh:=fun f Q k0 k1 kq=>small_r15 hI f Q k0 k1 kq
  exact hh _ _ (by rfl) (by rfl) (by intro d;cases d<;>exact fun _ _ _ _ h=>h)
 obtain hI:=hI;refine e_S (xy ?_);refine y7 [141,142,143,144,145,146,147] (fun g w'=>SmSt smallT smallF x6 b0 b1 b2 b3 b4 b5 a5 a3 base a1 a7 a6 At a9 a8 cr 8 N2 w w') ?_ (fun g16 w29 hI=>?_)
 ·have hh:=fun f Q k0 k1 kq=>small_r16 hI f Q k0 k1 kq
  exact hh _ _ (by rfl) (by rfl) (by intro d;cases d<;>exact fun _ _ _ _ h=>h)
 obtain hI:=hI;refine e_S (xy ?_);refine y7 [148,149,150,151,152,153,154] (fun g w'=>SmSt smallT smallF x6 b0 b1 b2 b3 b4 b5 a5 a3 base a1 a7 a6 At a9 a8 cr 9 N1 w w') ?_ (fun g17 w30 hI=>?_)
 ·have hh:=fun f Q k0 k1 kq=>small_r17 hI f Q k0 k1 kq
  exact hh _ _ (by rfl) (by rfl) (by intro d;cases d<;>exact fun _ _ _ _ h=>h)
 obtain hI:=hI;refine e_S (xy ?_);refine y7 [155,156,157,158,159,160,161] (fun g w'=>SmSt smallT smallF x6 b0 b1 b2 b3 b4 b5 a5 a3 base a1 a7 a6 At a9 a8 cr 10 Kj w w') ?_ (fun g18 w31 hI=>?_)
 ·have hh:=fun f Q k0 k1 kq=>small_r18 hI f Q k0 k1 kq
  exact hh _ _ (by rfl) (by rfl) (by intro d;cases d<;>exact fun _ _ _ _ h=>h)
 obtain hI:=hI;refine e_S (xy ?_);refine y7 [162,163,164,165,166,167,168] (fun g w'=>SmSt smallT smallF x6 b0 b1 b2 b3 b4 b5 a5 a3 base a1 a7 a6 At a9 a8 cr 11 Kx w w') ?_ (fun g19 w32 hI=>?_)
 ·have hh:=fun f Q k0 k1 kq=>small_r19 hI f Q k0 k1 kq
  exact hh _ _ (by rfl) (by rfl) (by intro d;cases d<;>exact fun _ _ _ _ h=>h)
 obtain hI:=hI;refine e_S (xy ?_);refine y7 [169,170,171,172,173,174,175] (fun g w'=>SmSt smallT smallF x6 b0 b1 b2 b3 b4 b5 a5 a3 base a1 a7 a6 At a9 a8 cr 12 Kq w w') ?_ (fun g20 w33 hI=>?_)
 ·have hh:=fun f Q k0 k1 kq=>small_r20 hI f Q k0 k1 kq
  exact hh _ _ (by rfl) (by rfl) (by intro d;cases d<;>exact fun _ _ _ _ h=>h)
 obtain hI:=hI;refine e_S (xy ?_);refine y7 [176,177,178,179,180,181,182] (fun g w'=>SmSt smallT smallF x6 b0 b1 b2 b3 b4 b5 a5 a3 base a1 a7 a6 At a9 a8 cr 13 Kz w w') ?_ (fun g21 w34 hI=>?_)
 ·have hh:=fun f Q k0 k1 kq=>small_r21 hI f Q k0 k1 kq
  exact hh _ _ (by rfl) (by rfl) (by intro d;cases d<;>exact fun _ _ _ _ h=>h)
 obtain hI:=hI;refine e_S (xy ?_);refine y7 [183,184,185,186,187,188,189] (fun g w'=>SmSt smallT smallF x6 b0 b1 b2 b3 b4 b5 a5 a3 base a1 a7 a6 At a9 a8 cr 14 K9 w w') ?_ (fun g22 w35 hI=>?_)
 ·have hh:=fun f Q k0 k1 kq=>small_r22 hI f Q k0 k1 kq
  exact hh _ _ (by rfl) (by rfl) (by intro d;cases d<;>exact fun _ _ _ _ h=>h)
 obtain hI:=hI;refine e_S (xy ?_);refine y7 [190,191,192,193,194,195,196] (fun g w'=>SmSt smallT smallF x6 b0 b1 b2 b3 b4 b5 a5 a3 base a1 a7 a6 At a9 a8 cr 15 K6 w w') ?_ (fun g23 w36 hI=>?_)
 ·have hh:=fun f Q k0 k1 kq=>small_r23 hI f Q k0 k1 kq
  exact hh _ _ (by rfl) (by rfl) (by intro d;cases d<;>exact fun _ _ _ _ h=>h)
 obtain hI:=hI;refine e_S (xy ?_);refine y7 [197,198,199,200,201,202,203] (fun g w'=>SmSt smallT smallF x6 b0 b1 b2 b3 b4 b5 a5 a3 base a1 a7 a6 At a9 a8 cr 16 K5 w w') ?_ (fun g24 w37 hI=>?_)
 ·have hh:=fun f Q k0 k1 kq=>small_r24 hI f Q k0 k1 kq
  exact hh _ _ (by rfl) (by rfl) (by intro d;cases d<;>exact fun _ _ _ _ h=>h)
 obtain hI:=hI;refine e_S (xy ?_);refine y7 [204,205,206,207,208,209,210] (fun g w'=>SmSt smallT smallF x6 b0 b1 b2 b3 b4 b5 a5 a3 base a1 a7 a6 At a9 a8 cr 17 K4 w w') ?_ (fun g25 w38 hI=>?_)
 ·have hh:=fun f Q k0 k1 kq=>small_r25 hI f Q k0 k1 kq
  exact hh _ _ (by rfl) (by rfl) (by intro d;cases d<;>exact fun _ _ _ _ h=>h)
 obtain hI:=hI;refine e_S (xy ?_);refine y7 (rg [] 211 8) (fun g w'=>SmSt smallT smallF x6 b0 b1 b2 b3 b4 b5 a5 a3 base a1 a7 a6 At a9 a8 cr 18 K3 w w') ?_ (fun g26 w39 hI=>?_)
 ·have hh:=fun f Q k0 k1 kq=>small_r26 hI f Q k0 k1 kq
  exact hh _ _ (by rfl) (by rfl) (by intro d;cases d<;>exact fun _ _ _ _ h=>h)
 obtain hI:=hI;refine e_S (xy ?_);refine y7 (rg [] 219 10) (fun g w'=>SmSt smallT smallF x6 b0 b1 b2 b3 b4 b5 a5 a3 base a1 a7 a6 At a9 a8 cr 19 K1 w w') ?_ (fun g27 w40 hI=>?_)
 ·have hh:=fun f Q k0 k1 kq=>small_r27 hI f Q k0 k1 kq
  exact hh _ _ (by rfl) (by rfl) (by intro d;cases d<;>exact fun _ _ _ _ h=>h)
 obtain hI:=hI;refine e_S (xy ?_);refine y7 (rg [] 229 11) (fun g w'=>SmSt smallT smallF x6 b0 b1 b2 b3 b4 b5 a5 a3 base a1 a7 a6 At a9 a8 cr 20 K0 w w') ?_ (fun g28 w41 hI=>?_)
 ·have hh:=fun f Q k0 k1 k2 kq=>small_r28 hI f Q k0 k1 k2 kq
  exact hh _ _ (by rfl) (by rfl) (by rfl) (by intro d;cases d<;>exact fun _ _ _ _ h=>h)
 obtain hI:=hI;refine e_S (xy ?_);refine y7 (rg [] 240 11) (fun g w'=>SmSt smallT smallF x6 b0 b1 b2 b3 b4 b5 a5 a3 base a1 a7 a6 At a9 a8 cr 21 D5 w w') ?_ (fun g29 w42 hI=>?_)
 ·have hh:=fun f Q k0 k1 k2 kq=>small_r29 hI f Q k0 k1 k2 kq
  exact hh _ _ (by rfl) (by rfl) (by rfl) (by intro d;cases d<;>exact fun _ _ _ _ h=>h)
 obtain hI:=hI;refine e_S (xy ?_);obtain⟨hC,A,cap,xs,nL,a2,ho,hL⟩:=hI;have hB:=hC.bel;have b6:=hC.k0;have b8:=hC.k93;have hD:=hC.dt;have lo5:=hC.lo5;obtain⟨o0,_,_,_,_,o9⟩:=hC.o;obtain⟨l5,l9⟩:=hC.l;refine ZV ?_;refine qv (cs:=#[_]) [(0,.int _ _)] rfl U68 T4 qq dE dE kR rfl (fun b251 w43 c6 bw hr=>?_);refine qv (cs:=#[_]) [(0,.slice _ _ _)] rfl U75 F7 xw dE dE kR rfl (fun b252 w44 c5 bv hr=>?_);refine zW Hq (Z8 _ _ [[6]] _ (x8 (rs:=[[6]]) c5 (.cons ⟨_,_,rfl,qw [6] c6.u dE,by decide,by decide⟩ .nil) dE)) rfl (fun e' w45 hr=>?_);obtain⟨⟨Ast,cst,rfl,c7⟩,bh⟩:=hr;replace bh:=sB bh;refine⟨_,rfl,?_⟩;refine zn1 ?_;replace a2:=a2.tr0 (bw.t (bv.t bh));refine Vq a2 rfl rfl D2 (by first|decide|simp) zJ rfl (fun w46 hq bu=>?_);replace hD:=hD.tr0 (bw.t (bv.t bh));replace hD:=hD.sp1 bu a2 (.inl dE);replace ho:=ho.tr0 (bw.t (bv.t bh));replace ho:=ho.tq bu;replace hL:=hL.tr0 (bw.t (bv.t bh));replace hL:=hL.sp1 bu a2 (.inl dE);replace c7:=c7.sp1 bu a2 (.inl dE);replace a2:=hq;refine zn5 ?_;refine zk b6.u rfl rfl sz42 rfl zJ (fun w47 hq c1=>?_);replace b6:=(b6.tr0 (bw.t (bv.t bh))).tr1 bu oG;replace hD:=hD.sp1 c1 b6 (.inl dE);replace ho:=ho.tq c1;replace hL:=hL.sp1 c1 b6 (.inl dE);replace c7:=c7.sp1 c1 b6 (.inl dE);replace b6:=hq;refine zn3 ?_;refine yx (.inl rfl) rfl (zZ U42 rfl rfl b6.range0 sz42) ?_;have c9:∀ t∈[74],t∈TS:=by decide
 have ca:=((hD.sub c9).and ((((ho.fz (ts:=[74]) (EY dE dE dE)).and (hL.sub c9)).imp (fun _ h=>gof_lexes h.1 h.2)).and (c7.sub c9))).imp (Q:=fun w=>TypesIn w At smallT/\FeatsIn w (some ⟨a5,0,none⟩) smallF/\RlCs w x6 cr.toList/\LexesIn w A smallX/\NodesIn w Ast smallS) (fun _ h=>⟨h.1.1,h.1.2.1,h.1.2.2,h.2.1,h.2.2⟩);replace hB:=((hB.tr0 (bw.t (bv.t bh))).tr1 bu lo5).tr1 c1 lo0;replace b8:=((b8.tr0 (bw.t (bv.t bh))).tr1 bu oG).tr1 c1 oG;exact⟨⟨_,rfl,At,a1,some ⟨a5,0,none⟩,5,a3,cr,A,cap,Ast,cst,_,rfl,hC.lo93,(show (smallX).length<=cap from ho.cap_le),b8,ca⟩,hB⟩
section
structure Hv(lo:Nat)(X:List Nat)(n:Nat)(w:World)(P:World->Prop):Prop where
 le:n<=w.heap.size
 all:∀ w2,w.heap.size<=w2.heap.size->(∀ k,lo<=k->k<n->k∉X->w2.heap[k]? =w.heap[k]?)->P w2
section hv
variable {lo lo2 n m:Nat} {X Y Z:List Nat} {w w1 w2:World} {P Q:World->Prop}
theorem Hv.now(h:Hv lo X n w P):P w:=h.all w (ae _) (fun _ _ _ _=>rfl)
theorem Hv.tr(h:Hv lo X n w P)(hs:Same Z w w1)(hz:∀ g∈Z,g<lo\/g∈X\/n<=g):Hv lo X n w1 P:=
 ⟨nLT h.le hs.size,fun w2 h2 hk=>h.all w2 (nLT hs.size h2) (fun k h3 h4 h5=>(hk k h3 h4 h5).trans (hs.blk k (nLL h4 h.le) (fun hm=>by
  rcases hz k hm with e|e|e
  ·omega
  ·exact h5 e
  ·omega)))⟩
theorem Hv.tr0(h:Hv lo X n w P)(hs:Same [] w w1):Hv lo X n w1 P:=h.tr hs (by simp)
theorem Hv.bel(h:Hv lo X n w P)(hb:Bel w w1):Hv lo X n w1 P:=h.tr0 (sB hb)
theorem Hv.in1{b:Nat}(h:Hv lo X n w P)(hs:Same [b] w w1)(hb:b∈X):Hv lo X n w1 P:=h.tr hs (fun g hg=> .inr (.inl (by rw[List.mem_singleton.1 hg];exact hb)))
theorem Hv.lo1{b:Nat}(h:Hv lo X n w P)(hs:Same [b] w w1)(hb:b<lo):Hv lo X n w1 P:=h.tr hs (fun g hg=> .inl (by rw[List.mem_singleton.1 hg];exact hb))
theorem Hv.mono(h:Hv lo X n w P)(hl:lo2<=lo)(hn:n<=m)(hm:m<=w.heap.size):Hv lo2 X m w P:=⟨hm,fun w2 h2 hk=>h.all w2 h2 (fun k h3 h4 h5=>hk k oG oG h5)⟩
theorem Hv.up(h:Hv lo X n w P):Hv lo X w.heap.size w P:=h.mono (ae _) h.le (ae _)
theorem Hv.hole(h:Hv lo X n w P)(hy:∀ y∈Y,y∈X\/y<lo\/n<=y):Hv lo Y n w P:=⟨h.le,fun w2 h2 hk=>h.all w2 h2 (fun k h3 h4 h5=>hk k h3 h4 (fun hm=>by
 rcases hy k hm with e|e|e
 ·exact h5 e
 ·omega
 ·omega))⟩
theorem Hv.nil(h:Hv lo X n w P):Hv lo [] n w P:=h.hole (by simp)
theorem Hv.imp(h:Hv lo X n w P)(hi:∀ w,P w->Q w):Hv lo X n w Q:=⟨h.le,fun w2 h2 hk=>hi w2 (h.all w2 h2 hk)⟩
theorem Hv.and(h:Hv lo X n w P)(g:Hv lo X m w Q):Hv lo X w.heap.size w (fun w=>P w/\Q w):=⟨ae _,fun w2 h2 hk=>⟨h.up.all w2 h2 hk,g.up.all w2 h2 hk⟩⟩
theorem Hv.triv(lo:Nat)(X:List Nat)(w:World)(h:∀ w,P w):Hv lo X w.heap.size w P:=⟨ae _,fun w2 _ _=>h w2⟩
theorem Hv.blk{b t:Nat}{cs:Array Value}(h:Blk w b t cs)(hl:lo<=b)(hx:b∉X):Hv lo X w.heap.size w (fun w=>Blk w b t cs):=⟨ae _,fun _ _ hk=>(hk b hl h.lt hx).trans h⟩
theorem Hv.fr(h:∀ w2,FrSame lo w w2->P w2):Hv lo [] w.heap.size w P:=⟨ae _,fun w2 h2 hk=>h w2 ⟨h2,fun k h3 h4=>hk k h3 h4 (by simp)⟩⟩
end hv
inductive RowD{α:Type}(C:World->α->List Value->Prop)(sz:Nat)(w:World):List α->List Value->Prop
 | nil:RowD C sz w [] []
 | snoc {l:List α} {vs v:List Value} {x:α} (h:RowD C sz w l vs) (hv:v.length=sz) (hx:C w x v):RowD C sz w (l++[x]) (vs++v)
theorem RowD.len{α:Type}{C:World->α->List Value->Prop}{sz:Nat}{w:World}{l:List α}{vs:List Value}(h:RowD C sz w l vs):vs.length=l.length*sz:=by
 induction h with
 | nil=>simp
 | snoc h hv _ ih=>simp only[List.length_append,List.length_cons,List.length_nil,ih,hv,Nat.add_mul,Nat.zero_add,Nat.one_mul]
theorem RowD.get{α:Type}{C:World->α->List Value->Prop}{sz:Nat}{w:World}{l:List α}{vs:List Value}(h:RowD C sz w l vs):∀ k (hk:k<l.length),∃ v,v.length=sz/\C w l[k] v/\∀ j u,v[j]? =some u->vs[k*sz+j]? =some u:=by
 induction h with
 | nil=>intro k hk;simp at hk
 | @snoc l vs v x h hv hx ih=>
  intro k hk;have a1:=h.len;by_cases e:k<l.length
  ·rw[List.getElem_append_left e]
   obtain⟨v1,h0,h1,h2⟩:=ih k e;refine⟨v1,h0,h1,fun j u hj=>?_⟩;have hj9:j<sz:=by rw[<- h0];exact(av.1 hj).1
   have hm:(k+1)*sz<=l.length*sz:=aS _ e;rw[Nat.add_mul,Nat.one_mul]at hm;rw[List.getElem?_append_left oG];exact h2 j u hj
  ·simp only[List.length_append,List.length_cons,List.length_nil]at hk
   have ek:k=l.length:=by omega
   subst ek;refine⟨v,hv,by simpa using hx,fun j u hj=>?_⟩;rw[List.getElem?_append_right oG,a1,Nat.add_sub_cancel_left];exact hj
theorem own_at2{w:World}{base k cap sz:Nat}{e:TypeId}{A:Option Addr}{vs:List Value}(ho:Own w base e sz A k cap vs)(hne:vs≠[]):∃(g:Nat) (cs:Array Value),A=some ⟨g,0,none⟩/\base<=g/\Blk w g e cs/\∀(j:Nat) (u:Value),vs[j]? =some u->cs[j]? =some u:=by
 rcases ho.2 with ⟨_,hn⟩|⟨g,c,cur,hv,hb,hg,hk,hm,hs,ht⟩
 ·have h1:=ho.1
  rw[hn,Nat.zero_mul]at h1;exact absurd (aB.1 h1) hne
 ·cases hv
  refine⟨g,cur,rfl,hb,hg,fun j u hj=>?_⟩;rw[<- ht]at hj;have hjl:j<k*sz:=by
   have:=(av.1 hj).1;rw[List.length_take]at this;omega
  rw[List.getElem?_take_of_lt hjl]at hj
  simpa using hj
theorem own_rowY{α:Type}{C:World->α->List Value->Prop}{R:World->Option Addr->List α->Prop}{sz:Nat}{w:World}{base lo k cap n:Nat}{e:TypeId}{A:Option Addr}{l:List α}{vs:List Value}{X Y:List Nat}
  (hR:∀(w:World) (A:Option Addr),R w A [])
  (hC:∀(w:World) (g:Nat) (cs:Array Value),Blk w g e cs->l.length<=jx->(∀ k (hk:k<l.length),∃ v,C w l[k] v/\w.rangeAt g (0+k*sz) v)->R w (some ⟨g,0,none⟩) l)
  (hz:0<sz) (ho:Own w base e sz A k cap vs) (hb:lo<=base) (hd:Hv lo X n w (fun w=>RowD C sz w l vs)) (hY:∀ y∈Y,y∈X) (hA:∀ y∈Y,y∉aL A):Hv lo Y w.heap.size w (fun w=>R w A l):=by
 have a1:=hd.now.len;cases hl:l with
 | nil=>exact Hv.triv _ _ _ (fun w=>hR w A)
 | cons a r=>
  rw[<- hl];have hne:vs≠[]:=fun h0=>by
   rw[h0,hl]at a1;simp only[List.length_nil,List.length_cons,Nat.add_mul]at a1;omega
  obtain⟨g,cs,rfl,hg,a2,hcs⟩:=own_at2 ho hne;have hmx:=ho.max;have hk:l.length=k:=by
   have h1:=ho.len;rw[a1]at h1;exact Nat.eq_of_mul_eq_mul_right hz h1
  refine((Hv.blk a2 (nLT hb hg) (fun h=>hA g h (aj.2 rfl))).and (hd.hole (fun y hy=> .inl (hY y hy))).up).imp (fun w2 h=>?_);refine hC w2 g cs h.1 (by rw[hk];exact hmx) (fun i hi=>?_);obtain⟨v,hv,h1,h2⟩:=h.2.get i hi;refine⟨v,h1,h.1.range (fun j u hj=>?_)⟩;rw[Nat.zero_add];exact hcs _ _ (h2 j u hj)
theorem own_row{α:Type}{C:World->α->List Value->Prop}{R:World->Option Addr->List α->Prop}{sz:Nat}{w:World}{base lo k cap n:Nat}{e:TypeId}{A:Option Addr}{l:List α}{vs:List Value}{X:List Nat}
  (hR:∀(w:World) (A:Option Addr),R w A [])
  (hC:∀(w:World) (g:Nat) (cs:Array Value),Blk w g e cs->l.length<=jx->(∀ k (hk:k<l.length),∃ v,C w l[k] v/\w.rangeAt g (0+k*sz) v)->R w (some ⟨g,0,none⟩) l)
  (hz:0<sz) (ho:Own w base e sz A k cap vs) (hb:lo<=base) (hd:Hv lo X n w (fun w=>RowD C sz w l vs)):Hv lo [] w.heap.size w (fun w=>R w A l):=
 own_rowY hR hC hz ho hb hd (by simp) (by simp)
def smC(w:World)(s:Sm)(v:List Value):Prop:=∃ A c,v= [.string s.base,.slice A s.args.length c]/\SimsIn w A s.args
def tmD(w:World)(t:Tm)(v:List Value):Prop:=∃ S B cs cb,v=tmC t S B cs cb/\SimsIn w S t.type.args/\TmsIn w B t.args
theorem sim_at{w:World}{b o:Nat}{s:Sm}{A:Option Addr}{c:Nat}(hb:b<w.heap.size)(h:w.rangeAt b o [.string s.base,.slice A s.args.length c])(h1:SimsIn w A s.args):SimAt w b o s:=by
 cases s with
 | mk nm a=>exact .mk hb h h1
theorem own_sims{w:World}{base lo k cap n:Nat}{A:Option Addr}{l:List Sm}{vs:List Value}{X:List Nat}(ho:Own w base 31 2 A k cap vs)(hb:lo<=base)(hd:Hv lo X n w (fun w=>RowD smC 2 w l vs)):Hv lo [] w.heap.size w (fun w=>SimsIn w A l):=
 own_row (fun _ _=> .nil) (fun w g cs a1 hl hk=> .more hl a1.lt (fun k hkl=>by
  obtain⟨v,⟨A,c,rfl,hs⟩,hr⟩:=hk k hkl
  exact sim_at a1.lt hr hs)) dE ho hb hd
theorem own_tms{w:World}{base lo k cap n:Nat}{A:Option Addr}{l:List Tm}{vs:List Value}{X:List Nat}(ho:Own w base 34 6 A k cap vs)(hb:lo<=base)(hd:Hv lo X n w (fun w=>RowD tmD 6 w l vs)):Hv lo [] w.heap.size w (fun w=>TmsIn w A l):=
 own_row (fun _ _=> .nil) (fun w g cs a1 hl hk=> .more hl a1.lt (fun k hkl=>by
  obtain⟨v,⟨S,B,cs',cb,rfl,hs,ht⟩,hr⟩:=hk k hkl
  exact tm_at a1.lt hr hs ht)) dE ho hb hd
inductive SmK:Sm->Prop
 | mk {b:ByteArray} {l:List Sm} (hl:l.length<=1000) (hk:∀ x∈l,SmK x):SmK (.mk b l)
inductive TmK:Tm->Prop
 | mk {k i:Int} {nm:ByteArray} {s:Sm} {l:List Tm} (hs:SmK s) (hl:l.length<=1000) (hk:∀ x∈l,TmK x):TmK (.mk k nm i s l)
theorem Ts.smK:∀ τ:Ts,SmK τ.sm
 | .b _=> .mk (ag _) (fun x h=>by cases h)
 | .f x y=> .mk (by show 2<=1000;decide) (fun z h=>by
  rcases ap.1 h with h|h
  ·rw[h];exact x.smK
  ·rw[List.mem_singleton.1 h];exact y.smK)
theorem smZ_K:SmK smZ:= .mk (ag _) (fun x h=>by cases h)
theorem Tv.tmK:∀ v:Tv,TmK v.tm
 | .con _ τ=> .mk τ.smK (ag _) (fun x h=>by cases h)
 | .var _=> .mk smZ_K (ag _) (fun x h=>by cases h)
 | .abs τ x=> .mk τ.smK (by show 1<=1000;decide) (fun z h=>by rw[List.mem_singleton.1 h];exact x.tmK)
 | .app x y=> .mk smZ_K (by show 2<=1000;decide) (fun z h=>by
  rcases ap.1 h with h|h
  ·rw[h];exact x.tmK
  ·rw[List.mem_singleton.1 h];exact y.tmK)
theorem SmK.le{s:Sm}(h:SmK s):s.args.length<=1000:=by
 cases h with
 | mk hl _=>exact hl
theorem TmK.le{s:Tm}(h:TmK s):s.args.length<=1000:=by
 cases h with
 | mk _ hl _=>exact hl
theorem TmK.ty{s:Tm}(h:TmK s):SmK s.type:=by
 cases h with
 | mk hs _ _=>exact hs
theorem RowD.app{α:Type}{C:World->α->List Value->Prop}{sz lo l2 n m:Nat}{X Y:List Nat}{w:World}{l:List α}{vs v:List Value}{j:Nat}{x:α}(hj:j<l.length)(hx:l[j]=x)(h:Hv lo X n w (fun w=>RowD C sz w (l.take j) vs))(hv:v.length=sz)(hC:Hv l2 [] m w (fun w=>C w x v))(hl:lo<=l2)(hY:∀ y∈Y,y∈X\/n<=y)(hY2:∀ y∈Y,y<l2\/m<=y):Hv lo Y w.heap.size w (fun w=>RowD C sz w (l.take (j+1)) (vs++v)):=
 ((h.hole (fun y hy=>(hY y hy).imp id .inr)).and ((hC.hole (fun y hy=> .inr (hY2 y hy))).mono hl (ae _) hC.le)).imp (fun w2 h2=>by
  rw[List.take_succ_eq_append_getElem hj,hx]
  exact .snoc h2.1 hv h2.2)
theorem RowD.take{α:Type}{C:World->α->List Value->Prop}{sz:Nat}{w:World}{l:List α}(f:α->List Value)(hf:∀ x,(f x).length=sz)(hC:∀ x∈l,C w x (f x)):∀ k,k<=l.length->RowD C sz w (l.take k) ((l.take k).flatMap f)
 | 0,_=> .nil
 | k+1,h=>by
  rw[List.take_succ_eq_append_getElem oG,List.flatMap_append]
  have:=(RowD.take f hf hC k oG).snoc (hf (l[k])) (hC _ (ar oG))
  simpa using this
theorem RowD.all{α:Type}{C:World->α->List Value->Prop}{sz:Nat}{w:World}{l:List α}(f:α->List Value)(hf:∀ x,(f x).length=sz)(hC:∀ x∈l,C w x (f x)):RowD C sz w l (l.flatMap f):=by
 have:=RowD.take f hf hC l.length (ae _)
 rwa[List.take_length]at this
theorem cell_keep{w w2:World}{b o:Nat}(h:w2.heap[b]? =w.heap[b]?):w2.cell? ⟨b,o,none⟩=w.cell? ⟨b,o,none⟩:=by simp[World.cell?,h]
theorem Dz{w w2:World}{b o:Nat}{xs:List Value}(h:w2.heap[b]? =w.heap[b]?)(hr:w.rangeAt b o xs):w2.rangeAt b o xs:=fun j v hj=>(cell_keep h).trans (hr j v hj)
def Kw(w w2:World):Prop:=w.heap.size<=w2.heap.size/\∀ k,k<w.heap.size->w2.heap[k]? =w.heap[k]?
theorem Kw.of{w w2:World}(h:Bel w w2):Kw w w2:=⟨h.size,h.block⟩
theorem SimsIn.keep{w w2:World}{A:Option Addr}{l:List Sm}(hw:Kw w w2)(h:SimsIn w A l):SimsIn w2 A l:=
 SimsIn.rec (motive_1:=fun b o s _=>SimAt w2 b o s) (motive_2:=fun A l _=>SimsIn w2 A l)
  (fun hb h _ ih=> .mk (nLL hb hw.1) (Dz (hw.2 _ hb) h) ih) .nil (fun hl hb _ ih=> .more hl (nLL hb hw.1) ih) h
theorem TmsIn.keep{w w2:World}{A:Option Addr}{l:List Tm}(hw:Kw w w2)(h:TmsIn w A l):TmsIn w2 A l:=
 TmsIn.rec (motive_1:=fun b o s _=>TmAt w2 b o s) (motive_2:=fun A l _=>TmsIn w2 A l)
  (fun hb h hs _ ih=> .mk (nLL hb hw.1) (Dz (hw.2 _ hb) h) (hs.keep hw) ih) .nil (fun hl hb _ ih=> .more hl (nLL hb hw.1) ih) h
theorem Hv.old{w w1:World}{X:List Nat}{P:World->Prop}(hP:∀ w2,Kw w w2->P w2)(hB:Bel w w1)(hX:∀ y∈X,w.heap.size<=y):Hv 0 X w.heap.size w1 P:=
 ⟨hB.size,fun w2 h2 hk=>hP w2 ⟨nLT hB.size h2,fun k hkw=>(hk k (ag _) hkw (fun hm=>by have:=hX k hm;omega)).trans (hB.block k hkw)⟩⟩
end
theorem tmF_K{t:Tm}(h:(tmF t).1=0):TmK t:=by
 have h0:(twk t 1 0 0).2.1=0:=aH (fun hc=>by rw[P7 hc]at h;exact hc h);obtain⟨v,rfl,_⟩:=Ex t 1 0 0 h0;exact v.tmK
structure GpS(l:List Ty)(fs:List Ft)(rs:List Rl)(xs:List Lx)(st:List Nd):Prop where
 hier:(zY l fs).1=0
 rn:rs.length<=40
 xn:xs.length<=100
 rok:∀ i (h:i<rs.length),(yJ l fs (rs[i]).gr).1=0/\TmK (rs[i]).mean
 xok:∀ i (h:i<xs.length),(yJ l fs (xs[i]).gr).1=0/\TmK (xs[i]).mean
 sok:(yJ l fs st).1=0
def plTs:Ts:= .f (.b false) (.b true)
def plV:Tv:= .abs plTs (.var 0)
def pluralR:Lr:=⟨⟨#[112,108,117,114,97,108]⟩,⟨#[]⟩,⟨#[115]⟩,([[1,0,1,1,3],[9,4,2],[5],[9,4,4],[4]]:List (List Int)).map VJ,1,plV.tm⟩
theorem dog_in:3<smallXs.length:=by decide +kernel
def dogS:LxS:=smallXs[3]'dog_in
theorem hier_sm:(zY smallT smallF).1=0:=by decide +kernel
theorem plu_ok:(lrV smallT smallF pluralR).1=0:=by
 have h1:(Q8 smallT smallF).1=0:=by rw[DX hier_sm dE]
 have h2:lrF smallT smallF pluralR=0:=by
  rw[lr_ok (by decide +kernel) (by decide +kernel) (by rw[grB_ok (by decide +kernel)]) (by decide +kernel)];exact congrArg (·.1) (T0 (x:=plV) (by decide +kernel))
 rw[lrv_ok h1 h2]
theorem Hw:lxB smallT smallF dogS=true:=by decide +kernel
theorem dog_ok:KK smallT smallF dogS.lx=0:=lxB_ok Hw
theorem dog_at(h:3<smallX.length):smallX[3]=dogS.lx:=Option.some.inj ((aJ h).symm.trans rfl)
theorem dog_wd:C8 pluralR dogS.lx:=⟨by decide +kernel,by decide +kernel,by decide +kernel⟩
theorem dog_ap:Rv pluralR.mean dogS.lx.mean:=by
 have h:=Hw;simp only[lxB,Bool.and_eq_true]at h;refine⟨congrArg (·.1) (T0 (x:=plV) (by decide +kernel)),congrArg (·.1) (T0 h.2),⟨plV,dogS.mean,_,rfl,rfl,(rfl:tyv [] (.app plV dogS.mean)=some plTs)⟩,by decide +kernel,by decide +kernel⟩
def dogC:List Nd:=pluralR.gr
def dogθ(i:Nat):Nat:=[0,1,2,3,4,3,4].getD i 0
theorem dog_bound:M1 smallT (vQ pluralR.gr dogS.lx.gr) [((plc pluralR.gr 1).toNat,pluralR.gr.length)]:=by
 refine⟨dogC,dogθ,?_,⟨?_,?_,?_⟩,?_⟩
 ·decide +kernel
 ·decide +kernel
 ·decide +kernel
 ·decide +kernel
 ·decide +kernel
theorem dog_yes{ok:Bool}{Y:List Nd}(h:LrS smallT pluralR dogS.lx ok Y):ok=true:=by
 cases ok with
 | true=>rfl
 | false=>
  rcases h.2 rfl with k|k
  ·exact absurd ⟨dog_wd,dog_ap⟩ k
  ·rcases k with ⟨X3,_,_,k,_⟩|⟨k,_⟩
   ·cases k
   ·rcases k with k|⟨X,hX,h60⟩
    ·exact absurd dog_bound k
    ·have h1:=stp_len (Qy hier_sm).vt (by decide +kernel:0<(vQ pluralR.gr dogS.lx.gr).length) hX
     have h2:(vQ pluralR.gr dogS.lx.gr).length<=60:=by decide +kernel
     omega
theorem hassf_any(s p:ByteArray)(w:World)(hs:s.size<9223372036854775807)(hp:p.size<9223372036854775807):Calls prog 115 #[.string s,.string p] w fun e w'=>e= .returned (.bool (Jk s p))/\w=w':=by
 refine enter func115 ntmps115 rfl (ay rfl) (zn6 ?_);refine xk (rg [] 4 17) 4 (.bool (decide (p.size<=s.size/\sdr (s.size-p.size) s=p))) nu ?_ (fun gq=>?_)
 ·refine zn7 ?_;refine zw 10 rfl (fun g10=>?_) (fun g10=>?_)
  ·refine kQ ?_;refine wl (jX (c:=((s.size-p.size:Nat):Int)) rfl rfl oG oG) (zn1 ?_);refine wl (Y3 (l:=(s.size-p.size)) U9 rfl rfl oG) (zn6 ?_);refine zQ (e_R ⟨rfl,agA,?_⟩);show Value.bool _=Value.bool _
   first
    | exact ac (ai.2 ⟨fun h=>⟨by omega,h⟩,fun h=>h.2⟩)
    | exact ac (ao (fun h=>by omega)).symm
  refine kQ ?_;refine zQ (e_R ⟨rfl,agA,?_⟩);show Value.bool _=Value.bool _
  first
   | exact ac (ai.2 ⟨fun h=>⟨by omega,h⟩,fun h=>h.2⟩)
   | exact ac (ao (fun h=>by omega)).symm
 refine zn3 ?_;exact⟨rfl,rfl⟩
theorem cutsf_any(s p:ByteArray)(w:World)(hs:s.size<9223372036854775807)(hp:p.size<9223372036854775807):Calls prog 92 #[.string s,.string p] w fun e w'=>e= .returned (.tuple #[.string (Tk s p),.bool (Jk s p)])/\w=w':=by
 refine enter func92 ntmps92 rfl (ay rfl) (kQ ?_);refine zW kR (hassf_any s p _ hs hp) rfl (fun e' w1 hr=>?_);obtain⟨rfl,rfl⟩:=hr;refine⟨_,rfl,?_⟩;refine zn3 ?_;refine ky rfl (fun c9=>?_) (fun c9=>?_)
 ·have hno:Jk s p=false:=by grind[Jk]
  refine zn9 ?_;refine kY (.inl rfl) rfl rfl rfl ?_;exact⟨by unfold Tk;rw[hno];rfl,rfl⟩
 have hy:Jk s p=true:=by grind[Jk]
 have hle:p.size<=s.size:=(aO hy).1;refine zn9 ?_;refine wl (jX (c:=((s.size-p.size:Nat):Int)) rfl rfl oG oG) (wl (r_tkS (h:=(s.size-p.size)) U9 rfl rfl oG) (zn5 ?_));refine kY (.inl rfl) rfl rfl rfl ?_;exact⟨by unfold Tk;rw[hy];rfl,rfl⟩
theorem cutss_any(s p:ByteArray)(w:World)(hs:s.size<9223372036854775807)(hp:p.size<9223372036854775807):Calls prog 55 #[.string s,.string p] w fun e w'=>e= .returned (.tuple #[.string (Tk s p),.bool (Jk s p)])/\w=w':=by
 refine enter func55 ntmps55 rfl (ay rfl) (vy ?_);refine zW kR (cutsf_any s p _ hs hp) rfl (fun e' w1 hr=>?_);obtain⟨rfl,rfl⟩:=hr;refine⟨_,rfl,?_⟩;refine wl (y8 (v:= .string _) rfl rfl) (wl (y8 (v:= .bool _) rfl rfl) (zn5 ?_));refine kY (.inl rfl) rfl rfl rfl ?_;exact⟨rfl,rfl⟩
theorem rc_any(s:ByteArray)(w:World)(hsz:s.size<9223372036854775807):Calls Tryz.prog 81 #[.string s] w fun e w'=>e= .returned (.int .i64 (((ch s 0).length:Nat):Int))/\Bel w w':=by
 refine enT Tryz.func81 Tryz.ntmps81 rfl rfl fun hB=>?_;refine zn9 ?_;refine wl_rg U9 rfl (fun b4 w1 a1 s1 hr=>?_);have lo4:=nLT (Bel.size hB) hr;refine zn3 ?_;refine qj [2,5,6,7,8] (fun m g w'=>∃ p n:Nat,p<=s.size/\m=s.size-p/\n<=p/\g 2= .int .i64 n/\n+(ch s p).length=(ch s 0).length/\Bel w w'/\ItIn w' b4 s p) (s.size) ?_ (fun m g2 w2 hI=>?_)
 ·exact⟨0,0,ag _,rfl,ae _,rfl,Nat.zero_add _,hB.u,a1⟩
 obtain⟨p,n,hp,hm,hnp,h2,hc,hB,a1⟩:=hI;refine zK 2 _ h2 nu (zn2 ?_);rcases Nat.lt_or_ge (p) (s).size with hnlt|hnge
 ·refine wl_nx a1 rfl hnlt (fun w3 hq s2=>?_);replace a1:=hq;have hwp:=QW hnlt;have hwl:=SK hnlt;rw[Ik hnlt,List.length_cons]at hc;refine wl (y8 (v:= .bool true) rfl rfl) (oJ ?_);refine xK (s.size-(p+wdt s p)) oG agA ?_;exact⟨p+wdt s p,n+1,hwl,rfl,by omega,rfl,by omega,hB.u,a1⟩
 refine wl (r_ne a1 rfl (Nat.not_lt.2 hnge)) ?_;rw[R9 (Nat.not_lt.2 hnge),List.length_nil,Nat.add_zero]at hc;refine wl (y8 (v:= .bool false) rfl rfl) (Ry ?_);exact⟨by rw[<- hc];rfl,hB⟩
theorem Xj(s:ByteArray)(w:World)(h8:8<=s.size):Calls Tryz.prog 111 #[.string s] w fun e w'=>e= .returned (.int .u64 ((wo 7 s:Nat):Int))/\Bel w w':=by
 have q0:=uJ s 0;have q1:=uJ s 1;have q2:=uJ s 2;have q3:=uJ s 3;have q4:=uJ s 4;have q5:=uJ s 5;have q6:=uJ s 6;have q7:=uJ s 7;have r0:=uq s (k:=0) dE;have r1:=uq s (k:=1) dE;have r2:=uq s (k:=2) dE;have r3:=uq s (k:=3) dE;have r4:=uq s (k:=4) dE;have r5:=uq s (k:=5) dE;have r6:=uq s (k:=6) dE;have r7:=uq s (k:=7) dE;refine enT Tryz.func111 Tryz.ntmps111 rfl rfl fun hB=>?_;refine vy ?_;refine Qx kR kR (fun w1 s1=>?_);refine zn1 ?_;refine ws (kZ (i:=0) U9 rfl rfl oG) (ws (NZ U5 JZ rfl (O9 oG)) (zn1 ?_));refine ws (kZ (i:=1) U9 rfl rfl oG) (ws (NZ U5 JZ rfl (O9 oG)) (ws (Mz (b:=8) rfl rfl dE oG rfl) (ws (YW rfl rfl r0 oG) (zn1 ?_))));refine ws (kZ (i:=2) U9 rfl rfl oG) (ws (NZ U5 JZ rfl (O9 oG)) (ws (Mz (b:=16) rfl rfl dE oG rfl) (ws (YW rfl rfl r1 oG) (zn1 ?_))));refine ws (kZ (i:=3) U9 rfl rfl oG) (ws (NZ U5 JZ rfl (O9 oG)) (ws (Mz (b:=24) rfl rfl dE oG rfl) (ws (YW rfl rfl r2 oG) (zn1 ?_))));refine ws (kZ (i:=4) U9 rfl rfl oG) (ws (NZ U5 JZ rfl (O9 oG)) (ws (Mz (b:=32) rfl rfl dE oG rfl) (ws (YW rfl rfl r3 oG) (zn1 ?_))));refine ws (kZ (i:=5) U9 rfl rfl oG) (ws (NZ U5 JZ rfl (O9 oG)) (ws (Mz (b:=40) rfl rfl dE oG rfl) (ws (YW rfl rfl r4 oG) (zn1 ?_))));refine ws (kZ (i:=6) U9 rfl rfl oG) (ws (NZ U5 JZ rfl (O9 oG)) (ws (Mz (b:=48) rfl rfl dE oG rfl) (ws (YW rfl rfl r5 oG) (zn1 ?_))));refine ws (kZ (i:=7) U9 rfl rfl oG) (ws (NZ U5 JZ rfl (O9 oG)) (ws (Mz (b:=56) rfl rfl dE oG rfl) (ws (YW rfl rfl r6 oG) (zn1 ?_))));refine uW (zn3 ?_);exact⟨rfl,hB.u⟩
structure Rw where
 kind:Int
 name:ByteArray
 typ:Sm
 index:Int
 kids:List Int
 up:Int
def rws:Int->Nat->Tv->List Rw
 | up,_,.con nm τ=>[⟨1,nm,τ.sm,0,[],up⟩]
 | up,_,.var i=>[⟨2,⟨#[]⟩,smZ,i,[],up⟩]
 | up,p,.abs τ x=>⟨3,⟨#[]⟩,τ.sm,0,[((p+1:Nat):Int)],up⟩::rws p (p+1) x
 | up,p,.app x y=>⟨4,⟨#[]⟩,smZ,0,[((p+1:Nat):Int),((p+1+x.size:Nat):Int)],up⟩::(rws p (p+1) x++rws p (p+1+x.size) y)
theorem VQ:∀(up:Int) (p:Nat) (v:Tv),(rws up p v).length=v.size
 | _,_,.con _ _=>rfl
 | _,_,.var _=>rfl
 | _,p,.abs τ x=>by simp only[rws,List.length_cons,VQ _ _ x,Tv.size]
 | _,p,.app x y=>by simp only[rws,List.length_cons,List.length_append,VQ _ _ x,VQ _ _ y,Tv.size]
def RwAt(l:List Rw)(p:Nat)(s:List Rw):Prop:=∀ j (h:j<s.length),l[p+j]? =some s[j]
theorem RwAt.app{l:List Rw}{p:Nat}{s t:List Rw}(h:RwAt l p (s++t)):RwAt l p s/\RwAt l (p+s.length) t:=by
 refine⟨fun j hj=>?_,fun j hj=>?_⟩
 ·have:=h j (by rw[List.length_append];omega)
  rwa[List.getElem_append_left hj]at this
 ·have:=h (s.length+j) (by rw[List.length_append];omega)
  rw[List.getElem_append_right oG,<- Nat.add_assoc]at this;rw[this];simp
theorem RwAt.cons{l:List Rw}{p:Nat}{r:Rw}{t:List Rw}(h:RwAt l p (r::t)):l[p]? =some r/\RwAt l (p+1) t:=by
 refine⟨h 0 (by simp),fun j hj=>?_⟩;have:=h (j+1) (by rw[List.length_cons];omega);rw[List.getElem_cons_succ,show p+(j+1)=p+1+j by omega]at this;exact this
inductive Chn(l:List Rw):Int->List Ts->Prop
 | nil:Chn l (-1) []
 | abs {u:Nat} {r:Rw} {τ:Ts} {Γ:List Ts} (h:l[u]? =some r) (hk:r.kind=3) (ht:r.typ=τ.sm) (hu:r.up<u) (hc:Chn l r.up Γ):Chn l u (τ::Γ)
 | app {u:Nat} {r:Rw} {Γ:List Ts} (h:l[u]? =some r) (hk:r.kind≠3) (hu:r.up<u) (hc:Chn l r.up Γ):Chn l u Γ
def J9(l:List Rw):Nat->List Ts->Tv->Prop
 | p,_,.con _ τ=>∃ r,l[p]? =some r/\r.kind=1/\r.typ=τ.sm
 | p,Γ,.var i=>∃ r,l[p]? =some r/\r.kind=2/\r.index=i/\r.up<p/\Chn l r.up Γ
 | p,Γ,.abs τ x=>(∃ r,l[p]? =some r/\r.kind=3/\r.typ=τ.sm/\r.kids= [((p+1:Nat):Int)])/\J9 l (p+1) (τ::Γ) x
 | p,Γ,.app x y=>(∃ r,l[p]? =some r/\r.kind=4/\r.kids= [((p+1:Nat):Int),((p+1+x.size:Nat):Int)])/\J9 l (p+1) Γ x/\J9 l (p+1+x.size) Γ y
theorem TZ{l:List Rw}:∀ {v:Tv} {up:Int} {p:Nat} {Γ:List Ts},RwAt l p (rws up p v)->Chn l up Γ->up<p->J9 l p Γ v
 | .con nm τ,up,p,Γ,h,hc,hu=>⟨_,(h.cons).1,rfl,rfl⟩
 | .var i,up,p,Γ,h,hc,hu=>⟨_,(h.cons).1,rfl,rfl,hu,hc⟩
 | .abs τ x,up,p,Γ,h,hc,hu=>by
  obtain⟨h1,h2⟩:=RwAt.cons h
  exact⟨⟨_,h1,rfl,rfl,rfl⟩,TZ h2 (.abs h1 rfl rfl hu hc) oG⟩
 | .app x y,up,p,Γ,h,hc,hu=>by
  obtain⟨h1,h2⟩:=RwAt.cons h
  obtain⟨h3,h4⟩:=h2.app
  rw[VQ]at h4
  have hC:Chn l p Γ:= .app h1 (show (4:Int)≠3 by decide) hu hc
  exact⟨⟨_,h1,rfl,rfl⟩,TZ h3 hC oG,TZ h4 hC oG⟩
def nds:List Ts->Tv->List (List Ts×Tv)
 | Γ,.con nm τ=>[(Γ,.con nm τ)]
 | Γ,.var i=>[(Γ,.var i)]
 | Γ,.abs τ x=>(Γ,.abs τ x)::nds (τ::Γ) x
 | Γ,.app x y=>(Γ,.app x y)::(nds Γ x++nds Γ y)
theorem NJ:∀(Γ:List Ts) (v:Tv),(nds Γ v).length=v.size
 | _,.con _ _=>rfl
 | _,.var _=>rfl
 | _,.abs τ x=>by simp only[nds,List.length_cons,NJ _ x,Tv.size]
 | _,.app x y=>by simp only[nds,List.length_cons,List.length_append,NJ _ x,NJ _ y,Tv.size]
theorem Pj{l:List Rw}:∀ {v:Tv} {p:Nat} {Γ:List Ts},J9 l p Γ v->v.ok Γ.length->(∀ σ∈Γ,σ.size<=200)->∀ j (h:j<(nds Γ v).length),J9 l (p+j) (nds Γ v)[j].1 (nds Γ v)[j].2/\(nds Γ v)[j].2.ok (nds Γ v)[j].1.length/\(∀ σ∈(nds Γ v)[j].1,σ.size<=200)/\(nds Γ v)[j].2.size<=v.size/\((tyv Γ v).isSome=true->(tyv (nds Γ v)[j].1 (nds Γ v)[j].2).isSome=true)
 | .con nm τ,p,Γ,h,ho,hG,j,hj=>by
  obtain rfl:j=0:=by simp[nds]at hj;omega
  exact⟨h,ho,hG,ae _,id⟩
 | .var i,p,Γ,h,ho,hG,j,hj=>by
  obtain rfl:j=0:=by simp[nds]at hj;omega
  exact⟨h,ho,hG,ae _,id⟩
 | .abs τ x,p,Γ,h,ho,hG,j,hj=>by
  cases j with
  | zero=>exact⟨h,ho,hG,ae _,id⟩
  | succ j=>
   have:=Pj (v:=x) h.2 ho.2 (fun q hq=>by
    rcases ap.1 hq with rfl|hq
    ·exact ho.1
    ·exact hG q hq) j (by simp only[nds,List.length_cons]at hj;omega)
   obtain⟨a1,a2,a3,a5,a4⟩:=this
   have hp:p+(j+1)=p+1+j:=by omega
   refine⟨by rw[hp];exact a1,a2,a3,nLT a5 (by simp[Tv.size]),fun hs=>a4 ?_⟩
   simp only[tyv,Option.isSome_map]at hs
   exact hs
 | .app x y,p,Γ,h,ho,hG,j,hj=>by
  cases j with
  | zero=>exact⟨h,ho,hG,ae _,id⟩
  | succ j=>
   have hs:(tyv Γ (.app x y)).isSome=true->(tyv Γ x).isSome=true/\(tyv Γ y).isSome=true:=by
    intro e;simp only[tyv]at e
    split at e
    ·rename_i a r z h1 h2
     rw[h1,h2];exact⟨rfl,rfl⟩
    ·cases e
   by_cases hx:j<(nds Γ x).length
   ·obtain⟨a1,a2,a3,a5,a4⟩:=Pj (v:=x) h.2.1 ho.1 hG j hx
    have hp:p+(j+1)=p+1+j:=by omega
    have e:(nds Γ (.app x y))[j+1]=(nds Γ x)[j]:=by simp only[nds,List.getElem_cons_succ];exact List.getElem_append_left hx
    rw[e];exact⟨by rw[hp];exact a1,a2,a3,nLT a5 (by simp only[Tv.size];omega),fun k=>a4 (hs k).1⟩
   ·have hl:=NJ Γ x
    have hj2:j-x.size<(nds Γ y).length:=by simp only[nds,List.length_cons,List.length_append]at hj;omega
    obtain⟨a1,a2,a3,a5,a4⟩:=Pj (v:=y) h.2.2 ho.2 hG (j-x.size) hj2;have hp:p+(j+1)=p+1+x.size+(j-x.size):=by omega
    have e:(nds Γ (.app x y))[j+1]=(nds Γ y)[j-x.size]:=by
     simp only[nds,List.getElem_cons_succ];rw[List.getElem_append_right oG];simp only[hl]
    rw[e];exact⟨by rw[hp];exact a1,a2,a3,nLT a5 (by simp only[Tv.size];omega),fun k=>a4 (hs k).2⟩
def TyAt(l:List Rw)(p:Nat)(τ:Ts):Prop:=∀ Γ v,J9 l p Γ v->tyv Γ v=some τ
theorem xv{α:Type}{o:Option α}{a b:α}(h:o=some a)(k:o=some b):a=b:=Option.some.inj (h.symm.trans k)
theorem TyAt.con{l:List Rw}{p:Nat}{r:Rw}{τ:Ts}(h:l[p]? =some r)(hk:r.kind=1)(ht:r.typ=τ.sm):TyAt l p τ:=by
 intro Γ v hv;cases v with
 | con nm σ=>
  obtain⟨r',h1,_,h2⟩:=hv;cases xv h h1;rw[Ts.sm_inj (h2.symm.trans ht)];rfl
 | var i=>obtain⟨r',h1,h2,_⟩:=hv;cases xv h h1;rw[hk]at h2;cases h2
 | abs σ x=>obtain⟨⟨r',h1,h2,_⟩,_⟩:=hv;cases xv h h1;rw[hk]at h2;cases h2
 | app x y=>obtain⟨⟨r',h1,h2,_⟩,_⟩:=hv;cases xv h h1;rw[hk]at h2;cases h2
theorem Chn.uniq{l:List Rw}{u:Int}{Γ Δ:List Ts}(h:Chn l u Γ)(k:Chn l u Δ):Γ=Δ:=by
 induction h generalizing Δ with
 | nil=>
  generalize e:(-1:Int)=z at k
  cases k with
  | nil=>rfl
  | @abs u=>omega
  | @app u=>omega
 | @abs u r τ Γ h hk ht hu hc ih=>
  generalize e:(u:Int)=z at k
  cases k with
  | nil=>omega
  | @abs u2 r2 τ2 Γ2 h2 hk2 ht2 hu2 hc2=>
   obtain rfl:u=u2:=by omega
   cases xv h h2;rw[ih hc2,Ts.sm_inj (ht.symm.trans ht2)]
  | @app u2 r2 Γ2 h2 hk2 hu2 hc2=>
   obtain rfl:u=u2:=by omega
   cases xv h h2;exact absurd hk hk2
 | @app u r Γ h hk hu hc ih=>
  generalize e:(u:Int)=z at k
  cases k with
  | nil=>omega
  | @abs u2 r2 τ2 Γ2 h2 hk2 ht2 hu2 hc2=>
   obtain rfl:u=u2:=by omega
   cases xv h h2;exact absurd hk2 hk
  | @app u2 r2 Γ2 h2 hk2 hu2 hc2=>
   obtain rfl:u=u2:=by omega
   cases xv h h2;exact ih hc2
theorem TyAt.var{l:List Rw}{p i:Nat}{r:Rw}{τ:Ts}{Γ:List Ts}(h:l[p]? =some r)(hk:r.kind=2)(hi:r.index=i)(hc:Chn l r.up Γ)(ht:Γ[i]? =some τ):TyAt l p τ:=by
 intro Δ v hv;cases v with
 | con nm σ=>obtain⟨r',h1,h2,_⟩:=hv;cases xv h h1;rw[hk]at h2;cases h2
 | var j=>
  obtain⟨r',h1,_,h2,_,h3⟩:=hv;cases xv h h1;rw[hi]at h2;rw[show j=i by omega,<- hc.uniq h3];exact ht
 | abs σ x=>obtain⟨⟨r',h1,h2,_⟩,_⟩:=hv;cases xv h h1;rw[hk]at h2;cases h2
 | app x y=>obtain⟨⟨r',h1,h2,_⟩,_⟩:=hv;cases xv h h1;rw[hk]at h2;cases h2
theorem TyAt.abs{l:List Rw}{p:Nat}{r:Rw}{τ ρ:Ts}(h:l[p]? =some r)(hk:r.kind=3)(ht:r.typ=τ.sm)(hx:TyAt l (p+1) ρ):TyAt l p (.f τ ρ):=by
 intro Γ v hv;cases v with
 | con nm σ=>obtain⟨r',h1,h2,_⟩:=hv;cases xv h h1;rw[hk]at h2;cases h2
 | var i=>obtain⟨r',h1,h2,_⟩:=hv;cases xv h h1;rw[hk]at h2;cases h2
 | abs σ x=>
  obtain⟨⟨r',h1,h2,h3,_⟩,h4⟩:=hv;cases xv h h1;show (tyv (σ::Γ) x).map (Ts.f σ)=_;rw[hx _ _ h4,Ts.sm_inj (h3.symm.trans ht)];rfl
 | app x y=>obtain⟨⟨r',h1,h2,_⟩,_⟩:=hv;cases xv h h1;rw[hk]at h2;cases h2
theorem TyAt.app{l:List Rw}{p q:Nat}{r:Rw}{a ρ:Ts}(h:l[p]? =some r)(hk:r.kind=4)(hq:r.kids= [((p+1:Nat):Int),(q:Int)])(hx:TyAt l (p+1) (.f a ρ))(hy:TyAt l q a):TyAt l p ρ:=by
 intro Γ v hv;cases v with
 | con nm σ=>obtain⟨r',h1,h2,_⟩:=hv;cases xv h h1;rw[hk]at h2;cases h2
 | var i=>obtain⟨r',h1,h2,_⟩:=hv;cases xv h h1;rw[hk]at h2;cases h2
 | abs σ x=>obtain⟨⟨r',h1,h2,_⟩,_⟩:=hv;cases xv h h1;rw[hk]at h2;cases h2
 | app x y=>
  obtain⟨⟨r',h1,_,h2⟩,h3,h4⟩:=hv;cases xv h h1;rw[hq]at h2;simp only[List.cons.injEq,and_true,true_and]at h2;rw[show p+1+x.size=q by omega]at h4;simp only[tyv,hx _ _ h3,hy _ _ h4];rw[if_pos (Ts.eqb_iff.2 rfl)]
theorem ty_no{l:List Rw}{p q:Nat}{r:Rw}{α β:Ts}{Γ:List Ts}{v:Tv}(hv:J9 l p Γ v)(h:l[p]? =some r)(hk:r.kind=4)(hq:r.kids= [((p+1:Nat):Int),(q:Int)])(hx:TyAt l (p+1) α)(hy:TyAt l q β)(hn:∀ ρ:Ts,α≠Ts.f β ρ):tyv Γ v=none:=by
 cases v with
 | con nm σ=>obtain⟨r',h1,h2,_⟩:=hv;cases xv h h1;rw[hk]at h2;cases h2
 | var i=>obtain⟨r',h1,h2,_⟩:=hv;cases xv h h1;rw[hk]at h2;cases h2
 | abs σ x=>obtain⟨⟨r',h1,h2,_⟩,_⟩:=hv;cases xv h h1;rw[hk]at h2;cases h2
 | app x y=>
  obtain⟨⟨r',h1,_,h2⟩,h3,h4⟩:=hv;cases xv h h1;rw[hq]at h2;simp only[List.cons.injEq,and_true,true_and]at h2;rw[show p+1+x.size=q by omega]at h4;simp only[tyv,hx _ _ h3,hy _ _ h4];cases α with
  | b t=>rfl
  | f a ρ=>
   by_cases e:a=β
   ·subst e;exact absurd rfl (hn ρ)
   ·simp only[]
    rw[if_neg (fun k=>e (Ts.eqb_iff.1 k))]
theorem own_top{w:World}{base sz cap n g:Nat}{e:TypeId}{xs ys:List Value}{m:Nat}(h:Own w base e sz (some ⟨g,0,none⟩) m cap (xs++ys))(hx:xs.length=n*sz):w.rangeAt g (0+n*sz) ys:=fun i v hv=>by
 have hi:i<ys.length:=(av.1 hv).1
 obtain⟨g',e,_,_,hc⟩:=h.cell (by intro e;rw[List.append_eq_nil_iff]at e;rw[e.2]at hi;simp at hi)
 cases e
 have:=hc (xs.length+i) v (by rw[List.getElem?_append_right oG];rw[Nat.add_sub_cancel_left];exact hv)
 rw[hx]at this
 rw[Nat.zero_add]
 exact this
theorem Blk.sub{w:World}{b t o n:Nat}{cs:Array Value}{xs:List Value}(h:Blk w b t cs)(hx:(cs.toList.drop o).take n=xs):w.rangeAt b o xs:=h.range (fun j v hj=>by
 subst hx
 rw[List.getElem?_take]at hj
 split at hj
 ·rw[List.getElem?_drop]at hj
  simpa using hj
 ·cases hj)
inductive StkS(w:World):List (Sm×Nat)->List Value->Prop
 | nil:StkS w [] []
 | snoc {l:List (Sm×Nat)} {vs:List Value} {s:Sm} {d:Nat} {A:Option Addr} {c:Nat} (h:StkS w l vs) (hs:SimsIn w A s.args):StkS w (l++[(s,d)]) (vs++[.string s.base,.slice A s.args.length c,.int .i64 d])
theorem StkS.len{w:World}{l:List (Sm×Nat)}{vs:List Value}(h:StkS w l vs):vs.length=l.length*3:=by
 induction h with
 | nil=>rfl
 | snoc h hs ih=>simp only[List.length_append,ih,List.length_cons,List.length_nil];omega
theorem StkS.pop{w:World}{l:List (Sm×Nat)}{vs:List Value}(h:StkS w l vs)(hl:0<l.length):∃ l' vs' s d A c,l=l'++[(s,d)]/\vs=vs'++[.string s.base,.slice A s.args.length c,.int .i64 (d:Nat)]/\StkS w l' vs'/\SimsIn w A s.args:=by
 cases h with
 | nil=>simp at hl
 | snoc h hs=>exact⟨_,_,_,_,_,_,rfl,rfl,h,hs⟩
inductive StkT(w:World):List (Tm×Nat×Nat)->List Value->Prop
 | nil:StkT w [] []
 | snoc {l:List (Tm×Nat×Nat)} {vs:List Value} {t:Tm} {d b:Nat} {A B:Option Addr} {c m:Nat} (h:StkT w l vs) (hs:SimsIn w A t.type.args) (ht:TmsIn w B t.args):StkT w (l++[(t,d,b)]) (vs++[.int .i64 t.kind,.string t.name,.int .i64 t.index,.string t.type.base,.slice A t.type.args.length c,.slice B t.args.length m,.int .i64 d,.int .i64 b])
theorem StkT.len{w:World}{l:List (Tm×Nat×Nat)}{vs:List Value}(h:StkT w l vs):vs.length=l.length*8:=by
 induction h with
 | nil=>rfl
 | snoc h hs ht ih=>simp only[List.length_append,ih,List.length_cons,List.length_nil];omega
theorem StkT.pop{w:World}{l:List (Tm×Nat×Nat)}{vs:List Value}(h:StkT w l vs)(hl:0<l.length):∃ l' vs' t d b A B c m,l=l'++[(t,d,b)]/\vs=vs'++[.int .i64 t.kind,.string t.name,.int .i64 t.index,.string t.type.base,.slice A t.type.args.length c,.slice B t.args.length m,.int .i64 (d:Nat),.int .i64 (b:Nat)]/\StkT w l' vs'/\SimsIn w A t.type.args/\TmsIn w B t.args:=by
 cases h with
 | nil=>simp at hl
 | snoc h hs ht=>exact⟨_,_,_,_,_,_,_,_,_,rfl,rfl,h,hs,ht⟩
theorem Ky{α:Type}(l:List α)(x:α):(l++[x]).reverse=x::l.reverse:=by simp
theorem Ts.kids_len(τ:Ts):τ.sm.args.length<=2:=by cases τ<;>simp[Ts.sm,Sm.args]
def Ts.kids:Ts->List Ts
 | .b _=>[]
 | .f x y=>[x,y]
theorem Ts.kids_sm(τ:Ts):τ.sm.args=τ.kids.map Ts.sm:=by cases τ<;>rfl
theorem Ts.kids_lt{τ x:Ts}(h:x∈τ.kids):x.size<τ.size:=by
 cases τ with
 | b t=>cases h
 | f a b=>
  simp only[Ts.kids,List.mem_cons,List.not_mem_nil,or_false]at h;rcases h with rfl|rfl<;>simp only[Ts.size]<;>omega
theorem Ts.ext{a b:Ts}(hb:a.sm.base=b.sm.base)(hk:a.kids=b.kids):a=b:=by
 cases a with
 | b s=>cases b with
  | b t=>cases s<;>cases t<;>first|rfl|(exfalso;revert hb;simp[Ts.sm,Sm.base,smE,smT])
  | f x y=>cases hk
 | f x y=>cases b with
  | b t=>cases hk
  | f u v=>simp only[Ts.kids,List.cons.injEq,and_true]at hk;rw[hk.1,hk.2]
theorem FJ{w:World}{A:Option Addr}{τ:Ts}(h:SimsIn w A τ.sm.args){k:Nat}(hk:k<τ.kids.length):∃ b o A' c,A=some ⟨b,o,none⟩/\b<w.heap.size/\w.rangeAt b (o+k*2) [Value.string (τ.kids[k]).sm.base,.slice A' (τ.kids[k]).sm.args.length c]/\SimsIn w A' (τ.kids[k]).sm.args:=by
 obtain⟨b,o,A',c,h1,h2,h3,h4⟩:=h.at_ (k:=k) (by rw[Ts.kids_sm,List.length_map];exact hk);have e:τ.sm.args[k]'(by rw[Ts.kids_sm,List.length_map];exact hk)=(τ.kids[k]).sm:=by simp only[Ts.kids_sm,List.getElem_map]
 rw[e]at h3 h4;exact⟨b,o,A',c,h1,h2,h3,h4⟩
theorem take_kid{a b:List Ts}{j:Nat}(h:a.take j=b.take j)(ha:j<a.length)(hb:j<b.length)(e:a[j]=b[j]):a.take (j+1)=b.take (j+1):=by
 rw[List.take_succ_eq_append_getElem ha,List.take_succ_eq_append_getElem hb,h,e]
end Go.Proofs.YtiofaflajkgiaaaGreatDoor
