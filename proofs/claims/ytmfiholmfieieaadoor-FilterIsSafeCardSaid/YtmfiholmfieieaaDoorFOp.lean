/- What these functions compute, at every world: equal.Small, , derive.graphOf; and plain laws. -/
import Derived.Test.YtmfiholmfieieaaDoorU
import Derived.Test.YtmfiholmfieieaaDoorZst
import Derived.Test.YtmfiholmfieieaaDoorDSmC
import Derived.Test.YtmfiholmfieieaaDoorDSh
import Derived.Test.YtmfiholmfieieaaDoorWRc
import Derived.Test.YtmfiholmfieieaaDoorNTw
import Derived.Test.YtmfiholmfieieaaDoorGro
import Derived.Test.YtmfiholmfieieaaDoorFz
import Derived.Test.YtmfiholmfieieaaDoorComp
import Derived.Test.YtmfiholmfieieaaDoorEng3
namespace Go.Proofs.YtmfiholmfieieaaDoor
open Go.RowKit
variable {A AF AR AS AT AX:Option Addr}{N b base bd bu cap cf cr cst ct cx i n:Nat}{S:List Nat}{e:TypeId}{fs:List Ft}{l:List Ty}{rs:List Rl}{st:List Nd}{vs:List Value}{w:World}{xs:List Lx}
theorem sz32:(Tryd.prog.info? 32).map (·.size)=some 5:=by kernel_rfl
theorem sz83_DSm:(Tryd.prog.info? 83).map (·.size)=some 3:=by kernel_rfl
theorem ze32:(Tryd.prog.info? 32).map (·.zero)=some (some (.agg cH)):=by kernel_rfl
theorem ze83_DSm:(Tryd.prog.info? 83).map (·.zero)=some (some (.agg #[.string ⟨#[]⟩,.int .i64 0,.int .i64 0])):=by kernel_rfl
theorem ze9:(Tryd.prog.info? 9).map (·.zero)=some (some (.string ⟨#[]⟩)):=by kernel_rfl
set_option maxHeartbeats 8000000 in
theorem small_d(w:World):Calls Tryd.prog 6 #[] w fun e w'=>(∃ v,e= .returned v/\GmD smallT qX qv YK PX w w' v)/\Bel w w':=by
 refine enT Tryd.func6 Tryd.ntmps6 rfl rfl fun hB=>?_;refine zn2 ?_;refine qw (cs:=cH) ze32 rfl (fun b0 w1 ao s1 hr=>?_);have lo0:=hB.ob hr;refine zn4 ?_;refine aZ H1 (gQ _ _) rfl (fun w2 s2=>?_);refine aZ H1 (gQ _ _) rfl (fun w3 s3=>?_);refine qw (cs:=#[.string ⟨#[]⟩,.slice none 0 0]) vk rfl (fun b1 w4 bk s4 hr=>?_);have:=ao.u.ob hr;have lo1:=hB.u.ob hr;refine qw (cs:=#[.string ⟨#[]⟩,.slice none 0 0]) vk rfl (fun b2 w5 br s5 hr=>?_);have:=ao.u.ob hr;have:=bk.ob hr;have lo2:=hB.u.ob hr;refine zJ bk.u (fun w6 hq s6=>?_);replace bk:=hq;refine zJ br.u (fun w7 hq s7=>?_);replace br:=hq;refine zn6 ?_;refine zX VV (Zy [] (Ts.b false) (Ts.b true) _ _ _ _ _ _ _ (by simp) (Fz.triv _ _ TS (fun _=>SimsIn.nil)) (Fz.triv _ _ TS (fun _=>SimsIn.nil))) rfl (fun e' w8 hr=>?_);obtain⟨⟨_,rfl,a9,a7,n12,rfl,a4⟩,s8⟩:=hr;replace s8:=sB s8;refine⟨_,rfl,?_⟩;refine yx (cs:=#[.string ⟨#[]⟩,.slice none 0 0]) vk rfl (fun _=>rfl) (fun _=>rfl) yk rfl y5 (fun b3 w10 c2 s9 hr=>?_);refine zn6 ?_;replace a4:=a4.tr0 s9;refine zX VV (Zy [] (Ts.b false) (Ts.f (Ts.b false) (Ts.b true)) _ _ _ _ _ _ _ (by simp) (Fz.triv _ _ TS (fun _=>SimsIn.nil)) a4) rfl (fun e' w11 hr=>?_);obtain⟨⟨_,rfl,a8,a6,n15,rfl,an⟩,bq⟩:=hr;replace bq:=sB bq;refine⟨_,rfl,?_⟩;refine yx (cs:=#[.string ⟨#[]⟩,.slice none 0 0]) vk rfl (fun _=>rfl) (fun _=>rfl) yk rfl y5 (fun b4 w13 c1 bw hr=>?_);refine zn4 ?_;refine qw (cs:=cH) ze32 rfl (fun b5 w14 a2 bo hr=>?_);have bd:b0<b5:=ao.u.ob hr;have bc:b1<b5:=bk.u.ob hr;have bb:b2<b5:=br.u.ob hr;have ba:b3<b5:=c2.u.ob hr;have b9:b4<b5:=c1.ob hr;have lo5:=hB.u.ob hr;refine zn4 ?_;refine qj (cs:=#[_,_,_,_,_,_,_,_,_,_,_,_,_,_,_]) [(0,.string _),(1,.string _),(2,.string _),(3,.string _),(4,.string _),(5,.string _),(6,.string _),(7,.string _),(8,.string _),(9,.string _),(10,.string _),(11,.string _),(12,.string _),(13,.string _),(14,.string _)] rfl Tryd.underlying81 sz9_DHo ze9 dE dE kR rfl (fun b16 w15 cc bj hr=>?_);refine qj (cs:=#[_,_,_,_,_,_,_,_,_,_,_,_,_,_,_]) [(0,.int _ _),(1,.int _ _),(2,.int _ _),(3,.int _ _),(4,.int _ _),(5,.int _ _),(6,.int _ _),(7,.int _ _),(8,.int _ _),(9,.int _ _),(10,.int _ _),(11,.int _ _),(12,.int _ _),(13,.int _ _),(14,.int _ _)] rfl U36 SQ zW dE dE kR rfl (fun b17 w16 cb bi hr=>?_)
 refine wl (PY (v0:= .string _) (v1:= .int _ _) (v2:= .int _ _) (fun v0 v1 v2=>#[v0,v1,v2]) rfl rfl rfl kR) (wl (PY (v0:= .string _) (v1:= .int _ _) (v2:= .int _ _) (fun v0 v1 v2=>#[v0,v1,v2]) rfl rfl rfl kR) (wl (PY (v0:= .string _) (v1:= .int _ _) (v2:= .int _ _) (fun v0 v1 v2=>#[v0,v1,v2]) rfl rfl rfl kR) (wl (PY (v0:= .string _) (v1:= .int _ _) (v2:= .int _ _) (fun v0 v1 v2=>#[v0,v1,v2]) rfl rfl rfl kR) (wl (PY (v0:= .string _) (v1:= .int _ _) (v2:= .int _ _) (fun v0 v1 v2=>#[v0,v1,v2]) rfl rfl rfl kR) ?_))));refine qj (cs:=#[_,_,_,_,_,_,_,_,_,_,_,_,_,_,_]) [(0,.agg _),(1,.agg _),(2,.agg _),(3,.agg _),(4,.agg _)] rfl Tryd.underlying23 sz83_DSm ze83_DSm dE dE kR rfl (fun a5 w17 bx bh hr=>?_);refine zX kR (Cy (some ⟨b16,0,none⟩) (some ⟨b17,0,none⟩) _ _ _ _ _ LZ Ly _ (Fq LZ cc.u) (qx Ly cb.u dE) dE rfl) rfl (fun e' w18 hr=>?_);obtain⟨⟨At,a1,rfl,bn⟩,b8⟩:=hr;replace b8:=sB b8;replace bx:=bx.tr0 b8;have bz:=(Fz.blk (X:=[]) (ts:=TS) bx (by simp) (E7 dE dE dE _)).imp (fun _ h=>TQ qX h dE);replace bn:Fz [] _ TS w18 (fun w=>TypesIn w At smallT):=bn;refine⟨_,rfl,?_⟩;refine zn1 ?_;replace a2:=a2.tr0 (bj.t (bi.t (bh.t b8)));refine Hy a2 rfl rfl IJ (by first|decide|simp) y5 rfl (fun w19 hq be=>?_);replace a4:=a4.tr0 (bq.t (bw.t (bo.t (bj.t (bi.t (bh.t b8))))));replace a4:=a4.sp1 be a2 (.inl dE);replace an:=an.tr0 (bw.t (bo.t (bj.t (bi.t (bh.t b8)))));replace an:=an.sp1 be a2 (.inl dE);replace bn:=bn.sp1 be a2 (.inl dE);replace bz:=bz.sp1 be a2 (.inl dE);replace a2:=hq;refine zn4 ?_;refine zX kR (Gy _) rfl (fun e' w20 hr=>?_);obtain⟨⟨bm,csm,nm,rfl,hbm,hTm⟩,b6⟩:=hr;replace b6:=sB b6;refine⟨_,rfl,?_⟩;refine zn4 ?_;refine yX (rgq [] 27 68) (fun g w'=>Same [b5] w20 w'/\∃ a3 cr nRl,w20.heap.size<=a3/\Blk w' a3 66 cr/\Fz [] nRl TS w' (fun w=>RlCs w qv cr.toList)/\Blk w' b5 32 #[.slice At 15 a1,.slice (some ⟨a5,0,none⟩) 5 5,.slice (some ⟨a3,0,none⟩) 6 6,.slice none 0 0,.slice none 0 0]) ?_ (fun g7 w21 hI=>?_)
 ·replace a2:=a2.tr0 b6;have hh:=fun f Q k0 k1 kq=>small_r7 a2 hbm hTm f Q k0 k1 kq
  exact hh _ _ (by rfl) (by rfl) (by intro d;cases d<;>exact fun _ _ _ _ h=>h)
 obtain⟨bf,a3,cr,nRl,c3,b7,hRl,ca⟩:=hI;have c7:b5<a3:=nLL a2.u.lt c3;replace hB:=(((((hB.tr0 (s1.t (s2.t (s3.t (s4.t s5))))).tr1 s6 lo1).tr1 s7 lo2).tr0 (s8.t (s9.t (bq.t (bw.t (bo.t (bj.t (bi.t (bh.t b8))))))))).tr1 be lo5).tr0 b6;have lo93:=nLT (Bel.size hB) c3;replace hB:=hB.tr1 bf lo5;replace ao:=(((((ao.tr0 (s2.t (s3.t (s4.t s5)))).tr1 s6 oG).tr1 s7 oG).tr0 (s8.t (s9.t (bq.t (bw.t (bo.t (bj.t (bi.t (bh.t b8))))))))).tr1 be oG).tr0 b6;replace ao:=ao.tr1 bf oG;replace bk:=(((bk.tr1 s7 oG).tr0 (s8.t (s9.t (bq.t (bw.t (bo.t (bj.t (bi.t (bh.t b8))))))))).tr1 be oG).tr0 b6;replace bk:=bk.tr1 bf oG;replace br:=((br.tr0 (s8.t (s9.t (bq.t (bw.t (bo.t (bj.t (bi.t (bh.t b8))))))))).tr1 be oG).tr0 b6;replace br:=br.tr1 bf oG;replace c2:=((c2.tr0 (bq.t (bw.t (bo.t (bj.t (bi.t (bh.t b8))))))).tr1 be oG).tr0 b6;replace c2:=c2.tr1 bf oG;replace c1:=((c1.tr0 (bo.t (bj.t (bi.t (bh.t b8))))).tr1 be oG).tr0 b6;replace c1:=c1.tr1 bf oG;replace a2:=a2.tr0 b6;replace bn:=bn.tr0 b6;replace bn:=bn.sp1 bf a2 (.inl dE);replace bz:=bz.tr0 b6;replace bz:=bz.sp1 bf a2 (.inl dE);replace a4:=a4.tr0 b6;replace a4:=a4.sp1 bf a2 (.inl dE);replace an:=an.tr0 b6;replace an:=an.sp1 bf a2 (.inl dE);replace a2:=ca;refine zn3 ?_;refine wl (LY rfl) (zn4 ?_);obtain⟨base,ab⟩:∃ b,b=w21.heap.size:=⟨_,rfl⟩
 have hI:SmSt smallT qX qv b0 b1 b2 b3 b4 b5 a5 a3 base a1 a7 a6 At a9 a8 cr 0 OX w w21:=⟨⟨hB,aF ab,ao,bk,br,c2,c1,b7,by rw[ab];exact bn.and (bz.and hRl),by rw[ab];exact a4.up,by rw[ab];exact an.up,lo5,lo93,⟨bd,bc,bb,ba,b9,c7⟩,⟨by rw[ab];exact a2.lt,by rw[ab];exact b7.lt⟩⟩,none,0,[],_,a2,Own.nil _ _ _ _,Fz.triv [] _ TS (fun _=>LxData.nil)⟩
 refine yX [96,97,98,99,100,101] (fun g w'=>SmSt smallT qX qv b0 b1 b2 b3 b4 b5 a5 a3 base a1 a7 a6 At a9 a8 cr 1 M8 w w') ?_ (fun g9 w22 hI=>?_)
 ·have hh:=fun f Q k0 kq=>small_r9 hI f Q k0 kq
  exact hh _ _ (by rfl) (by intro d;cases d<;>exact fun _ _ _ _ h=>h)
 obtain hI:=hI;refine e_S (yz ?_);refine yX [102,103,104,105,106,107] (fun g w'=>SmSt smallT qX qv b0 b1 b2 b3 b4 b5 a5 a3 base a1 a7 a6 At a9 a8 cr 2 M7 w w') ?_ (fun g10 w23 hI=>?_)
 ·have hh:=fun f Q k0 kq=>small_r10 hI f Q k0 kq
  exact hh _ _ (by rfl) (by intro d;cases d<;>exact fun _ _ _ _ h=>h)
 obtain hI:=hI;refine e_S (yz ?_);refine yX [108,109,110,111,112] (fun g w'=>SmSt smallT qX qv b0 b1 b2 b3 b4 b5 a5 a3 base a1 a7 a6 At a9 a8 cr 3 M6 w w') ?_ (fun g11 w24 hI=>?_)
 ·have hh:=fun f Q k0 kq=>small_r11 hI f Q k0 kq
  exact hh _ _ (by rfl) (by intro d;cases d<;>exact fun _ _ _ _ h=>h)
 obtain hI:=hI;refine e_S (yz ?_);refine yX [113,114,115,116,117,118,119] (fun g w'=>SmSt smallT qX qv b0 b1 b2 b3 b4 b5 a5 a3 base a1 a7 a6 At a9 a8 cr 4 M5 w w') ?_ (fun g12 w25 hI=>?_)
 ·have hh:=fun f Q k0 k1 kq=>small_r12 hI f Q k0 k1 kq
  exact hh _ _ (by rfl) (by rfl) (by intro d;cases d<;>exact fun _ _ _ _ h=>h)
 obtain hI:=hI;refine e_S (yz ?_);refine yX [120,121,122,123,124,125,126] (fun g w'=>SmSt smallT qX qv b0 b1 b2 b3 b4 b5 a5 a3 base a1 a7 a6 At a9 a8 cr 5 M4 w w') ?_ (fun g13 w26 hI=>?_)
 ·have hh:=fun f Q k0 k1 kq=>small_r13 hI f Q k0 k1 kq
  exact hh _ _ (by rfl) (by rfl) (by intro d;cases d<;>exact fun _ _ _ _ h=>h)
 obtain hI:=hI;refine e_S (yz ?_);refine yX [127,128,129,130,131,132,133] (fun g w'=>SmSt smallT qX qv b0 b1 b2 b3 b4 b5 a5 a3 base a1 a7 a6 At a9 a8 cr 6 M3 w w') ?_ (fun g14 w27 hI=>?_)
 ·have hh:=fun f Q k0 k1 kq=>small_r14 hI f Q k0 k1 kq
  exact hh _ _ (by rfl) (by rfl) (by intro d;cases d<;>exact fun _ _ _ _ h=>h)
 obtain hI:=hI;refine e_S (yz ?_);refine yX [134,135,136,137,138,139,140] (fun g w'=>SmSt smallT qX qv b0 b1 b2 b3 b4 b5 a5 a3 base a1 a7 a6 At a9 a8 cr 7 M2 w w') ?_ (fun g15 w28 hI=>?_)
 ·have hh:=fun f Q k0 k1 kq=>small_r15 hI f Q k0 k1 kq
  exact hh _ _ (by rfl) (by rfl) (by intro d;cases d<;>exact fun _ _ _ _ h=>h)
 obtain hI:=hI;refine e_S (yz ?_);refine yX [141,142,143,144,145,146,147] (fun g w'=>SmSt smallT qX qv b0 b1 b2 b3 b4 b5 a5 a3 base a1 a7 a6 At a9 a8 cr 8 M1 w w') ?_ (fun g16 w29 hI=>?_)
 ·have hh:=fun f Q k0 k1 kq=>small_r16 hI f Q k0 k1 kq
  exact hh _ _ (by rfl) (by rfl) (by intro d;cases d<;>exact fun _ _ _ _ h=>h)
 obtain hI:=hI;refine e_S (yz ?_);refine yX [148,149,150,151,152,153,154] (fun g w'=>SmSt smallT qX qv b0 b1 b2 b3 b4 b5 a5 a3 base a1 a7 a6 At a9 a8 cr 9 IY w w') ?_ (fun g17 w30 hI=>?_)
 ·have hh:=fun f Q k0 k1 kq=>small_r17 hI f Q k0 k1 kq
  exact hh _ _ (by rfl) (by rfl) (by intro d;cases d<;>exact fun _ _ _ _ h=>h)
 obtain hI:=hI;refine e_S (yz ?_);refine yX [155,156,157,158,159,160,161] (fun g w'=>SmSt smallT qX qv b0 b1 b2 b3 b4 b5 a5 a3 base a1 a7 a6 At a9 a8 cr 10 Jw w w') ?_ (fun g18 w31 hI=>?_)
 ·have hh:=fun f Q k0 k1 kq=>small_r18 hI f Q k0 k1 kq
  exact hh _ _ (by rfl) (by rfl) (by intro d;cases d<;>exact fun _ _ _ _ h=>h)
 obtain hI:=hI;refine e_S (yz ?_);refine yX [162,163,164,165,166,167,168] (fun g w'=>SmSt smallT qX qv b0 b1 b2 b3 b4 b5 a5 a3 base a1 a7 a6 At a9 a8 cr 11 Jv w w') ?_ (fun g19 w32 hI=>?_)
 ·have hh:=fun f Q k0 k1 kq=>small_r19 hI f Q k0 k1 kq
  exact hh _ _ (by rfl) (by rfl) (by intro d;cases d<;>exact fun _ _ _ _ h=>h)
 obtain hI:=hI;refine e_S (yz ?_);refine yX [169,170,171,172,173,174,175] (fun g w'=>SmSt smallT qX qv b0 b1 b2 b3 b4 b5 a5 a3 base a1 a7 a6 At a9 a8 cr 12 Jk w w') ?_ (fun g20 w33 hI=>?_)
 ·have hh:=fun f Q k0 k1 kq=>small_r20 hI f Q k0 k1 kq
  exact hh _ _ (by rfl) (by rfl) (by intro d;cases d<;>exact fun _ _ _ _ h=>h)
 obtain hI:=hI;refine e_S (yz ?_);refine yX [176,177,178,179,180,181,182] (fun g w'=>SmSt smallT qX qv b0 b1 b2 b3 b4 b5 a5 a3 base a1 a7 a6 At a9 a8 cr 13 Jj w w') ?_ (fun g21 w34 hI=>?_)
 ·have hh:=fun f Q k0 k1 kq=>small_r21 hI f Q k0 k1 kq
  exact hh _ _ (by rfl) (by rfl) (by intro d;cases d<;>exact fun _ _ _ _ h=>h)
 obtain hI:=hI;refine e_S (yz ?_);refine yX [183,184,185,186,187,188,189] (fun g w'=>SmSt smallT qX qv b0 b1 b2 b3 b4 b5 a5 a3 base a1 a7 a6 At a9 a8 cr 14 Jx w w') ?_ (fun g22 w35 hI=>?_)
 ·have hh:=fun f Q k0 k1 kq=>small_r22 hI f Q k0 k1 kq
  exact hh _ _ (by rfl) (by rfl) (by intro d;cases d<;>exact fun _ _ _ _ h=>h)
 obtain hI:=hI;refine e_S (yz ?_);refine yX [190,191,192,193,194,195,196] (fun g w'=>SmSt smallT qX qv b0 b1 b2 b3 b4 b5 a5 a3 base a1 a7 a6 At a9 a8 cr 15 Jq w w') ?_ (fun g23 w36 hI=>?_)
 ·have hh:=fun f Q k0 k1 kq=>small_r23 hI f Q k0 k1 kq
  exact hh _ _ (by rfl) (by rfl) (by intro d;cases d<;>exact fun _ _ _ _ h=>h)
 obtain hI:=hI;refine e_S (yz ?_);refine yX [197,198,199,200,201,202,203] (fun g w'=>SmSt smallT qX qv b0 b1 b2 b3 b4 b5 a5 a3 base a1 a7 a6 At a9 a8 cr 16 Jz w w') ?_ (fun g24 w37 hI=>?_)
 ·have hh:=fun f Q k0 k1 kq=>small_r24 hI f Q k0 k1 kq
  exact hh _ _ (by rfl) (by rfl) (by intro d;cases d<;>exact fun _ _ _ _ h=>h)
 obtain hI:=hI;refine e_S (yz ?_);refine yX [204,205,206,207,208,209,210] (fun g w'=>SmSt smallT qX qv b0 b1 b2 b3 b4 b5 a5 a3 base a1 a7 a6 At a9 a8 cr 17 J9 w w') ?_ (fun g25 w38 hI=>?_)
 ·have hh:=fun f Q k0 k1 kq=>small_r25 hI f Q k0 k1 kq
  exact hh _ _ (by rfl) (by rfl) (by intro d;cases d<;>exact fun _ _ _ _ h=>h)
 obtain hI:=hI;refine e_S (yz ?_);refine yX (rgq [] 211 8) (fun g w'=>SmSt smallT qX qv b0 b1 b2 b3 b4 b5 a5 a3 base a1 a7 a6 At a9 a8 cr 18 J8 w w') ?_ (fun g26 w39 hI=>?_)
 ·have hh:=fun f Q k0 k1 kq=>small_r26 hI f Q k0 k1 kq
  exact hh _ _ (by rfl) (by rfl) (by intro d;cases d<;>exact fun _ _ _ _ h=>h)
 obtain hI:=hI;refine e_S (yz ?_);refine yX (rgq [] 219 10) (fun g w'=>SmSt smallT qX qv b0 b1 b2 b3 b4 b5 a5 a3 base a1 a7 a6 At a9 a8 cr 19 J7 w w') ?_ (fun g27 w40 hI=>?_)
 ·have hh:=fun f Q k0 k1 kq=>small_r27 hI f Q k0 k1 kq
  exact hh _ _ (by rfl) (by rfl) (by intro d;cases d<;>exact fun _ _ _ _ h=>h)
 obtain hI:=hI;refine e_S (yz ?_);refine yX (rgq [] 229 11) (fun g w'=>SmSt smallT qX qv b0 b1 b2 b3 b4 b5 a5 a3 base a1 a7 a6 At a9 a8 cr 20 J6 w w') ?_ (fun g28 w41 hI=>?_)
 ·have hh:=fun f Q k0 k1 k2 kq=>small_r28 hI f Q k0 k1 k2 kq
  exact hh _ _ (by rfl) (by rfl) (by rfl) (by intro d;cases d<;>exact fun _ _ _ _ h=>h)
 obtain hI:=hI;refine e_S (yz ?_);refine yX (rgq [] 240 11) (fun g w'=>SmSt smallT qX qv b0 b1 b2 b3 b4 b5 a5 a3 base a1 a7 a6 At a9 a8 cr 21 PZ w w') ?_ (fun g29 w42 hI=>?_)
 ·have hh:=fun f Q k0 k1 k2 kq=>small_r29 hI f Q k0 k1 k2 kq
  exact hh _ _ (by rfl) (by rfl) (by rfl) (by intro d;cases d<;>exact fun _ _ _ _ h=>h)
 obtain hI:=hI;refine e_S (yz ?_);obtain⟨hC,A,cap,xs,nL,a2,ho,hL⟩:=hI;have hB:=hC.bel;have ao:=hC.k0;have b7:=hC.k93;have hD:=hC.dt;have lo5:=hC.lo5;obtain⟨o0,_,_,_,_,o9⟩:=hC.o;obtain⟨l5,l9⟩:=hC.l;refine Zx ?_;refine qj (cs:=#[_]) [(0,.int _ _)] rfl U36 SQ zW dE dE kR rfl (fun b251 w43 c5 bv hr=>?_);refine qj (cs:=#[_]) [(0,.slice _ _ _)] rfl U86 F2 xq dE dE kR rfl (fun b252 w44 c4 bu hr=>?_);refine zX H0 (gZ _ _ [[6]] _ (qY (rs:=[[6]]) c4 (.cons ⟨_,_,rfl,qx [6] c5.u dE,by decide,by decide⟩ .nil) dE)) rfl (fun e' w45 hr=>?_);obtain⟨⟨Ast,cst,rfl,c6⟩,bg⟩:=hr;replace bg:=sB bg;refine⟨_,rfl,?_⟩;refine zn1 ?_;replace a2:=a2.tr0 (bv.t (bu.t bg));refine Hy a2 rfl rfl F3 (by first|decide|simp) y5 rfl (fun w46 hq bt=>?_);replace hD:=hD.tr0 (bv.t (bu.t bg));replace hD:=hD.sp1 bt a2 (.inl dE);replace ho:=ho.tr0 (bv.t (bu.t bg));replace ho:=ho.tq bt;replace hL:=hL.tr0 (bv.t (bu.t bg));replace hL:=hL.sp1 bt a2 (.inl dE);replace c6:=c6.sp1 bt a2 (.inl dE);replace a2:=hq;refine zn5 ?_;refine zJ ao.u (fun w47 hq c0=>?_);replace ao:=(ao.tr0 (bv.t (bu.t bg))).tr1 bt oG;replace hD:=hD.sp1 c0 ao (.inl dE);replace ho:=ho.tq c0;replace hL:=hL.sp1 c0 ao (.inl dE);replace c6:=c6.sp1 c0 ao (.inl dE);replace ao:=hq;refine zn3 ?_;refine xX (.inl rfl) rfl (zw U32 rfl rfl ao.range0 sz32) ?_;have c8:∀ t∈[66],t∈TS:=by decide
 have c9:=((hD.sub c8).and ((((ho.fz (ts:=[66]) (E7 dE dE dE)).and (hL.sub c8)).imp (fun _ h=>gof_lexes h.1 h.2)).and (c6.sub c8))).imp (Q:=fun w=>TypesIn w At smallT/\FeatsIn w (some ⟨a5,0,none⟩) qX/\RlCs w qv cr.toList/\LexesIn w A YK/\NodesIn w Ast PX) (fun _ h=>⟨h.1.1,h.1.2.1,h.1.2.2,h.2.1,h.2.2⟩);replace hB:=((hB.tr0 (bv.t (bu.t bg))).tr1 bt lo5).tr1 c0 lo0;replace b7:=((b7.tr0 (bv.t (bu.t bg))).tr1 bt oG).tr1 c0 oG;exact⟨⟨_,rfl,At,a1,some ⟨a5,0,none⟩,5,a3,cr,A,cap,Ast,cst,_,rfl,hC.lo93,(show (YK).length<=cap from ho.cap_le),b7,c9⟩,hB⟩
theorem Lv:gramB smallT qX smallRs smallXs PX=true:=by decide +kernel
theorem Fx:x5 smallT qX qv YK PX=(0,0):=gram_ok Lv
section
section
variable {l:List Ty} {fs:List Ft} {rs:List Rl} {xs:List Lx} {st:List Nd}
theorem gr_jok(h:(x5 l fs rs xs st).1=0)(hi:i<rs.length):(qz l fs).1=0/\Jok l fs (rs[i]).kids (rs[i]).gr:=by
 have h1:(qz l fs).1=0:=by
  refine az (fun e=>?_);rw[N2 e]at h;exact e h
 have h2:¬fs.length<=3:=fun e=>by rw[Dw h1 e]at h;cases h
 have h3:¬(40<rs.length\/100<xs.length):=fun e=>by rw[N1 h1 h2 e]at h;cases h
 have h4:(qJ (u6 l fs rs) 0 rs.length).1=0:=by
  refine az (fun e=>?_);rw[KW (c:=(qJ (u6 l fs rs) 0 rs.length).1) (i:=(qJ (u6 l fs rs) 0 rs.length).2) h1 h2 h3 rfl e]at h;exact e h
 have q5:=XK _ _ h4 i (ad _) oG;have q6:yQ (rs[i]).name=true:=by
  cases e:yQ (rs[i]).name with
  | true=>rfl
  | false=>rw[rn10 hi e]at q5;cases q5
 have q7:oX ((rs.take i).map (·.name)) (rs[i]).name=false:=by
  cases e:oX ((rs.take i).map (·.name)) (rs[i]).name with
  | false=>rfl
  | true=>rw[rn7 hi q6 e]at q5;cases q5
 rw[rnF hi q6 q7]at q5;have q8:¬Vv rs[i]:=fun e=>by rw[LW e]at q5;cases q5
 have q9:(xy l fs (rs[i]).gr).1=0:=by
  refine az (fun e=>?_);rw[rl_gr q8 e]at q5;exact e q5
 have q10:uK (rs[i]).gr (rs[i]).kids=true:=by
  cases e:uK (rs[i]).gr (rs[i]).kids with
  | true=>rfl
  | false=>rw[rl_pl q8 q9 e]at q5;cases q5
 refine⟨h1,jok_rule h1 q9 q10 ?_⟩;unfold Vv at q8;omega
theorem gr_lexv{l:List Ty}{fs:List Ft}{rs:List Rl}{xs:List Lx}{st:List Nd}(h:(x5 l fs rs xs st).1=0)(hi:i<xs.length):(xy l fs (xs[i]).gr).1=0:=by
 have h1:(qz l fs).1=0:=by
  refine az (fun e=>?_);rw[N2 e]at h;exact e h
 have h2:¬fs.length<=3:=fun e=>by rw[Dw h1 e]at h;cases h
 have h3:¬(40<rs.length\/100<xs.length):=fun e=>by rw[N1 h1 h2 e]at h;cases h
 have h4:(qJ (u6 l fs rs) 0 rs.length).1=0:=by
  refine az (fun e=>?_);rw[KW (c:=(qJ (u6 l fs rs) 0 rs.length).1) (i:=(qJ (u6 l fs rs) 0 rs.length).2) h1 h2 h3 rfl e]at h;exact e h
 have h5:(qJ (Ex l fs xs) 0 xs.length).1=0:=by
  refine az (fun e=>?_);rw[gr_lex (c:=(qJ (Ex l fs xs) 0 xs.length).1) (i:=(qJ (Ex l fs xs) 0 xs.length).2) h1 h2 h3 (S6 _ _ h4) rfl e]at h;exact e h
 have q5:=XK _ _ h5 i (ad _) oG;rw[lnF hi]at q5;have q6:oW (xs[i]).word=true:=by
  cases e:oW (xs[i]).word with
  | true=>rfl
  | false=>rw[lx_word e]at q5;cases q5
 have q7:¬O2 xs[i]:=fun e=>by rw[lx_bad q6 e]at q5;cases q5
 exact az (fun e=>by rw[lx_gr q6 q7 e]at q5;exact e q5)
theorem gr_h0{l:List Ty}{fs:List Ft}{rs:List Rl}{xs:List Lx}{st:List Nd}(h:(x5 l fs rs xs st).1=0):(qz l fs).1=0:=by
 refine az (fun e=>?_);rw[N2 e]at h;exact e h
theorem gr_one(h:(x5 l fs rs xs st).1=0)(hi:i<rs.length):1<=(rs[i]).kids/\(rs[i]).kids<=3:=by
 have h1:(qz l fs).1=0:=by
  refine az (fun e=>?_);rw[N2 e]at h;exact e h
 have h2:¬fs.length<=3:=fun e=>by rw[Dw h1 e]at h;cases h
 have h3:¬(40<rs.length\/100<xs.length):=fun e=>by rw[N1 h1 h2 e]at h;cases h
 have h4:(qJ (u6 l fs rs) 0 rs.length).1=0:=by
  refine az (fun e=>?_);rw[KW (c:=(qJ (u6 l fs rs) 0 rs.length).1) (i:=(qJ (u6 l fs rs) 0 rs.length).2) h1 h2 h3 rfl e]at h;exact e h
 have q5:=XK _ _ h4 i (ad _) oG;have q6:yQ (rs[i]).name=true:=by
  cases e:yQ (rs[i]).name with
  | true=>rfl
  | false=>rw[rn10 hi e]at q5;cases q5
 have q7:oX ((rs.take i).map (·.name)) (rs[i]).name=false:=by
  cases e:oX ((rs.take i).map (·.name)) (rs[i]).name with
  | false=>rfl
  | true=>rw[rn7 hi q6 e]at q5;cases q5
 rw[rnF hi q6 q7]at q5;have q8:¬Vv rs[i]:=fun e=>by rw[LW e]at q5;cases q5
 unfold Vv at q8;omega
def IsG(w:World)(L:List (List Nd))(j:Nat)(v:Value):Prop:=∃ A c,v= .slice A (L.getD j []).length c/\NodesIn w A (L.getD j [])
theorem grs_own{c:Nat}{L:List (List Nd)}(h:Own w base 30 1 A n c vs)(hn:n=L.length)(hm:n<=1000000)(hv:∀(j:Nat) (v:Value),vs[j]? =some v->IsG w L j v):GrsIn w A L:=by
 subst hn;refine⟨by unfold vJ;omega,fun hne=>?_⟩;obtain⟨g,cur,rfl,_,hb,hsz,hrd,_⟩:=h.open_ (List.length_pos_iff.2 hne);refine⟨g,0,rfl,hb.lt,fun k hk=>?_⟩;have hl:vs.length=L.length:=by have:=h.1;omega
 obtain⟨A',c',e,hN⟩:=hv k (vs[k]'oG) (aQ _);have e2:L.getD k []=L[k]:=by simp[List.getD,hk]
 rw[e2]at e hN;refine⟨A',c',hb.range (fun j v hj=>?_),hN⟩
 match j,hj with
 | 0,hj=>
  cases hj;rw[show 0+k*1+0=k by omega,hrd k oG,List.getElem?_eq_getElem oG,e]
end
end
def KG(S:List Nat)(N:Nat)(Ys:List (List Nd))(w:World)(vs:List Value):Prop:=N<=w.heap.size/\vs.length=Ys.length/\∀ i v,vs[i]? =some v->∃ A c lz hz,v= .slice A (Ys.getD i []).length c/\Kept lz hz w (fun wq=>NodesIn wq A (Ys.getD i []))/\hz<=N/\∀ g∈S,g<lz\/hz<=g
theorem KG.nil:KG S w.heap.size [] w []:=⟨ae _,rfl,fun i v h=>by simp at h⟩
theorem KG.tr{S X:List Nat}{N:Nat}{Ys:List (List Nd)}{w w':World}{vs:List Value}(h:KG S N Ys w vs)(hs:Same X w w')(hX:∀ g∈X,g∈S\/N<=g):KG S N Ys w' vs:=
 ⟨nLT h.1 hs.size,h.2.1,fun i v hv=>by
  obtain⟨A,c,lz,hz,e,hk,hn,hg⟩:=h.2.2 i v hv
  exact⟨A,c,lz,hz,e,hk.tr hs (fun g hx=>by
   rcases hX g hx with h1|h1
   ·exact hg g h1
   ·exact .inr (nLT hn h1)),hn,hg⟩⟩
theorem KG.tr0{Ys:List (List Nd)}{w':World}(h:KG S N Ys w vs)(hs:Same [] w w'):KG S N Ys w' vs:=h.tr hs (by simp)
theorem KG.tr1{Ys:List (List Nd)}{w':World}(h:KG S N Ys w vs)(hs:Same [b] w w')(hb:N<=b):KG S N Ys w' vs:=h.tr hs (fun g hg=> .inr (by rw[List.mem_singleton.1 hg];exact hb))
theorem KG.snoc{S S':List Nat}{N lz hz c:Nat}{Ys:List (List Nd)}{w:World}{vs:List Value}{A:Option Addr}{Y:List Nd}(h:KG S N Ys w vs)(hg:∀ g∈S',g∈S\/N<=g)(hk:Kept lz hz w (fun wq=>NodesIn wq A Y))(hgz:∀ g∈S',g<lz\/hz<=g):KG S' w.heap.size (Ys++[Y]) w (vs++[.slice A Y.length c]):=by
 refine⟨ae _,by rw[List.length_append,List.length_append,h.2.1];rfl,fun i v hv=>?_⟩;by_cases e:i<vs.length
 ·rw[List.getElem?_append_left e]at hv
  obtain⟨A',c',lz',hz',e',hk',hn',hg'⟩:=h.2.2 i v hv;have e2:(Ys++[Y]).getD i []=Ys.getD i []:=by
   unfold List.getD;rw[List.getElem?_append_left (by rw[<- h.2.1];exact e)]
  refine⟨A',c',lz',hz',by rw[e2];exact e',by rw[e2];exact hk',nLT hn' h.1,fun x hx=>?_⟩;rcases hg x hx with h1|h1
  ·exact hg' x h1
  ·exact .inr (nLT hn' h1)
 ·have h5:=(aC.1 hv).1
  rw[List.length_append,List.length_singleton]at h5;have e3:i=vs.length:=by omega
  subst e3;rw[List.getElem?_append_right (Nat.le_refl _),Nat.sub_self]at hv;cases hv;have e2:(Ys++[Y]).getD vs.length []=Y:=by
   unfold List.getD;rw[h.2.1,List.getElem?_append_right (Nat.le_refl _),Nat.sub_self];rfl
  exact⟨A,c,lz,hz,by rw[e2],by rw[e2];exact hk,hk.1,hgz⟩
theorem KG.sub{S':List Nat}{Ys:List (List Nd)}(h:KG S N Ys w vs)(hg:∀ g∈S',g∈S\/N<=g):KG S' N Ys w vs:=
 ⟨h.1,h.2.1,fun i v hv=>by
  obtain⟨A,c,lz,hz,e,hk,hn,h1⟩:=h.2.2 i v hv
  exact⟨A,c,lz,hz,e,hk,hn,fun x hx=>(hg x hx).elim (h1 x) (fun h2=> .inr (nLT hn h2))⟩⟩
theorem KG.grs{KA:Option Addr}{Ys:List (List Nd)}(h:KG S N Ys w vs)(ho:Own w base 30 1 KA vs.length cap vs)(hm:vs.length<=1000000):GrsIn w KA Ys:=
 grs_own ho h.2.1 hm (fun j v hj=>by
  obtain⟨A,c,lz,hz,e,hk,_,_⟩:=h.2.2 j v hj
  exact⟨A,c,e,hk.now⟩)
theorem in30:(Tryd.prog.info? 30).map (fun i=>(i.zero,i.size,i.bytes))=some (some (.agg #[.slice none 0 0]),1,24):=by kernel_rfl
theorem sz35_YGo:(Tryd.prog.info? 35).map (·.size)=some 3:=by kernel_rfl
theorem ze35_YGo:(Tryd.prog.info? 35).map (·.zero)=some (some (.agg #[.int .i64 0,.int .i64 0,.slice none 0 0])):=by kernel_rfl
set_option maxRecDepth 100000 in
set_option maxHeartbeats 4000000 in
theorem gof_step(H:Y3 l fs rs xs){t:Dt}{c:Nat}(IH:∀ x∈t.kids,∀(A2:Option Addr) (c2:Nat) (wy:World),TabIn wy->TableIn wy l bu bd->RulesIn wy AR rs->LexesIn wy AX xs->TresIn wy A2 x.kids->OkT rs xs.length x->Calls Tryd.prog 34 #[.agg #[.slice AT l.length ct,.slice AF fs.length cf,.slice AR rs.length cr,.slice AX xs.length cx,.slice AS st.length cst],.agg #[.slice (some ⟨bu,0,none⟩) l.length l.length,.slice (some ⟨bd,0,none⟩) l.length l.length],.agg #[.int .i64 (x).rule,.int .i64 (x).lex,.slice A2 (x).kids.length c2]] wy fun e w'=>(∃ A X ok c,e= .returned (.tuple #[.agg #[.slice A (List.length X) c],.bool ok])/\(∀ w2,FrSame wy.heap.size w' w2->NodesIn w2 A X)/\TgR l rs xs x ok X)/\Bel wy w')(bh:TabIn w)(hTI:TableIn w l bu bd)(bv:RulesIn w AR rs)(bx:LexesIn w AX xs)(hT:TresIn w A t.kids)(hok:OkT rs xs.length t):Calls Tryd.prog 34 #[.agg #[.slice AT l.length ct,.slice AF fs.length cf,.slice AR rs.length cr,.slice AX xs.length cx,.slice AS st.length cst],.agg #[.slice (some ⟨bu,0,none⟩) l.length l.length,.slice (some ⟨bd,0,none⟩) l.length l.length],.agg #[.int .i64 (t).rule,.int .i64 (t).lex,.slice A (t).kids.length c]] w fun e w'=>(∃ A X ok c,e= .returned (.tuple #[.agg #[.slice A (List.length X) c],.bool ok])/\(∀ w2,FrSame w.heap.size w' w2->NodesIn w2 A X)/\TgR l rs xs t ok X)/\Bel w w':=by
 have hmx:=hT.le;unfold vJ at hmx;obtain⟨hk1,hk2⟩:=hok.at_;have hrx:=bv.1;have hxx:=bx.1;unfold vJ at hrx hxx;refine enT Tryd.func34 Tryd.ntmps34 rfl rfl fun hB=>?_;refine zn2 ?_;refine qZ (cs:=#[_,_,_,_,_]) rfl (fun b3 w1 a6 s1 hr=>?_);refine qZ (cs:=#[_,_]) rfl (fun b4 w2 a5 s2 hr=>?_);refine qZ (cs:=#[_,_,_]) rfl (fun b5 w3 a2 s3 hr=>?_);refine qw (cs:=#[.slice none 0 0]) Iy rfl (fun b6 w4 a1 s4 hr=>?_);have:=a6.u.ob hr;have:=a5.u.ob hr;have:=a2.ob hr;have bk:=hB.u.ob hr;refine gX ?_;refine zK rfl (fun bc=>?_) (fun bc=>?_)
 ·obtain⟨_,q1,q2,_⟩:=Xv hk1 bc;obtain⟨xi,hxi⟩:=aO q1;have b9:xi<xs.length:=by omega
  replace hB:=hB.tr0 (s1.t (s2.t (s3.t s4)));obtain⟨xb,xo,Gk,cgk,Sk,csk,Bk,mk,rfl,hxb,_,hxr,hGx,_,_⟩:=bx.at_ hB b9;have hv:=H.lx xi b9;have hlg:=MV b9 hxi;refine zn5 ?_;replace a2:=a2.tr0 s4;refine wl (qW (v:= .int .i64 ((xi:Nat):Int)) U3 rfl rfl (by rw[<- hxi];exact a2.cell rfl)) (zn2 ?_);refine wl (qK U30 rfl rfl (show World.rangeAt _ xb _ [.slice Gk (xs[xi]).gr.length cgk]from fun j v hj=>by match j,hj with|0,hj=>cases hj;exact hxr 1 _ rfl|_+1,hj=>cases hj) gY) ?_;have z6:=a1.lt;have ba:=Bel.size hB;refine zX kR (EZ Gk cgk fs.length (xs[xi]).gr 0 _ (hGx.mono hB) hv.gok.two (by have:=hv.few;omega) hv.gx.pos) rfl (fun e' w5 hr=>?_);obtain⟨⟨oL,AL,hdL,_,rfl,hNL⟩,s5⟩:=hr;replace s5:=sB s5;have c0:=u7 hNL;refine⟨_,rfl,?_⟩;refine zJ a1.u (fun w6 hq s6=>?_);replace a1:=hq;refine zn5 ?_;refine Qq (.inl rfl) rfl (zw U30 rfl rfl a1.range0 gY) rfl ?_;replace hB:=(hB.tr0 s5).tr1 s6 bk;replace c0:=c0.tr1 s6 oG;exact⟨⟨AL,xJ (xs[xi]).gr oL,true,_,by rw[kw];rfl,XJ c0 ba,(NZ bc).2 ⟨rfl,oL,by rw[hlg];exact hdL,by rw[hlg]⟩⟩,hB⟩
 obtain⟨q1,_,q2⟩:=KX hk1 bc;obtain⟨ri,bm⟩:=aO (Int.not_lt.1 bc);have a7:ri<rs.length:=by omega
 obtain⟨hJ,hk0,hk3⟩:=H.rl ri a7;rw[Dq a7 bm]at q2;have hgr:=KZ a7 bm;refine R7 ?_;refine qk (rgq [7,8,10,11,12] 27 19) (fun m g w'=>∃(j:Nat) (Ys:List (List Nd)) (KA:Option Addr) (cap:Nat) (vs:List Value),j<=t.kids.length/\m=t.kids.length-j/\g 27= .int .i64 j/\g 8= .slice KA vs.length cap/\vs.length=j/\Zw l rs xs (t.kids.take j) Ys/\Bel w w'/\Blk w' b3 32 #[.slice AT l.length ct,.slice AF fs.length cf,.slice AR rs.length cr,.slice AX xs.length cx,.slice AS st.length cst]/\Blk w' b4 76 #[.slice (some ⟨bu,0,none⟩) l.length l.length,.slice (some ⟨bd,0,none⟩) l.length l.length]/\Blk w' b5 35 #[.int .i64 t.rule,.int .i64 t.lex,.slice A t.kids.length c]/\Blk w' b6 30 #[.slice none 0 0]/\Own w' (b6+1) 30 1 KA vs.length cap vs/\KG (aL KA) w'.heap.size Ys w' vs) (t.kids.length) ?_ (fun m g5 w7 hI=>?_)
 ·replace hB:=hB.tr0 (s1.t (s2.t (s3.t s4)));replace a6:=a6.tr0 (s2.t (s3.t s4));replace a5:=a5.tr0 (s3.t s4);replace a2:=a2.tr0 s4;exact⟨0,[],none,0,[],ad _,rfl,rfl,rfl,rfl,(by rw[List.take_zero,Zw]),hB,a6,a5,a2,a1,Own.nil _ _ _ _,KG.nil⟩
 obtain⟨j,Ys,KA,cap,vs,hj,hm,h27,h8,hlv,bg,hB,a6,a5,a2,a1,ho,hK⟩:=hI;refine zZ 27 _ h27 nu (zZ 8 _ h8 nu (zn6 ?_));refine zK rfl (fun c28=>?_) (fun c28=>?_)
 ·have bo:j<t.kids.length:=by omega
  obtain⟨sb,so,A',c',rfl,hsb,hsr,hs2⟩:=hT.at_ bo;obtain⟨N,hK⟩:∃ N,KG (aL KA) N Ys _ vs:=⟨_,hK⟩
  have bb:=ap bo;refine zn8 ?_;refine yx (cs:=#[.int .i64 0,.int .i64 0,.slice none 0 0]) ze35_YGo rfl (fun _=>rfl) (fun _=>rfl) sz35_YGo rfl y5 (fun b10 w9 bf s7 hr=>?_);have a4:=ho.ob hr;refine zn7 ?_;replace a1:=a1.tr0 s7;have z6:=a1.lt;have z10:=bf.lt;replace ho:=ho.tr0 s7;have hzo:=fun g hg=>(ho.lt g hg).2
  refine zX kR (IH _ bb A' c' _ (bh.mono hB.u) (hTI.mono hB.u) (bv.mono hB.u) (bx.mono hB.u) (hs2.mono hB.u) (hk2 _ bb)) rfl (fun e' w10 hr=>?_);obtain⟨⟨AX2,X,okX,cX,rfl,hNX,c1⟩,s8⟩:=hr;replace s8:=sB s8;have be:=u7 hNX;refine⟨_,rfl,?_⟩;refine wmT rfl (wl (yV (v:=_) rfl rfl) (wl (yV (v:=_) rfl rfl) ?_));refine yx (cs:=#[.slice none 0 0]) Iy rfl (fun _=>rfl) (fun _=>rfl) gY rfl y5 (fun b11 w12 br s9 hr=>?_);replace ho:=ho.tr0 s8;have a3:=ho.ob hr;refine jZ ?_;refine jW rfl (fun c3=>?_) (fun c3=>?_)
  ·obtain rfl:okX=false:=by simpa using c3
   obtain rfl:=tg_no c1;refine zn2 ?_;refine uW (cs:=#[.slice none 0 0]) ?_;refine zJ a1.u (fun w13 hq s10=>?_);replace a1:=hq;refine jZ ?_;refine Qq (.inl rfl) rfl (zw U30 rfl rfl a1.range0 gY) rfl ?_;exact⟨⟨none,[],false,0,rfl,fun w2 _=>KJ w2 none,(J2 bc).2 (.inr ⟨tgB_iff.2 ⟨_,bb,c1⟩,rfl,rfl⟩)⟩,hB.u⟩
  obtain rfl:okX=true:=by simpa using c3
  refine zn5 ?_;refine qj (cs:=#[_]) [(0,.agg _)] rfl U69 gY Iy dE dE kR rfl (fun b43 w14 bq ao hr=>?_);have:=a6.u.ob hr;have:=a5.u.ob hr;have:=a2.u.ob hr;have:=a1.u.ob hr;replace hK:=hK.tr0 (s7.t (s8.t (s9.t ao)));have bw:=hK.1;replace be:=be.tr0 (s9.t ao);have bt:=be.1;replace a1:=a1.tr0 (s8.t (s9.t ao));replace ho:=ho.tr0 (s9.t ao);refine vZ U69 in30 rfl dE ho bq rfl rfl rfl y5 dE oG (by have:=q2;omega) a1.lt (fun ab bi w15 bn an hg=>?_);have b8:ab≠b3:=neA ho a6.u.lt hg
  have b7:ab≠b4:=neA ho a5.u.lt hg
  have b2:ab≠b5:=neA ho a2.u.lt hg
  have b1:ab≠b6:=neA ho a1.lt hg
  have a9:ab≠b10:=neB bf.u.lt hg (fun g hg=>by have:=a4 g hg;omega)
  have a8:ab≠b11:=neB br.u.lt hg (fun g hg=>by have:=a3 g hg;omega)
  replace hB:=hB.u.tr an (fun g hg=>nLT (aD bk) (ho.lt g hg).1);replace a6:=a6.tr0 (s7.t (s8.t (s9.t ao)));replace a6:=a6.ta an ho;replace a5:=a5.tr0 (s7.t (s8.t (s9.t ao)));replace a5:=a5.ta an ho;replace a2:=a2.tr0 (s7.t (s8.t (s9.t ao)));replace a2:=a2.ta an ho;replace a1:=a1.ta an ho;replace hK:=hK.tr an (fun g hg=> .inl hg);replace be:=be.tr an (fun g hg=> .inl (hzo g hg));refine zn8 ?_;refine xY (t.kids.length-(j+1)) oG agA ?_;exact⟨j+1,_,some ⟨ab,0,none⟩,bi,vs++[Value.slice AX2 (List.length X) cX],by omega,rfl,rfl,(by rw[List.length_append];rfl),(by rw[List.length_append,hlv];rfl),(by rw[QZ _ bo];exact RK bg c1),hB,a6,a5,a2,a1,(by rw[List.length_append];exact bn),hK.snoc (fun x hx=>by cases aj.1 hx;exact hg.imp (fun e=>by rw[e];exact aj.2 rfl) (nLT bw)) be (fun x hx=>by cases aj.1 hx;exact hg.elim (fun e=> .inl (hzo ab (by rw[e];exact aj.2 rfl))) (fun h=> .inr (nLT bt h)))⟩
 have hje:j=t.kids.length:=by omega
 rw[hje,List.take_length]at bg;refine jZ ?_;refine wl (qW (v:= .int .i64 ((ri:Nat):Int)) U3 rfl rfl (by rw[<- bm];exact a2.cell rfl)) (wl (x7 (v:= .slice KA Ys.length cap) (congrArg (fun n=>Value.slice KA n cap) hK.2.1)) ?_);have z6:=a1.lt;have ba:=Bel.size hB;have hGs:=hK.grs ho oG;refine zX kR (join_any AT AF AR AX AS ct cf cr cx cst l fs rs xs st (ri:=ri) (kc:=cap) (KA:=KA) (ks:=Ys) _ (bh.mono hB) (hTI.mono hB) (bv.mono hB) a7 hJ hGs (tgs_gv H hk2 bg) (by rw[Kx bg];exact q2)) rfl (fun e' w16 hr=>?_);obtain⟨⟨AZ,Z,okZ,cZ,rfl,hNZ,hJZ⟩,bj⟩:=hr;replace bj:=sB bj;have bz:=u7 hNZ;refine⟨_,rfl,?_⟩;refine wl (yV (v:=_) rfl rfl) (wl (yV (v:=_) rfl rfl) ?_);refine zJ a1.u (fun w17 hq s14=>?_);replace a1:=hq;refine zn4 ?_;refine Qq (.inl rfl) rfl (zw U30 rfl rfl a1.range0 gY) rfl ?_;replace hB:=(hB.tr0 bj).tr1 s14 bk;replace bz:=bz.tr1 s14 oG;exact⟨⟨AZ,Z,okZ,cZ,rfl,XJ bz ba,(J2 bc).2 (.inl ⟨Ys,bg,by rw[hgr];exact hJZ⟩)⟩,hB⟩
theorem gof_anyK(H:Y3 l fs rs xs):∀(k:Nat) (t:Dt),SizeOf.sizeOf t<k->∀(A:Option Addr) (c:Nat) (w:World),TabIn w->TableIn w l bu bd->RulesIn w AR rs->LexesIn w AX xs->TresIn w A t.kids->OkT rs xs.length t->Calls Tryd.prog 34 #[.agg #[.slice AT l.length ct,.slice AF fs.length cf,.slice AR rs.length cr,.slice AX xs.length cx,.slice AS st.length cst],.agg #[.slice (some ⟨bu,0,none⟩) l.length l.length,.slice (some ⟨bd,0,none⟩) l.length l.length],.agg #[.int .i64 (t).rule,.int .i64 (t).lex,.slice A (t).kids.length c]] w fun e w'=>(∃ A X ok c,e= .returned (.tuple #[.agg #[.slice A (List.length X) c],.bool ok])/\(∀ w2,FrSame w.heap.size w' w2->NodesIn w2 A X)/\TgR l rs xs t ok X)/\Bel w w':=by
 intro k
 induction k with
 | zero=>intro t h;omega
 | succ k ih=>
  intro t h A c w h1 h2 h3 h4 h5 h6;refine gof_step H (fun x hx A2 c2 w2 k1 k2 k3 k4 k5 k6=>ih x ?_ A2 c2 w2 k1 k2 k3 k4 k5 k6) h1 h2 h3 h4 h5 h6;have:=aN hx;cases t with
  | mk r x ks=>simp only[Dt.mk.sizeOf_spec,Dt.kids]at h this;omega
theorem gof_any(H:Y3 l fs rs xs)(t:Dt)(A:Option Addr)(c:Nat)(w:World):TabIn w->TableIn w l bu bd->RulesIn w AR rs->LexesIn w AX xs->TresIn w A t.kids->OkT rs xs.length t->Calls Tryd.prog 34 #[.agg #[.slice AT l.length ct,.slice AF fs.length cf,.slice AR rs.length cr,.slice AX xs.length cx,.slice AS st.length cst],.agg #[.slice (some ⟨bu,0,none⟩) l.length l.length,.slice (some ⟨bd,0,none⟩) l.length l.length],.agg #[.int .i64 (t).rule,.int .i64 (t).lex,.slice A (t).kids.length c]] w fun e w'=>(∃ A X ok c,e= .returned (.tuple #[.agg #[.slice A (List.length X) c],.bool ok])/\(∀ w2,FrSame w.heap.size w' w2->NodesIn w2 A X)/\TgR l rs xs t ok X)/\Bel w w':=gof_anyK H (SizeOf.sizeOf t+1) t (ax _) A c w
theorem row3(V:Nat->Value):row 3 V= #[V 0,V 1,V 2]:=by
 apply Array.ext
 ·simp[row]
 ·intro i h1 h2
  have h3:i<3:=by simpa using h1
  match i,h3 with
  | 0,_=>simp[row]
  | 1,_=>simp[row]
  | 2,_=>simp[row]
theorem I2{B:Option Addr}(n c:Nat)(h:A=B):Value.slice A n c=Value.slice B n c:=by rw[h]
theorem W7{α:Type}{l:List α}{x:α}(h:l[i]? =some x):l.take (i+1)=l.take i++[x]:=by
 obtain⟨hi,rfl⟩:=aC.1 h;exact List.take_succ_eq_append_getElem hi
theorem NodesIn.keep{w2:World}{g:List Nd}(hw:Kw w w2)(h:NodesIn w A g):NodesIn w2 A g:=by
 have hb:Bel w { w2 with os:=w.os,tape:=w.tape,output:=w.output }:=⟨rfl,rfl,rfl,hw.1,hw.2⟩
 have h2:=h.mono hb;exact h2
theorem kept_old{w1:World}{P:World->Prop}(hP:∀ w2,Kw w w2->P w2)(hB:Bel w w1):Kept 0 w.heap.size w1 P:=
 ⟨hB.size,fun w2 h2 hk=>hP w2 ⟨h2,fun k hk2=>(hk k (ad _) hk2).trans (hB.block k hk2)⟩⟩
theorem kg_hv{KA:Option Addr}{Ys:List (List Nd)}(h:KG (b::aL KA) N Ys w vs)(ho:Own w base 30 1 KA vs.length cap vs)(hb:b<base)(hm:vs.length<=1000000):Hv 0 [b] w.heap.size w (fun w=>GrsIn w KA Ys):=
 ⟨ae _,fun w2 h2 hk=>by
  have hs:Same [b] w { w2 with os:=w.os,tape:=w.tape,output:=w.output }:=⟨rfl,rfl,rfl,h2,fun k hk1 hk2=>hk k (ad _) hk1 hk2⟩
  exact(h.tr hs (fun g hg=> .inl (by rw[List.mem_singleton.1 hg];exact au ..))).grs (ho.tr hs (fun g hg hx=>by have:=(ho.lt g hg).1;rw[List.mem_singleton.1 hx]at this;omega)) hm⟩
theorem mos_gv(H:Y3 l fs rs xs){q:Nat}(hq:q<(X1 rs xs).length):GV l fs (X1 rs xs)[q]:=by
 have hl:=KK rs xs;by_cases e:q<rs.length
 ·have h1:=Gw (xs:=xs) e
  rw[List.getElem?_eq_getElem hq]at h1;rw[Option.some.inj h1];obtain⟨hJ,hk0,_⟩:=H.rl q e;have hrl:=hJ.lt (aH 0) hk0;obtain⟨o,ho⟩:=hJ.v.gx.toGY.dl hrl;rw[Tq ho];exact O5 ((hJ.v.gx.toGY.trr hrl ho).valid hJ.v)
 ·obtain⟨i,rfl⟩:∃ i,q=rs.length+i:=⟨q-rs.length,by omega⟩
  have hi:i<xs.length:=by omega
  have h1:=Tz (rs:=rs) hi;rw[List.getElem?_eq_getElem hq]at h1;rw[Option.some.inj h1];exact H.lx i hi
theorem BV{lo:Nat}{xs:List Bool}(h:Own w base e 1 A xs.length cap (xs.map Value.bool))(hb:lo<=base):Hv lo [] w.heap.size w (fun w=>BolsIn w A xs):=by
 by_cases hn:xs= []
 ·subst hn;exact Hv.triv _ _ _ (fun w=>⟨ad _,fun h=>absurd rfl h⟩)
 ·obtain⟨g,cs,rfl,hg,a1,hcs⟩:=OK h (by simpa using hn)
  have hm:=h.max;refine(Hv.blk a1 (nLT hb hg) (by simp)).imp (fun w2 h2=>⟨hm,fun _=>⟨g,0,rfl,h2.lt,fun k hk=>h2.cell ?_⟩⟩);rw[Nat.zero_add,Nat.mul_one];exact hcs k _ (by simp[hk])
def b3C(l:List Ty)(rs:List Rl)(xs:List Lx)(w:World)(r:Nat)(v:List Value):Prop:=∃ V:Nat->Value,v= [V 0,V 1,V 2]/\∀ j,j<3->∃ A c,V j= .slice A (jY l rs xs r j).length c/\BolsIn w A (jY l rs xs r j)
def bvC(l:List Ty)(rs:List Rl)(xs:List Lx)(w:World)(r:Nat)(v:List Value):Prop:=∃ A c,v= [.slice A (KY l rs xs r).length c]/\BolsIn w A (KY l rs xs r)
def AdmE(l:List Ty)(rs:List Rl)(xs:List Lx)(w:World)(A:Option Addr)(VA:Nat->Nat->Option Addr)(CA:Nat->Nat->Nat):Prop:=∀ r,r<rs.length->∃ b o,A=some ⟨b,o,none⟩/\b<w.heap.size/\∀ j,j<3->w.cell? ⟨b,o+r*3+j*1,none⟩=some (.slice (VA r j) (jY l rs xs r j).length (CA r j))/\BolsIn w (VA r j) (jY l rs xs r j)
theorem AdmE.in_{VA:Nat->Nat->Option Addr}{CA:Nat->Nat->Nat}(h:AdmE l rs xs w A VA CA):AdmIn l rs xs w A:=fun r hr=>by
 obtain⟨b,o,e,hb,hc⟩:=h r hr
 exact⟨b,o,e,hb,fun j hj=>⟨_,_,hc j hj⟩⟩
theorem Mv{r:Nat}(h:r<(List.range n).length):(List.range n)[r]=r:=List.getElem_range h
theorem adm_conv{nB:Nat}{X:List Nat}(ho:Own w nB e 3 A rs.length cap vs)(hd:Hv nB X n w (fun w=>RowD (b3C l rs xs) 3 w (List.range rs.length) vs)):∃ VA CA,Hv nB [] w.heap.size w (fun w=>AdmE l rs xs w A VA CA):=by
 have a1:∀ r j,∃ A c,r<rs.length->j<3->vs[r*3+j]? =some (Value.slice A (jY l rs xs r j).length c):=fun r j=>by
  by_cases h:r<rs.length/\j<3
  ·obtain⟨v,_,⟨V,rfl,hV⟩,hg⟩:=hd.now.get r (by simpa using h.1)
   rw[Mv]at hV;obtain⟨A,c,e1,_⟩:=hV j h.2;refine⟨A,c,fun _ _=>hg j _ ?_⟩;rw[<- e1]
   match j,h.2 with
   | 0,_=>rfl
   | 1,_=>rfl
   | 2,_=>rfl
  ·exact⟨none,0,fun a b=>absurd ⟨a,b⟩ h⟩
 refine⟨fun r j=>Classical.choose (a1 r j),fun r j=>Classical.choose (Classical.choose_spec (a1 r j)),?_⟩;have hk:∀ r j,r<rs.length->j<3->_:=fun r j=>Classical.choose_spec (Classical.choose_spec (a1 r j))
 by_cases hn:rs.length=0
 ·exact Hv.triv _ _ _ (fun w r hr=>absurd hr oG)
 have a2:=hd.now.len;rw[List.length_range]at a2;obtain⟨g,cs,rfl,hg,a3,hcs⟩:=OK ho (by rintro rfl;rw[List.length_nil]at a2;omega);refine((Hv.blk a3 hg (by simp)).and hd.nil.up).imp (fun w2 h r hr=>⟨g,0,rfl,h.1.lt,fun j hj=>?_⟩);have h1:=hk r j hr hj;refine⟨h.1.cell (by rw[Nat.zero_add,Nat.mul_one];exact hcs _ _ h1),?_⟩;obtain⟨v,_,⟨V,rfl,hV⟩,hg⟩:=h.2.get r (by simpa using hr);rw[Mv]at hV;obtain⟨A,c,e1,e2⟩:=hV j hj
 have h2:vs[r*3+j]? =some (V j):=hg j _ (by
  match j,hj with
  | 0,_=>rfl
  | 1,_=>rfl
  | 2,_=>rfl)
 rw[h1,e1]at h2;have h3:=congrArg (fun v=>match v with|some (Value.slice A _ _)=>A|_=>none) h2;have h4:BolsIn w2 (Classical.choose (a1 r j)) (jY l rs xs r j):=by rw[show Classical.choose (a1 r j)=A from h3];exact e2
 exact h4
theorem fir_conv{nB:Nat}{X:List Nat}(ho:Own w nB e 1 A rs.length cap vs)(hd:Hv nB X n w (fun w=>RowD (bvC l rs xs) 1 w (List.range rs.length) vs)):Hv nB [] w.heap.size w (fun w=>FirIn l rs xs w A):=by
 by_cases hn:rs.length=0
 ·exact Hv.triv _ _ _ (fun w r hr=>absurd hr oG)
 have a1:=hd.now.len;rw[List.length_range]at a1;obtain⟨g,cs,rfl,hg,a2,hcs⟩:=OK ho (by rintro rfl;rw[List.length_nil]at a1;omega);refine((Hv.blk a2 hg (by simp)).and hd.nil.up).imp (fun w2 h r hr=>?_);obtain⟨v,_,⟨A,c,rfl,hV⟩,hg⟩:=h.2.get r (by simpa using hr);rw[Mv]at hV hg;exact⟨g,0,A,c,rfl,h.1.lt,h.1.cell (by rw[Nat.zero_add,Nat.mul_one];have:=hcs _ _ (hg 0 _ rfl);simpa using this),hV⟩
theorem bols_nil(w:World):BolsIn w none []:=⟨ad _,fun h=>absurd rfl h⟩
theorem adm_ltl{r k o:Nat}(h:Q7 l rs xs r k o=true):o<(jY l rs xs r k).length:=by
 refine az (fun e=>?_);unfold Q7 at h;rw[List.getD,List.getElem?_eq_none oG]at h;cases h
theorem adm_le(l:List Ty)(rs:List Rl)(xs:List Lx)(r k:Nat):(jY l rs xs r k).length<=rs.length+xs.length:=by
 unfold jY
 split
 ·split
  ·rw[List.length_map,KK];exact ae _
  ·exact ad _
 ·exact ad _
theorem bols_row{t:TypeId}{sn:Nat->Bool}(h:Blk w b t (row n (fun x=> .bool (sn x))))(hn:n<=vJ):BolsIn w (some ⟨b,0,none⟩) ((List.range n).map sn):=
 ⟨by simpa using hn,fun _=>⟨b,0,rfl,h.lt,fun k hk=>h.cell (by
  have hk2:k<n:=by simpa using hk
  rw[uz hk2];simp)⟩⟩
end Go.Proofs.YtmfiholmfieieaaDoor
