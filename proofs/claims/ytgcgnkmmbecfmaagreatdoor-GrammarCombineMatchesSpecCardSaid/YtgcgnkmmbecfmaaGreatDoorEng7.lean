/- What these functions compute, at every world: term.Validate$1$1, term.Validate$1, ref1.rows, ref1.binder; and plain laws. -/
import Derived.Test.YtgcgnkmmbecfmaaGreatDoorU
import Derived.Test.YtgcgnkmmbecfmaaGreatDoorZst
import Derived.Test.YtgcgnkmmbecfmaaGreatDoorNSv
import Derived.Test.YtgcgnkmmbecfmaaGreatDoorGro
import Derived.Test.YtgcgnkmmbecfmaaGreatDoorEng3
import Derived.Test.YtgcgnkmmbecfmaaGreatDoorWrd
namespace Go.Proofs.YtgcgnkmmbecfmaaGreatDoor
open Go.RowKit Go.Proofs.Tryz
variable {b bN bV d n:Nat}{t:Tm}{w w0:World}
abbrev cA(a:Tm)(b:Option Addr)(c:Nat)(d:Option Addr)(e:Nat):Array Value:=#[.int .i64 a.kind,.string a.name,.int .i64 a.index,.string a.type.base,.slice b a.type.args.length c,.slice d a.args.length e]
theorem twk_out(h:200<n+1\/40<d):twk t d b n=(n+1,(1,(n:Int))):=by rw[J6,if_pos h]
theorem X6{c:Int}(h:¬(200<n+1\/40<d))(hc:ndC b t=c)(h0:c≠0):twk t d b n=(n+1,(c,(n:Int))):=by rw[J6,if_neg h,if_neg (by rw[hc];exact h0),hc]
theorem twk_nil(h:¬(200<n+1\/40<d))(hc:ndC b t=0)(ha:t.args= []):twk t d b n=(n+1,(0,0)):=by rw[J6,if_neg h,if_pos hc,ha,V6]
theorem twk_end(x:Tm)(d b n:Nat):V6 [x] d b n=twk x d b n:=by
 rw[V6];by_cases h:(twk x d b n).2.1=0
 ·rw[if_pos h,V6,<- twk_z h]
 ·rw[if_neg h]
theorem twks_one{l:List Tm}(hl:l.length=1)(h0:0<l.length)(d b n:Nat):V6 l d b n=twk (l[0]'h0) d b n:=by
 match l,hl with
 | [x],_=>exact twk_end x d b n
theorem twks_two{l:List Tm}(hl:l.length=2)(h0:0<l.length)(h1:1<l.length)(d b n:Nat):V6 l d b n=if (twk (l[0]'h0) d b n).2.1=0 then twk (l[1]'h1) d b (twk (l[0]'h0) d b n).1 else twk (l[0]'h0) d b n:=by
 match l,hl with
 | [x,y],_=>rw[V6,twk_end];rfl
theorem twk_one{b':Nat}(h:¬(200<n+1\/40<d))(hc:ndC b t=0)(hi:inB t b=b')(hl:t.args.length=1)(h0:0<t.args.length):twk t d b n=twk (t.args[0]'h0) (d+1) b' (n+1):=by
 rw[J6,if_neg h,if_pos hc,hi,twks_one hl h0]
theorem twk_two{b':Nat}(h:¬(200<n+1\/40<d))(hc:ndC b t=0)(hi:inB t b=b')(hl:t.args.length=2)(h0:0<t.args.length)(h1:1<t.args.length):twk t d b n=if (twk (t.args[0]'h0) (d+1) b' (n+1)).2.1=0 then twk (t.args[1]'h1) (d+1) b' (twk (t.args[0]'h0) (d+1) b' (n+1)).1 else twk (t.args[0]'h0) (d+1) b' (n+1):=by
 rw[J6,if_neg h,if_pos hc,hi,twks_two hl h0 h1]
theorem Sv:zK prog 72=true:=by kernel_rfl
theorem sz42:(prog.info? 42).map (·.size)=some 1:=by kernel_rfl
theorem Kv:(prog.info? 44).map (·.size)=some 6:=by kernel_rfl
theorem Z2(b9:Nat)(cd n:Int)(w:World)(hb9:Blk w b9 3 #[.int .i64 n]):Calls prog 72 #[.int .i64 cd,.pointer (some ⟨b9,0,none⟩)] w fun e w'=>e= .returned (flV (cd,n))/\Bel w w':=by
 refine enT func72 ntmps72 rfl rfl fun hB=>?_;refine zn2 ?_;refine qW (cs:=#[.int .i64 0,.int .i64 0]) x6 rfl (fun b3 w1 a1 s1 hr=>?_);have lo3:=hB.ob hr;refine zn6 ?_;refine wl (vw (v0:= .int _ _) (v1:= .int _ _) (fun v0 v1=>#[v0,v1]) rfl rfl kR) ?_;refine zZ a1 rfl rfl zj rfl qz (fun w2 hq s2=>?_);replace a1:=hq;refine zn3 ?_;refine xK (.inl rfl) rfl (zW U36 rfl rfl a1.range0 zj) ?_;exact⟨rfl,hB.u⟩
set_option maxRecDepth 100000 in
set_option maxHeartbeats 8000000 in
theorem twk_step(cu:w0.heap.size<=bN)(_l0V:w0.heap.size<=bV)(nVN:bV≠bN){A B:Option Addr}{c m:Nat}(hS:SimsIn w0 A t.type.args)(hT:TmsIn w0 B t.args)(IH:∀ x∈t.args,∀(A2 B2:Option Addr) (c2 m2 d2 b2 n2:Nat) (w2:World),SimsIn w0 A2 x.type.args->TmsIn w0 B2 x.args->n2<=200->d2<=41->b2<=d2->Bel w0 w2->Blk w2 bN 3 #[.int .i64 ((n2:Nat):Int)]->Blk w2 bV 122 #[.func (.func 71) #[] (cH bN bV)]->Calls prog 71 #[.agg (cA (x) A2 c2 B2 m2),.int .i64 ((d2:Nat):Int),.int .i64 ((b2:Nat):Int),.pointer (some ⟨bN,0,none⟩),.pointer (some ⟨bV,0,none⟩)] w2 fun e w'=>e= .returned (flV (twk x d2 b2 n2).2)/\ChG (fun g=>g=bN) w2 w'/\Blk w' bN 3 #[.int .i64 (((twk x d2 b2 n2).1:Nat):Int)])(hn:n<=200)(hd:d<=41)(hbd:b<=d)(hB:Bel w0 w)(a3:Blk w bN 3 #[.int .i64 ((n:Nat):Int)])(bf:Blk w bV 122 #[.func (.func 71) #[] (cH bN bV)]):Calls prog 71 #[.agg (cA (t) A c B m),.int .i64 ((d:Nat):Int),.int .i64 ((b:Nat):Int),.pointer (some ⟨bN,0,none⟩),.pointer (some ⟨bV,0,none⟩)] w fun e w'=>e= .returned (flV (twk t d b n).2)/\ChG (fun g=>g=bN) w w'/\Blk w' bN 3 #[.int .i64 (((twk t d b n).1:Nat):Int)]:=by
 have hmx:=hT.le;unfold vJ at hmx;have ltN:=a3.lt;have ltV:=bf.lt;have hC:ChG (fun g=>g=bN) w w:=ChG.refl _ _;refine enter func71 ntmps71 rfl (aD rfl) (zn2 ?_);refine xy (v:= .agg #[_,_,_,_,_,_]) (cs:=#[_,_,_,_,_,_]) rfl rfl (fun b5 w1 bg s1 hr=>?_);have:=a3.ob hr;replace hC:=hC.st s1 (by simp);refine qW (cs:=#[.int .i64 0,.int .i64 0]) x6 rfl (fun b8 w2 a2 s2 hr=>?_);have:=a3.u.ob hr;have:=bf.u.ob hr;have a1:=(nLT hC.size hr)
 have:=bg.ob hr;replace hC:=hC.st s2 (by simp);refine zn5 ?_;refine qW (cs:=#[.int .i64 0]) Z1 rfl (fun b9 w3 ao s3 hr=>?_);have:=a3.u.ob hr;have:=bf.u.ob hr;have bc:=(nLT hC.size hr)
 have:=bg.u.ob hr;have:=a2.ob hr;have lo9:=hB.u.ob hr;replace hC:=hC.st s3 (by simp);refine xQ (v:= .int _ _) ao rfl rfl qk (by first|decide|simp) rfl rfl (fun w4 hq s4=>?_);replace hC:=hC.st s4 (fun g hg=>by rw[List.mem_singleton.1 hg];first|exact .inl rfl|exact .inr bc);replace ao:=hq;refine zn6 ?_;replace a3:=(a3.tr0 (s1.t (s2.t s3))).tr1 s4 oG;refine xQ (v:= .int _ _) a3 rfl rfl qk (by first|decide|simp) rfl rfl (fun w5 hq s5=>?_);replace hB:=hB.u.tr1 s5 cu;replace hC:=hC.st s5 (fun g hg=>by rw[List.mem_singleton.1 hg];first|exact .inl rfl|exact .inr or_hC_bN);replace a3:=hq;refine zn4 ?_;refine wl (r_mf rfl) (zn5 ?_);replace a2:=((a2.tr0 s3).tr1 s4 oG).tr1 s5 oG;replace ao:=ao.tr1 s5 oG;refine xw [16,17,18,19,20,21] 21 (.bool (decide (200<n+1\/40<d))) nu ?_ (fun gq=>?_)
 ·refine zn4 ?_;refine zw 18 rfl (fun g18=>?_) (fun g18=>?_)
  ·refine zn3 ?_;refine zJ (e_R ⟨rfl,agA,?_⟩);exact clA
  refine zn5 ?_;refine zJ (e_R ⟨rfl,agA,?_⟩);exact clA
 refine e_S ?_;refine zQ rfl (fun b3=>?_) (fun b3=>?_)
 ·refine zn3 ?_;refine yy rfl Sv (Z2 b9 _ _ _ ao) rfl rfl (fun e' w6 hr=>?_);obtain⟨rfl,s6⟩:=hr;replace s6:=sB s6;replace hC:=hC.st s6 (by simp);refine⟨_,rfl,?_⟩;refine zZ a2.u rfl rfl zj rfl qz (fun w7 hq s7=>?_);replace hC:=hC.st s7 (fun g hg=>by rw[List.mem_singleton.1 hg];first|exact .inl rfl|exact .inr a1);replace a2:=hq;refine zn4 ?_;refine xK (.inl rfl) rfl (zW U36 rfl rfl a2.range0 zj) ?_;rw[twk_out b3];exact⟨rfl,hC,a3.u⟩
 refine Kz ?_;refine zQ rfl (fun b4=>?_) (fun b4=>?_)
 ·refine xV (xV ?_);refine xw (rg [] 30 9) 38 (.bool (decide (¬(t.index=0/\t.args.length=0)))) nu ?_ (fun gq=>?_)
  ·refine zn5 ?_;refine zw 33 rfl (fun c7=>?_) (fun c7=>?_)
   ·refine zn5 ?_;refine zJ (e_R ⟨rfl,agA,?_⟩);show Value.bool _=Value.bool _
    first|exact ae (ai (by exact fun h=>c7 h.1)).symm|exact ae (aj.2 (by exact⟨fun k h=>k (by have:=h.2;omega),fun k e=>k ⟨ak.1 c7,by omega⟩⟩))
   refine zn9 ?_;refine zJ (e_R ⟨rfl,agA,?_⟩);show Value.bool _=Value.bool _
   first|exact ae (ai (by exact fun h=>c7 h.1)).symm|exact ae (aj.2 (by exact⟨fun k h=>k (by have:=h.2;omega),fun k e=>k ⟨ak.1 c7,by omega⟩⟩))
  refine e_S ?_;refine zQ rfl (fun bk=>?_) (fun bk=>?_)
  ·have a4:ndC b t=5:=by unfold ndC;rw[if_pos b4,if_neg bk]
   refine zn3 ?_;refine yy rfl Sv (Z2 b9 _ _ _ ao) rfl rfl (fun e' w8 hr=>?_);obtain⟨rfl,s8⟩:=hr;replace s8:=sB s8;replace hC:=hC.st s8 (by simp);refine⟨_,rfl,?_⟩;refine zZ a2.u rfl rfl zj rfl qz (fun w9 hq s9=>?_);replace hC:=hC.st s9 (fun g hg=>by rw[List.mem_singleton.1 hg];first|exact .inl rfl|exact .inr a1);replace a2:=hq;refine zn6 ?_;refine xK (.inl rfl) rfl (zW U36 rfl rfl a2.range0 zj) ?_;rw[X6 b3 (show ndC b t=5 from a4) dE];exact⟨rfl,hC,a3.u⟩
  have bk:=ak.1 bk;refine zn7 ?_;refine qq kR (E7 _ _) rfl (fun e' w10 hr=>?_);obtain⟨rfl,rfl⟩:=hr;refine⟨_,rfl,?_⟩;refine zn3 ?_;refine jQ rfl (fun c4=>?_) (fun c4=>?_)
  ·have a4:ndC b t=10:=by unfold ndC;rw[if_pos b4,if_pos bk,if_neg (by simpa using c4)]
   refine zn3 ?_;refine yy rfl Sv (Z2 b9 _ _ _ ao) rfl rfl (fun e' w11 hr=>?_);obtain⟨rfl,cr⟩:=hr;replace cr:=sB cr;replace hC:=hC.st cr (by simp);refine⟨_,rfl,?_⟩;refine zZ a2.u rfl rfl zj rfl qz (fun w12 hq s11=>?_);replace hC:=hC.st s11 (fun g hg=>by rw[List.mem_singleton.1 hg];first|exact .inl rfl|exact .inr a1);replace a2:=hq;refine zn6 ?_;refine xK (.inl rfl) rfl (zW U36 rfl rfl a2.range0 zj) ?_;rw[X6 b3 (show ndC b t=10 from a4) dE];exact⟨rfl,hC,a3.u⟩
  have c4:yJ t.name=true:=by simpa using c4
  refine zn5 ?_;refine wl (qw U41 rfl rfl (bg.u.sub (n:=2) (xs:=[_,_]) rfl) yv) ?_;refine qq kR (L0 A c t.type _ (hS.mono hB)) rfl (fun e' w13 hr=>?_);obtain⟨rfl,cq⟩:=hr;replace cq:=sB cq;replace hC:=hC.st cq (by simp);refine⟨_,rfl,?_⟩;refine wl (CX (v:= .int _ _) U36 rfl U3 rfl rfl rfl) (zn3 ?_);refine zQ rfl (fun c9=>?_) (fun c9=>?_)
  ·have a4:ndC b t=12:=by unfold ndC;rw[if_pos b4,if_pos bk,if_pos c4,if_neg c9]
   refine zn3 ?_;refine yy rfl Sv (Z2 b9 _ _ _ ao.u) rfl rfl (fun e' w14 hr=>?_);obtain⟨rfl,cp⟩:=hr;replace cp:=sB cp;replace hC:=hC.st cp (by simp);refine⟨_,rfl,?_⟩;refine zZ a2.u rfl rfl zj rfl qz (fun w15 hq s14=>?_);replace hC:=hC.st s14 (fun g hg=>by rw[List.mem_singleton.1 hg];first|exact .inl rfl|exact .inr a1);replace a2:=hq;refine zn5 ?_;refine xK (.inl rfl) rfl (zW U36 rfl rfl a2.range0 zj) ?_;rw[X6 b3 (show ndC b t=12 from a4) dE];exact⟨rfl,hC,a3.u⟩
  have c9:=ak.1 c9;have a4:ndC b t=0:=by unfold ndC;rw[if_pos b4,if_pos bk,if_pos c4,if_pos c9]
  have cy:t.args= []:=aK.1 bk.2;refine zn5 ?_;refine wl (gQ (vs:=#[]) (cs:=#[.int .i64 0,.int .i64 0]) (by simp) kR) ?_;refine zZ a2.u rfl rfl zj rfl qz (fun w16 hq s15=>?_);replace hC:=hC.st s15 (fun g hg=>by rw[List.mem_singleton.1 hg];first|exact .inl rfl|exact .inr a1);replace a2:=hq;refine zn3 ?_;refine xK (.inl rfl) rfl (zW U36 rfl rfl a2.range0 zj) ?_;rw[twk_nil b3 a4 cy];exact⟨rfl,hC,a3.u⟩
 refine zn6 ?_;refine zQ rfl (fun bh=>?_) (fun bh=>?_)
 ·refine xV (xV ?_);refine y9 (rg [] 56 15) (fun g w'=>(g 70= .bool (decide (¬(t.name=⟨#[]⟩/\Mz t.type/\t.args.length=0))))/\Same [] w5 w') ?_ (fun g16 w17 hI=>?_)
  ·have hZ:SameQ [] w5 w5:=Same.refl _ _;refine zn5 ?_;refine zw 59 rfl (fun bw=>?_) (fun bw=>?_)
   ·refine vj ?_;refine e_R ⟨agA,?_⟩;refine⟨?_,hZ⟩
    first|exact ae (ai (by exact fun h=>bw h.1)).symm|exact ae (ai (by exact fun h=>bv h.2.1)).symm|exact ae (aj.2 (by exact⟨fun k h=>k (by have:=h.2.2;omega),fun k e=>k ⟨ak.1 bw,ak.1 bv,by omega⟩⟩))
   refine zn3 ?_;refine wl (qw U41 rfl rfl (bg.u.sub (n:=2) (xs:=[_,_]) rfl) yv) (zn1 ?_);refine qq kR (LJ A c t.type _) rfl (fun e' w18 hr=>?_);obtain⟨rfl,cc⟩:=hr;replace cc:=sB cc;replace hC:=hC.st cc (by simp);replace hZ:=SameQ.trans hZ cc (by simp);refine⟨_,rfl,?_⟩;refine zn4 ?_;refine zw 65 rfl (fun bv=>?_) (fun bv=>?_)
   ·refine zn6 ?_;refine e_R ⟨agA,?_⟩;refine⟨?_,hZ⟩
    first|exact ae (ai (by exact fun h=>bw h.1)).symm|exact ae (ai (by exact fun h=>bv h.2.1)).symm|exact ae (aj.2 (by exact⟨fun k h=>k (by have:=h.2.2;omega),fun k e=>k ⟨ak.1 bw,ak.1 bv,by omega⟩⟩))
   refine yW ?_;refine e_R ⟨agA,?_⟩;refine⟨?_,hZ⟩
   first|exact ae (ai (by exact fun h=>bw h.1)).symm|exact ae (ai (by exact fun h=>bv h.2.1)).symm|exact ae (aj.2 (by exact⟨fun k h=>k (by have:=h.2.2;omega),fun k e=>k ⟨ak.1 bw,ak.1 bv,by omega⟩⟩))
  obtain⟨h70,co⟩:=hI;replace hC:=hC.st co (by simp);refine jj 70 _ h70 nu (e_S ?_);refine zQ rfl (fun bz=>?_) (fun bz=>?_)
  ·have a4:ndC b t=5:=by unfold ndC;rw[if_neg b4,if_pos bh,if_neg bz]
   refine zn3 ?_;refine yy rfl Sv (Z2 b9 _ _ _ ao.u) rfl rfl (fun e' w19 hr=>?_);obtain⟨rfl,cn⟩:=hr;replace cn:=sB cn;replace hC:=hC.st cn (by simp);refine⟨_,rfl,?_⟩;refine zZ a2.u rfl rfl zj rfl qz (fun w20 hq s19=>?_);replace hC:=hC.st s19 (fun g hg=>by rw[List.mem_singleton.1 hg];first|exact .inl rfl|exact .inr a1);replace a2:=hq;refine zn6 ?_;refine xK (.inl rfl) rfl (zW U36 rfl rfl a2.range0 zj) ?_;rw[X6 b3 (show ndC b t=5 from a4) dE];exact⟨rfl,hC,a3.u⟩
  have bz:=ak.1 bz;refine zn3 ?_;replace a3:=a3.tr0 co;replace a2:=a2.tr0 co;refine xw (rg [] 73 9) 81 (.bool (decide (t.index<0\/(b:Int)<=t.index))) nu ?_ (fun gq=>?_)
  ·refine zn5 ?_;refine zw 76 rfl (fun g76=>?_) (fun g76=>?_)
   ·refine zn5 ?_;refine zJ (e_R ⟨rfl,agA,?_⟩);exact clA
   refine zn9 ?_;refine zJ (e_R ⟨rfl,agA,?_⟩);exact clA
  refine e_S ?_;refine zQ rfl (fun d4=>?_) (fun d4=>?_)
  ·have a4:ndC b t=15:=by unfold ndC;rw[if_neg b4,if_pos bh,if_pos bz,if_pos d4]
   refine zn3 ?_;refine yy rfl Sv (Z2 b9 _ _ _ ao.u) rfl rfl (fun e' w21 hr=>?_);obtain⟨rfl,cm⟩:=hr;replace cm:=sB cm;replace hC:=hC.st cm (by simp);refine⟨_,rfl,?_⟩;refine zZ a2.u rfl rfl zj rfl qz (fun w22 hq s21=>?_);replace hC:=hC.st s21 (fun g hg=>by rw[List.mem_singleton.1 hg];first|exact .inl rfl|exact .inr a1);replace a2:=hq;refine zn5 ?_;refine xK (.inl rfl) rfl (zW U36 rfl rfl a2.range0 zj) ?_;rw[X6 b3 (show ndC b t=15 from a4) dE];exact⟨rfl,hC,a3.u⟩
  have a4:ndC b t=0:=by unfold ndC;rw[if_neg b4,if_pos bh,if_pos bz,if_neg d4]
  have cy:t.args= []:=aK.1 bz.2.2;refine zn5 ?_;refine wl (gQ (vs:=#[]) (cs:=#[.int .i64 0,.int .i64 0]) (by simp) kR) ?_;refine zZ a2 rfl rfl zj rfl qz (fun w23 hq s22=>?_);replace hC:=hC.st s22 (fun g hg=>by rw[List.mem_singleton.1 hg];first|exact .inl rfl|exact .inr a1);replace a2:=hq;refine zn3 ?_;refine xK (.inl rfl) rfl (zW U36 rfl rfl a2.range0 zj) ?_;rw[twk_nil b3 a4 cy];exact⟨rfl,hC,a3.u⟩
 refine zn6 ?_;refine zQ rfl (fun bi=>?_) (fun bi=>?_)
 ·refine xV (xV ?_);refine xw (rg [] 86 14) 99 (.bool (decide (¬(t.name=⟨#[]⟩/\t.index=0/\t.args.length=1)))) nu ?_ (fun gq=>?_)
  ·refine zn5 ?_;refine zw 89 rfl (fun bu=>?_) (fun bu=>?_)
   ·refine yW ?_;refine zJ (e_R ⟨rfl,agA,?_⟩);show Value.bool _=Value.bool _
    first|exact ae (ai (by exact fun h=>bu h.1)).symm|exact ae (ai (by exact fun h=>bt h.2.1)).symm|exact ae (aj.2 (by exact⟨fun k h=>k (by have:=h.2.2;omega),fun k e=>k ⟨ak.1 bu,ak.1 bt,by omega⟩⟩))
   refine zn8 ?_;refine zw 94 rfl (fun bt=>?_) (fun bt=>?_)
   ·refine zn5 ?_;refine zJ (e_R ⟨rfl,agA,?_⟩);show Value.bool _=Value.bool _
    first|exact ae (ai (by exact fun h=>bu h.1)).symm|exact ae (ai (by exact fun h=>bt h.2.1)).symm|exact ae (aj.2 (by exact⟨fun k h=>k (by have:=h.2.2;omega),fun k e=>k ⟨ak.1 bu,ak.1 bt,by omega⟩⟩))
   refine zn9 ?_;refine zJ (e_R ⟨rfl,agA,?_⟩);show Value.bool _=Value.bool _
   first|exact ae (ai (by exact fun h=>bu h.1)).symm|exact ae (ai (by exact fun h=>bt h.2.1)).symm|exact ae (aj.2 (by exact⟨fun k h=>k (by have:=h.2.2;omega),fun k e=>k ⟨ak.1 bu,ak.1 bt,by omega⟩⟩))
  refine e_S ?_;refine zQ rfl (fun bx=>?_) (fun bx=>?_)
  ·have a4:ndC b t=5:=by unfold ndC;rw[if_neg b4,if_neg bh,if_pos bi,if_neg bx]
   refine zn3 ?_;refine yy rfl Sv (Z2 b9 _ _ _ ao) rfl rfl (fun e' w24 hr=>?_);obtain⟨rfl,ck⟩:=hr;replace ck:=sB ck;replace hC:=hC.st ck (by simp);refine⟨_,rfl,?_⟩;refine zZ a2.u rfl rfl zj rfl qz (fun w25 hq s24=>?_);replace hC:=hC.st s24 (fun g hg=>by rw[List.mem_singleton.1 hg];first|exact .inl rfl|exact .inr a1);replace a2:=hq;refine zn6 ?_;refine xK (.inl rfl) rfl (zW U36 rfl rfl a2.range0 zj) ?_;rw[X6 b3 (show ndC b t=5 from a4) dE];exact⟨rfl,hC,a3.u⟩
  have bx:=ak.1 bx;have an:0<t.args.length:=by omega
  refine zn6 ?_;refine wl (qw U41 rfl rfl (bg.u.sub (n:=2) (xs:=[_,_]) rfl) yv) ?_;refine qq kR (L0 A c t.type _ (hS.mono hB)) rfl (fun e' w26 hr=>?_);obtain⟨rfl,cb⟩:=hr;replace cb:=sB cb;replace hC:=hC.st cb (by simp);refine⟨_,rfl,?_⟩;refine wl (CX (v:= .int _ _) U36 rfl U3 rfl rfl rfl) (zn3 ?_);refine zQ rfl (fun be=>?_) (fun be=>?_)
  ·have a4:ndC b t=12:=by unfold ndC;rw[if_neg b4,if_neg bh,if_pos bi,if_pos bx,if_neg be]
   refine zn3 ?_;refine yy rfl Sv (Z2 b9 _ _ _ ao.u) rfl rfl (fun e' w27 hr=>?_);obtain⟨rfl,cj⟩:=hr;replace cj:=sB cj;replace hC:=hC.st cj (by simp);refine⟨_,rfl,?_⟩;refine zZ a2.u rfl rfl zj rfl qz (fun w28 hq s27=>?_);replace hC:=hC.st s27 (fun g hg=>by rw[List.mem_singleton.1 hg];first|exact .inl rfl|exact .inr a1);replace a2:=hq;refine zn6 ?_;refine xK (.inl rfl) rfl (zW U36 rfl rfl a2.range0 zj) ?_;rw[X6 b3 (show ndC b t=12 from a4) dE];exact⟨rfl,hC,a3.u⟩
  have be:=ak.1 be;have a4:ndC b t=0:=by unfold ndC;rw[if_neg b4,if_neg bh,if_pos bi,if_pos bx,if_pos be]
  obtain⟨tb,to,A0,c0,B0,m0,rfl,htb,htr,cw,cv⟩:=hT.at_ an;have c3:=twk_one b3 a4 (by rw[inB,if_pos bi]:inB t b=b+1) bx.2.2 an;refine zn3 ?_;refine X1 9 kR kR (fun w29 s28=>?_);replace hC:=hC.st s28 (by simp);refine zn3 ?_;refine ws (x9 (i:=0) U42 Kv rfl rfl an rfl) (zn5 ?_);refine QY ?_;refine yy rfl kR (IH (t.args[0]'an) (am an) A0 B0 c0 m0 (d+1) (b+1) (n+1) _ cw cv oG oG oG hB.u a3.u bf.u) rfl rfl (fun e' w30 hr=>?_);obtain⟨rfl,br,bo⟩:=hr;replace hC:=hC.trans br (fun g hg=> .inl hg);replace a2:=a2.tr0 (cb.t s28);replace a2:=a2.chG br (fun hx=>by have hx:b8=bN:=hx;omega);replace a3:=bo;refine⟨_,rfl,?_⟩;refine zZ a2 rfl rfl zj rfl qz (fun w31 hq s29=>?_);replace hC:=hC.st s29 (fun g hg=>by rw[List.mem_singleton.1 hg];first|exact .inl rfl|exact .inr a1);replace a2:=hq;refine zn5 ?_;refine xK (.inl rfl) rfl (zW U36 rfl rfl a2.range0 zj) ?_;rw[c3];exact⟨rfl,hC,a3.u⟩
 refine zn6 ?_;refine zQ rfl (fun bj=>?_) (fun bj=>?_)
 ·refine xV (xV ?_);refine y9 (rg [] 121 20) (fun g w'=>(g 140= .bool (decide (¬(t.name=⟨#[]⟩/\t.index=0/\Mz t.type/\t.args.length=2))))/\Same [] w5 w') ?_ (fun g27 w32 hI=>?_)
  ·have hZ:SameQ [] w5 w5:=Same.refl _ _;refine zn5 ?_;refine zw 124 rfl (fun ac=>?_) (fun ac=>?_)
   ·refine PK ?_;refine e_R ⟨agA,?_⟩;refine⟨?_,hZ⟩
    first|exact ae (ai (by exact fun h=>ac h.1)).symm|exact ae (ai (by exact fun h=>ab h.2.1)).symm|exact ae (ai (by exact fun h=>a9 h.2.2.1)).symm|exact ae (aj.2 (by exact⟨fun k h=>k (by have:=h.2.2.2;omega),fun k e=>k ⟨ak.1 ac,ak.1 ab,ak.1 a9,by omega⟩⟩))
   refine zn8 ?_;refine zw 129 rfl (fun ab=>?_) (fun ab=>?_)
   ·refine vj ?_;refine e_R ⟨agA,?_⟩;refine⟨?_,hZ⟩
    first|exact ae (ai (by exact fun h=>ac h.1)).symm|exact ae (ai (by exact fun h=>ab h.2.1)).symm|exact ae (ai (by exact fun h=>a9 h.2.2.1)).symm|exact ae (aj.2 (by exact⟨fun k h=>k (by have:=h.2.2.2;omega),fun k e=>k ⟨ak.1 ac,ak.1 ab,ak.1 a9,by omega⟩⟩))
   refine zn3 ?_;refine wl (qw U41 rfl rfl (bg.u.sub (n:=2) (xs:=[_,_]) rfl) yv) (zn1 ?_);refine qq kR (LJ A c t.type _) rfl (fun e' w33 hr=>?_);obtain⟨rfl,ca⟩:=hr;replace ca:=sB ca;replace hC:=hC.st ca (by simp);replace hZ:=SameQ.trans hZ ca (by simp);refine⟨_,rfl,?_⟩;refine zn4 ?_;refine zw 135 rfl (fun a9=>?_) (fun a9=>?_)
   ·refine zn6 ?_;refine e_R ⟨agA,?_⟩;refine⟨?_,hZ⟩
    first|exact ae (ai (by exact fun h=>ac h.1)).symm|exact ae (ai (by exact fun h=>ab h.2.1)).symm|exact ae (ai (by exact fun h=>a9 h.2.2.1)).symm|exact ae (aj.2 (by exact⟨fun k h=>k (by have:=h.2.2.2;omega),fun k e=>k ⟨ak.1 ac,ak.1 ab,ak.1 a9,by omega⟩⟩))
   refine yW ?_;refine e_R ⟨agA,?_⟩;refine⟨?_,hZ⟩
   first|exact ae (ai (by exact fun h=>ac h.1)).symm|exact ae (ai (by exact fun h=>ab h.2.1)).symm|exact ae (ai (by exact fun h=>a9 h.2.2.1)).symm|exact ae (aj.2 (by exact⟨fun k h=>k (by have:=h.2.2.2;omega),fun k e=>k ⟨ak.1 ac,ak.1 ab,ak.1 a9,by omega⟩⟩))
  obtain⟨d3,bm⟩:=hI;replace hC:=hC.st bm (by simp);refine jj 140 _ d3 nu (e_S ?_);refine zQ rfl (fun bb=>?_) (fun bb=>?_)
  ·have a4:ndC b t=5:=by unfold ndC;rw[if_neg b4,if_neg bh,if_neg bi,if_pos bj,if_neg bb]
   refine zn3 ?_;refine yy rfl Sv (Z2 b9 _ _ _ ao.u) rfl rfl (fun e' w34 hr=>?_);obtain⟨rfl,cg⟩:=hr;replace cg:=sB cg;replace hC:=hC.st cg (by simp);refine⟨_,rfl,?_⟩;refine zZ a2.u rfl rfl zj rfl qz (fun w35 hq s33=>?_);replace hC:=hC.st s33 (fun g hg=>by rw[List.mem_singleton.1 hg];first|exact .inl rfl|exact .inr a1);replace a2:=hq;refine zn6 ?_;refine xK (.inl rfl) rfl (zW U36 rfl rfl a2.range0 zj) ?_;rw[X6 b3 (show ndC b t=5 from a4) dE];exact⟨rfl,hC,a3.u⟩
  have bb:=ak.1 bb;have an:0<t.args.length:=by omega
  have c6:1<t.args.length:=by omega
  have a4:ndC b t=0:=by unfold ndC;rw[if_neg b4,if_neg bh,if_neg bi,if_pos bj,if_pos bb]
  obtain⟨tb,to,A0,c0,B0,m0,rfl,htb,htr,cw,cv⟩:=hT.at_ an;obtain⟨_,_,A1,c1,B1,m1,e1,_,htr1,ks1,kt1⟩:=hT.at_ c6;cases e1;have c3:=twk_two b3 a4 (by rw[inB,if_neg bi]:inB t b=b) bb.2.2.2 an c6;refine zn4 ?_;replace a3:=a3.tr0 bm;have ltNW:=a3.lt;replace hB:=hB.tr0 bm;have cx:=Bel.size hB;replace bg:=(((bg.tr0 (s2.t s3)).tr1 s4 oG).tr1 s5 oG).tr0 bm;have lt5W:=bg.lt;replace a2:=a2.tr0 bm;have lt8W:=a2.lt;replace ao:=ao.tr0 bm;have lt9W:=ao.lt;replace bf:=(((bf.tr0 (s1.t (s2.t s3))).tr1 s4 oG).tr1 s5 oG).tr0 bm;have ltVW:=bf.lt;have szCW:=hC.size;refine J1 10 [143,144,145,146,147,148,149,150,151,11] [bN] 8 (fun ix v wv=>match ix with|0=>v= .func (.func 71) #[] (cH bN bV)|1=>v= .pointer (some ⟨b5,0+5,none⟩)|2=>v= .slice (some ⟨tb,to,none⟩) t.args.length m|3=>v= .pointer (some ⟨tb,to+0*6,none⟩)|4=>v= .agg (cA ((t.args[0]'an)) A0 c0 B0 m0)|5=>v= .int .i64 d|6=>v= .int .i64 ((d:Nat)+1:Int)|7=>v= .int .i64 b|8=>v= .agg #[.int .i64 (twk (t.args[0]'an) (d+1) b (n+1)).2.1,.int .i64 (twk (t.args[0]'an) (d+1) b (n+1)).2.2]|9=>∃ bq,v= .pointer (some ⟨bq,0,none⟩)/\w32.heap.size<=bq/\Blk wv bq 36 #[.int .i64 0,.int .i64 0]|_=>True) (fun wq=>Blk wq bN 3 #[.int .i64 (((twk (t.args[0]'an) (d+1) b (n+1)).1:Nat):Int)]) kR kR ?_ (fun _ _ h hs=>Blk.tr0 h hs) ?_ ?_ dE ?_
  ·intro ix v wv wv2 h s34
   match ix,h with
   | 0,h=>exact h
   | 1,h=>exact h
   | 2,h=>exact h
   | 3,h=>exact h
   | 4,h=>exact h
   | 5,h=>exact h
   | 6,h=>exact h
   | 7,h=>exact h
   | 8,h=>exact h
   | 9,h=>
    obtain⟨c5,c8,bd,b1⟩:=h;exact⟨c5,c8,bd,b1.tr0 s34⟩
   | _+10,h=>exact trivial
  ·intro ix o hix bn a5 gg wx s35 hd
   match ix,hix,bn,a5 with
   | 0,_,_,a5=>
    cases sI a5;refine qZ (qy (v:= .func _ _ _) underlying122 rfl rfl (bf.u.cell rfl)) ⟨Same.refl _ _,?_⟩;exact rfl
   | 1,_,_,a5=>
    cases sI a5;refine qZ (u6 U44 sz42 dE rfl rfl rfl) ⟨Same.refl _ _,?_⟩;exact rfl
   | 2,_,_,a5=>
    cases sI a5;refine a7 144 (hd 1 a8) ?_;refine qZ (qy (v:= .slice _ _ _) U42 rfl rfl (bg.u.cell rfl)) ⟨Same.refl _ _,?_⟩;exact rfl
   | 3,_,_,a5=>
    cases sI a5;refine a7 145 (hd 2 a8) ?_;refine qZ (x9 (i:=0) U42 Kv rfl rfl an rfl) ⟨Same.refl _ _,?_⟩;exact rfl
   | 4,_,_,a5=>
    cases sI a5;replace hB:=hB.tr1 s35 cu;refine a7 146 (hd 3 a8) ?_;refine qZ (qw U44 rfl rfl (hB.range htb htr) Kv) ⟨Same.refl _ _,?_⟩;exact rfl
   | 5,_,_,a5=>
    cases sI a5;refine qZ (xz (v:= .int _ _) rfl) ⟨Same.refl _ _,?_⟩;exact rfl
   | 6,_,_,a5=>
    cases sI a5;refine a7 148 (hd 5 a8) ?_;refine qZ (Z4 rfl rfl rfl oG) ⟨Same.refl _ _,?_⟩;exact rfl
   | 7,_,_,a5=>
    cases sI a5;refine qZ (xz (v:= .int _ _) rfl) ⟨Same.refl _ _,?_⟩;exact rfl
   | 8,_,bn,_=>exact absurd rfl bn
   | 9,_,_,a5=>
    cases sI a5;have hs0:=s35;refine jK (fun ops Q K=>?_);refine qW (cs:=#[.int .i64 0,.int .i64 0]) x6 rfl (fun c5 w36 b1 s36 hr=>?_);exact K _ _ ⟨s36,⟨_,rfl,nLT hs0.size hr,b1⟩⟩
   | _+10,hix,_,_=>exact absurd hix oG
  ·intro o a5 gg wx s37 hd;cases sI a5;replace hC:=hC.st s37 (by simp);refine a7 143 (hd 0 a8) (a7 147 (hd 4 a8) (a7 149 (hd 6 a8) (a7 150 (hd 7 a8) ?_)));refine jK (fun ops Q K=>?_);refine yy rfl kR (IH (t.args[0]'an) (am an) A0 B0 c0 m0 (d+1) b (n+1) _ cw cv oG oG oG hB.u a3.u bf.u) rfl rfl (fun e' w2 hr=>?_);obtain⟨rfl,br,cz⟩:=hr;have hs2:=br.one;refine⟨_,rfl,K _ _ ⟨hs2,rfl,cz,fun kx v bn h=>?_⟩⟩
   match kx,bn,h with
   | 0,_,h=>exact h
   | 1,_,h=>exact h
   | 2,_,h=>exact h
   | 3,_,h=>exact h
   | 4,_,h=>exact h
   | 5,_,h=>exact h
   | 6,_,h=>exact h
   | 7,_,h=>exact h
   | 8,bn,_=>exact absurd rfl bn
   | 9,_,h=>
    obtain⟨c5,c8,bd,b1⟩:=h;exact⟨c5,c8,bd,b1.tr1 hs2 oG⟩
   | _+10,_,_=>exact trivial
  intro gg w37 cf cz hR;replace hB:=hB.tr1 cf cu;replace hC:=hC.st cf (fun g hg=>by rw[List.mem_singleton.1 hg];first|exact .inl rfl|exact .inr or_hC_bN);replace a3:=cz;obtain⟨c5,c8,bd,b1⟩:=hR 9 dE;have b6:w.heap.size<=c5:=by omega
  refine xj 151 _ (hR 8 dE) nu (xj 11 _ c8 nu ?_);refine zZ b1 rfl rfl zj rfl qz (fun w38 hq ce=>?_);replace hB:=hB.tr1 ce (nLT cx bd);replace hC:=hC.st ce (fun g hg=>by rw[List.mem_singleton.1 hg];first|exact .inl rfl|exact .inr b6);replace b1:=hq;refine zn9 ?_;refine zQ rfl (fun b7=>?_) (fun b7=>?_)
  ·rw[if_neg b7]at c3;refine zn3 ?_;refine zZ a2.u rfl rfl zj rfl qz (fun w39 hq s40=>?_);replace hC:=hC.st s40 (fun g hg=>by rw[List.mem_singleton.1 hg];first|exact .inl rfl|exact .inr a1);replace a2:=hq;refine zn6 ?_;refine xK (.inl rfl) rfl (zW U36 rfl rfl a2.range0 zj) ?_;rw[c3];exact⟨rfl,hC,a3.u⟩
  have b7:(twk (t.args[0]'an) (d+1) b (n+1)).2.1=0:=ak.1 b7;rw[if_pos b7]at c3;obtain⟨_,_,_,q1,q2⟩:=RZ _ _ _ _ b7;have hn3:(twk (t.args[0]'an) (d+1) b (n+1)).1<=200:=by rw[q1];exact q2
  refine zn3 ?_;refine X1 8 kR kR (fun w40 s41=>?_);replace hC:=hC.st s41 (by simp);refine zn3 ?_;refine ws (x9 (i:=1) U42 Kv rfl rfl c6 rfl) (zn4 ?_);refine QY ?_;refine yy rfl kR (IH (t.args[1]'c6) (am c6) A1 B1 c1 m1 (d+1) (b) ((twk (t.args[0]'an) (d+1) b (n+1)).1) _ ks1 kt1 hn3 oG oG hB.u a3.u bf.u) rfl rfl (fun e' w41 hr=>?_);obtain⟨rfl,br,bo⟩:=hr;replace hC:=hC.trans br (fun g hg=> .inl hg);replace a2:=((a2.tr1 cf oG).tr1 ce oG).tr0 s41;replace a2:=a2.chG br (fun hx=>by have hx:b8=bN:=hx;omega);replace a3:=bo;refine⟨_,rfl,?_⟩;refine zZ a2 rfl rfl zj rfl qz (fun w42 hq s42=>?_);replace hC:=hC.st s42 (fun g hg=>by rw[List.mem_singleton.1 hg];first|exact .inl rfl|exact .inr a1);replace a2:=hq;refine zn5 ?_;refine xK (.inl rfl) rfl (zW U36 rfl rfl a2.range0 zj) ?_;rw[c3];exact⟨rfl,hC,a3.u⟩
 have a4:ndC b t=4:=by unfold ndC;rw[if_neg b4,if_neg bh,if_neg bi,if_neg bj]
 refine zn3 ?_;refine yy rfl Sv (Z2 b9 _ _ _ ao) rfl rfl (fun e' w43 hr=>?_);obtain⟨rfl,cd⟩:=hr;replace cd:=sB cd;replace hC:=hC.st cd (by simp);refine⟨_,rfl,?_⟩;refine zZ a2.u rfl rfl zj rfl qz (fun w44 hq s44=>?_);replace hC:=hC.st s44 (fun g hg=>by rw[List.mem_singleton.1 hg];first|exact .inl rfl|exact .inr a1);replace a2:=hq;refine zn5 ?_;refine xK (.inl rfl) rfl (zW U36 rfl rfl a2.range0 zj) ?_;rw[X6 b3 (show ndC b t=4 from a4) dE];exact⟨rfl,hC,a3.u⟩
theorem twk_anyK(l0N:w0.heap.size<=bN)(a1:w0.heap.size<=bV)(nVN:bV≠bN):∀(k:Nat) (t:Tm),SizeOf.sizeOf t<k->∀(A B:Option Addr) (c m d b n:Nat) (w:World),SimsIn w0 A t.type.args->TmsIn w0 B t.args->n<=200->d<=41->b<=d->Bel w0 w->Blk w bN 3 #[.int .i64 ((n:Nat):Int)]->Blk w bV 122 #[.func (.func 71) #[] (cH bN bV)]->Calls prog 71 #[.agg (cA (t) A c B m),.int .i64 ((d:Nat):Int),.int .i64 ((b:Nat):Int),.pointer (some ⟨bN,0,none⟩),.pointer (some ⟨bV,0,none⟩)] w fun e w'=>e= .returned (flV (twk t d b n).2)/\ChG (fun g=>g=bN) w w'/\Blk w' bN 3 #[.int .i64 (((twk t d b n).1:Nat):Int)]:=by
 intro k
 induction k with
 | zero=>intro t h;omega
 | succ k ih=>
  intro t h A B c m d b n w hS hT hn hd hbd hB hbN hbV;refine twk_step l0N a1 nVN hS hT (fun x hx A2 B2 c2 m2 d2 b2 n2 w2 h1 h2 h3 h4 h5 h6 h7 h8=>ih x ?_ A2 B2 c2 m2 d2 b2 n2 w2 h1 h2 h3 h4 h5 h6 h7 h8) hn hd hbd hB hbN hbV;have:=List.sizeOf_lt_of_mem hx;cases t with
  | mk k nm i s l=>simp only[Tm.mk.sizeOf_spec,Tm.args]at h this;omega
theorem twk_any(l0N:w0.heap.size<=bN)(a1:w0.heap.size<=bV)(nVN:bV≠bN)(t:Tm)(A B:Option Addr)(c m d b n:Nat)(w:World):SimsIn w0 A t.type.args->TmsIn w0 B t.args->n<=200->d<=41->b<=d->Bel w0 w->Blk w bN 3 #[.int .i64 ((n:Nat):Int)]->Blk w bV 122 #[.func (.func 71) #[] (cH bN bV)]->Calls prog 71 #[.agg (cA (t) A c B m),.int .i64 ((d:Nat):Int),.int .i64 ((b:Nat):Int),.pointer (some ⟨bN,0,none⟩),.pointer (some ⟨bV,0,none⟩)] w fun e w'=>e= .returned (flV (twk t d b n).2)/\ChG (fun g=>g=bN) w w'/\Blk w' bN 3 #[.int .i64 (((twk t d b n).1:Nat):Int)]:=twk_anyK l0N a1 nVN (SizeOf.sizeOf t+1) t (aI _) A B c m d b n w
theorem in165:(prog.info? 165).map (fun i=>(i.zero,i.size,i.bytes))=some (some (.agg #[.int .i64 0,.string ⟨#[]⟩,.string ⟨#[]⟩,.slice none 0 0,.int .i64 0,.slice none 0 0,.int .i64 0]),7,104):=by kernel_rfl
theorem HQ:(prog.info? 165).map (·.size)=some 7:=by kernel_rfl
theorem N8:(prog.info? 59).map (·.size)=some 1:=by kernel_rfl
theorem ze165:(prog.info? 165).map (·.zero)=some (some (.agg #[.int .i64 0,.string ⟨#[]⟩,.string ⟨#[]⟩,.slice none 0 0,.int .i64 0,.slice none 0 0,.int .i64 0])):=by kernel_rfl
set_option maxRecDepth 100000 in
set_option maxHeartbeats 4000000 in
theorem rows_step{v:Tv}{up:Int}{vs:List Value}{A B R:Option Addr}{c m cap:Nat}(hS:SimsIn w0 A v.tm.type.args)(hT:TmsIn w0 B v.tm.args)(hB:Bel w0 w)(ho:Own w w0.heap.size 165 7 R (n) cap (vs))(hlen:n+v.size<=1000)(IH:∀(x:Tv),x.size<v.size->∀(up2:Int) (n2:Nat) (vs2:List Value) (A2 B2 R2:Option Addr) (c2 m2 a9:Nat) (w2:World),SimsIn w0 A2 x.tm.type.args->TmsIn w0 B2 x.tm.args->Bel w0 w2->Own w2 w0.heap.size 165 7 R2 (n2) a9 (vs2)->n2+x.size<=1000->Calls prog 99 #[.agg (cA (Tv.tm (x)) A2 c2 B2 m2),.int .i64 (up2),.slice R2 (n2) a9] w2 fun e w'=>∃(R':Option Addr) (b1:Nat) (zs:List Value),e= .returned (.slice R' (n2+Tv.size (x)) b1)/\Own w' w0.heap.size 165 7 R' (n2+Tv.size (x)) b1 (vs2++zs)/\RwsIn w0 w' (fun g=>w2.heap.size<=g) (rws (up2) (n2) (x)) zs/\ChG (fun g=>g∈aL R2) w2 w'/\∀ g∈aL R',g∈aL R2\/w2.heap.size<=g):Calls prog 99 #[.agg (cA (Tv.tm (v)) A c B m),.int .i64 (up),.slice R (n) cap] w fun e w'=>∃(R':Option Addr) (b1:Nat) (zs:List Value),e= .returned (.slice R' (n+Tv.size (v)) b1)/\Own w' w0.heap.size 165 7 R' (n+Tv.size (v)) b1 (vs++zs)/\RwsIn w0 w' (fun g=>w.heap.size<=g) (rws (up) (n) (v)) zs/\ChG (fun g=>g∈aL R) w w'/\∀ g∈aL R',g∈aL R\/w.heap.size<=g:=by
 have hw0:w0.heap.size<=w.heap.size:=Bel.size hB;have hC:ChG (fun g=>g∈aL R) w w:=ChG.refl _ _;have hA:∀ g∈aL R,g∈aL R\/w.heap.size<=g:=fun g hg=> .inl hg
 have hvl:=ho.len;have hps:=parts_sum v;have hpl:=parts_len v;have hvp:=v.pos;have hnk:v.tm.args.length=v.parts.length:=by rw[CK,List.length_map]
 refine enter func99 ntmps99 rfl (aD rfl) (zn2 ?_);refine xy (v:= .agg #[_,_,_,_,_,_]) (cs:=#[_,_,_,_,_,_]) rfl rfl (fun b3 w1 a1 s1 hr=>?_);have a4:=ho.ob hr;have bg:=(nLT hC.size hr)
 have lo3:=hB.ob hr;replace hC:=hC.st s1 (by simp);refine jq ?_;have hCs:=hC.size;refine zn7 ?_;refine wl (qw U41 rfl rfl (a1.sub (n:=2) (xs:=[_,_]) rfl) yv) (zn3 ?_);refine wl (Lj (v0:= .int _ _) (v1:= .string _) (v2:= .agg _) (v3:= .int _ _) (v4:= .int _ _) (fun v0 v1 v2 v3 v4=>#[v0,v1,(x5 v2 0),(x5 v2 1),v3,.slice none 0 0,v4]) rfl rfl rfl rfl rfl kR) ?_;refine qV (cs:=#[_,_,_,_,_,_,_]) [(0,.agg _)] rfl U162 HQ ze165 dE dE kR rfl (fun b22 w2 bk s2 hr=>?_);replace ho:=ho.tr0 s1;have bc:=ho.ob hr;have be:=(nLT hC.size hr)
 have:=a1.ob hr;have lo22:=hB.u.ob hr;replace hC:=hC.st s2 (by simp);replace ho:=ho.tr0 s2;refine j7 U162 in165 rfl dE ho bk rfl rfl rfl qz dE oG oG (Bel.size hB.u) (fun bv cap23 w3 br s3 hg=>?_);have b8:bv≠b3:=neB a1.u.lt hg (fun g hg=>by have:=a4 g hg;omega)
 replace hB:=hB.u.tr s3 (fun g hg=>nLT (ah _) (ho.lt g hg).1);replace hC:=hC.st s3 (fun g hg=>by first|exact hA g hg|exact .inr (ho.lt g hg).1);replace a1:=a1.tr0 s2;replace a1:=a1.tb s3 (fun g hg=>by have:=a4 g hg;omega);have hA:∀ g∈aL (some (⟨bv,0,none⟩:Addr)),g∈aL R\/w.heap.size<=g:=fun g hm=>by
   rw[List.mem_singleton.1 hm];rcases hg with h|h
   · exact .inl (by rw[h];exact aq.2 rfl)
   · exact .inr (by show w.heap.size<=bv;have:=bk.lt;omega)
 have ho:=br;refine uw ?_;refine qx (rg [2,8] 27 25) (fun mm g w'=>∃(j:Nat) (ks:List Int) (t:List Rw) (R2:Option Addr) (a9:Nat) (ys:List Value) (K:Option Addr) (ck:Nat),j<=v.parts.length/\mm=v.parts.length-j/\g 27= .int .i64 j/\g 2= .slice R2 (n+1+t.length) a9/\ks.length=j/\n+1+t.length+((v.parts.drop j).map Tv.size).sum=n+v.size/\G8 n v.parts [] []=G8 n (v.parts.drop j) ks t/\Bel w0 w'/\Blk w' b3 44 (cA (Tv.tm v) A c B m)/\Own w' w0.heap.size 165 7 R2 (n+1+t.length) a9 (vs++rwV (hd v up ks) A c K ck++ys)/\Own w' w.heap.size 3 1 K ks.length ck (iV ks)/\RwsIn w0 w' (fun g=>w.heap.size<=g/\g∉aL K) t ys/\ChG (fun g=>g∈aL R) w w'/\∀ g∈aL R2,g∈aL R\/w.heap.size<=g) (v.parts.length) ?_ (fun m g4 w4 hI=>?_)
 ·exact⟨0,[],[],_,_,[],none,0,ag _,rfl,rfl,rfl,rfl,by simp only[List.length_nil,List.drop_zero];omega,rfl,hB,a1,(by rw[List.append_nil];exact ho),Own.nil _ _ _ _,.nil,hC,hA⟩
 obtain⟨j,ks,t,R2,a9,ys,K,ck,hj,hmj,h27,h2,hkl,an,ao,hB,a1,ho,a3,ac,hC,hA⟩:=hI;refine zX 27 _ h27 nu (zX 2 _ h2 nu (zn6 ?_));refine zQ rfl (fun c28=>?_) (fun c28=>?_)
 ·have b2:j<v.parts.length:=by omega
  obtain⟨tb,to,A0,c0,B0,m0,rfl,htb,htr,ks0,kt0⟩:=tms_part hT b2;rw[List.drop_eq_getElem_cons b2]at ao an;simp only[List.map_cons,List.sum_cons]at an;simp only[G8]at ao;have hxp:=Tv.pos (v.parts[j]'b2);refine jq ?_;obtain⟨q,cur,rfl,hqb,ab,hcs,bt,bo⟩:=ho.open_ oG;have a5:∀ g∈aL K,g≠q:=Xz a3 ab dE;have a2:∀ g∈aL K,g≠b3:=Xz a3 a1 dE;have bm:b3≠q:=fun e=>absurd (jy (e ▸ a1) ab) dE
  have hk5:cur[0+n*7+5]? =some (.slice K ks.length ck):=(bt _ oG).trans (rw_kid hvl);obtain⟨z6,bn⟩:∃ z,z=w4.heap.size:=⟨_,rfl⟩
  have b9:z6<=w4.heap.size:=ay bn;replace ac:RwsIn w0 w4 (fun g=>w.heap.size<=g/\g∉aL K/\g<z6) t ys:=ac.weak (fun g h1 h2=>⟨h2.1,h2.2,by omega⟩);have hCs:=hC.size;refine zn7 ?_;refine wl (qy (v:= .slice _ _ _) U59 rfl rfl (ab.cell hk5)) (zn2 ?_);refine qV (cs:=#[_]) [(0,.int _ _)] rfl U59 qk Z1 dE dE kR rfl (fun b39 w5 bj s4 hr=>?_);have:=a1.ob hr;have b6:=a3.ob hr;have bd:=(nLT hC.size hr)
  have:=ab.ob hr;have b5:=(nLT b9 hr)
  have lo39:=hB.ob hr;replace hC:=hC.st s4 (by simp);replace ac:=ac.tr s4 (by simp);replace b9:=zV b9 s4;replace a3:=a3.tr0 s4;refine j7 U59 in3 rfl dE a3 bj rfl rfl rfl qz dE oG oG hC.size (fun bb b4 w6 bq s5 hg=>?_);replace ab:=ab.tr0 s4;have b7:bb≠b3:=neB a1.u.lt hg (fun g hg=>by have:=a2 g hg;omega)
  have bf:bb≠q:=neB ab.lt hg (fun g hg=>by have:=a5 g hg;omega)
  replace hB:=hB.u.tr s5 (fun g hg=>nLT hw0 (a3.lt g hg).1);replace a1:=a1.tr0 s4;replace a1:=a1.tb s5 (fun g hg=>by have:=a2 g hg;omega);replace hC:=hC.st s5 (fun g hg=>by first|exact hA g hg|exact .inr (a3.lt g hg).1);replace ac:=ac.tr s5 (fun g hg=>by first|exact .inl (fun h=>h.2.1 hg)|(obtain⟨cs,hc⟩:=(a3).typ g hg;exact .inr ⟨cs,_,hc,by decide⟩));replace ab:=ab.tb s5 (fun g hg=>by have:=a5 g hg;omega);replace b9:=zV b9 s5
  have ac:RwsIn w0 w6 (fun g=>w.heap.size<=g/\g∉aL (some (⟨bb,0,none⟩:Addr))) t ys:=ac.weak (fun g _ hd=>⟨hd.1,fun hm=>by
    have e:g=bb:=aq.1 hm;rcases hg with h|h
    · exact hd.2.1 (by rw[h,e];exact aq.2 rfl)
    · have:=bj.lt
      have:=hd.2.2
      omega⟩)
  have a3:Own w6 w.heap.size 3 1 (some ⟨bb,0,none⟩) (ks++[((n+1+t.length:Nat):Int)]).length b4 (iV (ks++[((n+1+t.length:Nat):Int)])):=by
    have e1:(ks++[((n+1+t.length:Nat):Int)]).length=ks.length+1:=by simp
    have e2:iV (ks++[((n+1+t.length:Nat):Int)])=iV ks++[.int .i64 ((n+1+t.length:Nat):Int)]:=by simp[iV]
    rw[e1,e2];exact bq
  refine zn2 ?_;refine xQ (v:= .slice _ _ _) ab rfl rfl N8 (by show 0+n*7+5<cur.size;omega) rfl rfl (fun w7 hq s6=>?_);replace hB:=hB.tr1 s6 hqb;replace hC:=hC.st s6 (fun g hg=>by rw[List.mem_singleton.1 hg];first|exact .inr or_hC_q|exact hA _ (aq.2 rfl));replace ac:=ac.tr s6 (fun g hg=>by rw[List.mem_singleton.1 hg];exact .inr ⟨_,_,ab,by decide⟩);replace b9:=zV b9 s6;replace a3:=a3.tr1 s6 (Xz a3 ab dE);replace ab:=hq;have ho:Own w7 w0.heap.size 165 7 (some ⟨q,0,none⟩) (n+1+t.length) a9 (vs++rwV (hd v up (ks++[((n+1+t.length:Nat):Int)])) A c (some ⟨bb,0,none⟩) b4++ys):=by
    have h:=bo _ (0+n*7+5) _ ab;rw[show ks.length+1=(ks++[((n+1+t.length:Nat):Int)]).length by simp,rw_set hvl]at h;exact h
  have hA:∀ g∈aL (some (⟨q,0,none⟩:Addr)),g∈aL R\/w.heap.size<=g:=hA;refine yW ?_;refine qq kR (IH (v.parts[j]'b2) (parts_lt (am b2)) n (n+1+t.length) _ A0 B0 _ c0 m0 _ _ ks0 kt0 hB ho oG) rfl (fun e' w8 hr=>?_);obtain⟨R3,bw,zs,rfl,ho3,bu,hC3,hA3⟩:=hr;have hKl:=fun g hg=>(a3.lt g hg).2
  have bi:=hC3.same;have hCz:=hC.size;replace bu:=bu.weak (D':=fun g=>w.heap.size<=g/\g∉aL (some (⟨bb,0,none⟩:Addr))) (fun g _ hd=>⟨nLT hCz hd,fun hm=>by have:=hKl g hm;omega⟩);replace hB:=hB.tr bi (fun g hg=>(ho.lt g hg).1);replace a1:=a1.tr1 s6 oG;replace a1:=a1.tr bi (fun hx=>Xz ho a1 dE _ hx rfl);replace a3:=a3.tr bi (Fy a3 ho dE);replace ac:=ac.tr bi (fun g hg=>by obtain⟨cs,hc⟩:=ho.typ g hg;exact .inr ⟨cs,_,hc,by decide⟩);replace hC:=hC.st bi hA;replace hA:∀ g∈aL R3,g∈aL R\/w.heap.size<=g:=fun g hg=>(hA3 g hg).elim (fun h=>hA g h) (fun h=> .inr (nLT hCz h))
  replace ho:=ho3;have e3:n+1+(t++rws n (n+1+t.length) (v.parts[j]'b2)).length=n+1+t.length+Tv.size (v.parts[j]'b2):=by rw[List.length_append,Jj];omega
  have bh:n+1+(t++rws n (n+1+t.length) (v.parts[j]'b2)).length+((v.parts.drop (j+1)).map Tv.size).sum=n+v.size:=by omega
  refine⟨_,rfl,?_⟩;refine zn8 ?_;refine x8 (v.parts.length-(j+1)) oG agA ?_;exact⟨j+1,(ks++[((n+1+t.length:Nat):Int)]),t++rws n (n+1+t.length) (v.parts[j]'b2),R3,bw,ys++zs,_,_,by omega,rfl,rfl,(by rw[e3];rfl),(by simp[hkl]),bh,ao,hB,a1,(by rw[e3,<- List.append_assoc];exact ho),a3,ac.app bu,hC,hA⟩
 have hje:j=v.parts.length:=by omega
 rw[hje,List.drop_length]at ao an;simp only[List.map_nil,List.sum_nil,Nat.add_zero]at an;have hrw:rws up n v=hd v up ks::t:=by rw[rws_acc,ao];rfl
 refine uw ?_;rw[hrw];exact⟨R2,a9,rwV (hd v up ks) A c K ck++ys,(by rw[<- an];rfl),(by rw[<- an,<- List.append_assoc];exact ho),.cons hS (KidIn.own a3 rfl) (ac.weak (fun g _ h=>h.1)),hC,hA⟩
theorem rows_any:∀(k:Nat) (v:Tv),v.size<k->∀(up:Int) (n:Nat) (vs:List Value) (A B R:Option Addr) (c m cap:Nat) (w:World),SimsIn w0 A v.tm.type.args->TmsIn w0 B v.tm.args->Bel w0 w->Own w w0.heap.size 165 7 R (n) cap (vs)->n+v.size<=1000->Calls prog 99 #[.agg (cA (Tv.tm (v)) A c B m),.int .i64 (up),.slice R (n) cap] w fun e w'=>∃(R':Option Addr) (a1:Nat) (zs:List Value),e= .returned (.slice R' (n+Tv.size (v)) a1)/\Own w' w0.heap.size 165 7 R' (n+Tv.size (v)) a1 (vs++zs)/\RwsIn w0 w' (fun g=>w.heap.size<=g) (rws (up) (n) (v)) zs/\ChG (fun g=>g∈aL R) w w'/\∀ g∈aL R',g∈aL R\/w.heap.size<=g:=by
 intro k
 induction k with
 | zero=>intro v h;omega
 | succ k ih=>exact fun v h up n vs A B R c m cap w h1 h2 h3 h4 h5=>rows_step h1 h2 h3 h4 h5 (fun x hx=>ih x oG)
theorem rows0_any(v:Tv)(A B:Option Addr)(c m:Nat)(w:World)(hS:SimsIn w A v.tm.type.args)(hT:TmsIn w B v.tm.args)(hl:v.size<=1000)(w1:World)(hB:Bel w w1):Calls prog 99 #[.agg (cA (Tv.tm (v)) A c B m),.int .i64 (-1),.slice none (0) 0] w1 fun e w'=>(∃(q cap:Nat) (zs:List Value),e= .returned (.slice (some ⟨q,0,none⟩) v.size cap)/\Own w' w.heap.size 165 7 (some ⟨q,0,none⟩) v.size cap zs/\RwsIn w w' (fun g=>w1.heap.size<=g) (rws (-1) 0 v) zs)/\Bel w1 w':=by
 refine(rows_any (w0:=w) _ v (aI _) (-1) 0 [] A B none c m 0 w1 hS hT hB (Own.nil _ _ _ _) oG).mono ?_
 rintro e w' ⟨R,cap,zs,rfl,ho,hr,hc,_⟩
 rw[Nat.zero_add,List.nil_append]at ho;have hp:=v.pos;obtain⟨q,rfl,_,_⟩:=ho.cell (by intro e;have:=ho.len;rw[e]at this;simp at this;omega);exact⟨⟨q,cap,zs,by rw[Nat.zero_add],ho,hr⟩,Same.bel hc.same⟩
set_option maxHeartbeats 1000000 in
theorem binder_any{wr:World}{q cap p i:Nat}{ls:List Rw}{r:Rw}{Γ:List Ts}{τ:Ts}(hrd:RdT w0 wr q ls)(hn:ls.length=n)(a5:Bel wr w)(a2:q<wr.heap.size)(hr:ls[p]? =some r)(hri:r.index=(i:Int))(_hup:r.up<(p:Int))(hch:Chn ls r.up Γ)(hti:Γ[i]? =some τ)(hi1:i<=1000):Calls Tryz.prog 100 #[.slice (some ⟨q,0,none⟩) n cap,.int .i64 ((p:Nat):Int)] w fun e w'=>(∃(u:Nat) (ru:Rw),e= .returned (.int .i64 ((u:Nat):Int))/\ls[u]? =some ru/\ru.typ=τ.sm)/\Bel w w':=by
 have hpl:=(au.1 hr).1;obtain⟨A7,c7,K7,ck7,ab,_,_,_⟩:=hrd p r hr;rw[hri]at ab;refine enter Tryz.func100 Tryz.ntmps100 rfl (aD rfl) (jq ?_);refine wl (qy (v:= .int _ _) U3 rfl rfl (a5.cell a2 (ab 4 _ rfl))) (yW ?_);refine wl (qy (v:= .int _ _) U3 rfl rfl (a5.cell a2 (ab 6 _ rfl))) (zn4 ?_);refine qx (rg [4,5,6] 17 18) (fun m g w'=>∃(k:Nat) (z:Int) (Δ:List Ts),m=(z+1).toNat/\k<=i/\g 5= .int .i64 k/\g 6= .int .i64 z/\w=w'/\Chn ls z Δ/\Δ[k]? =some τ) ((r.up+1).toNat) ?_ (fun m g3 w1 hI=>?_)
 ·exact⟨i,r.up,Γ,rfl,ah _,rfl,rfl,rfl,hch,hti⟩
 obtain⟨k,z,Δ,hm,hki,h5,h6,rfl,hcz,hkz⟩:=hI;refine zX 5 _ h5 nu (zX 6 _ h6 nu (zn7 ?_));refine zQ rfl (fun c18=>?_) (fun c18=>?_)
 ·obtain⟨u,rz,rfl,a9,hup2,hlow,a1⟩:=chn_row hcz hkz;have hul:=(au.1 a9).1;obtain⟨A8,c8,K8,ck8,ac,_,_,_⟩:=hrd u rz a9;refine yW ?_;refine wl (qy (v:= .int _ _) U3 rfl rfl (a5.cell a2 (ac 0 _ rfl))) (zn3 ?_);refine zQ rfl (fun an=>?_) (fun an=>?_)
  ·have hq3:=a1.resolve_right (fun h=>h.1 an);clear a1;obtain⟨_,a1⟩:=hq3;refine zn7 ?_;refine zQ rfl (fun c31=>?_) (fun c31=>?_)
   ·have hty:rz.typ=τ.sm:=by
      rcases a1 with ⟨_,h⟩|⟨k',hk',_⟩
      ·exact h
      ·omega
    refine ZV ?_;exact⟨⟨u,rz,rfl,a9,hty⟩,Below.refl _ _⟩
   obtain⟨k2,rfl,Δ2,a3,a4⟩:=a1.resolve_left (fun h=>c31 (by rw[h.1];rfl));clear a1;refine zn4 ?_;refine wl (kZ (c:=((k2:Nat):Int)) rfl rfl (show ((k2:Int)+1)-1=k2 from Int.add_sub_cancel _ _) oG) (zn9 ?_);refine wl (qy (v:= .int _ _) U3 rfl rfl (a5.cell a2 (ac 6 _ rfl))) (zn2 ?_);refine x8 ((rz.up+1).toNat) oG agA ?_
   first
     | exact⟨k2,rz.up,Δ2,rfl,by omega,rfl,rfl,rfl,a4,a3⟩
     | exact⟨k,rz.up,Δ2,rfl,hki,rfl,rfl,rfl,a4,a3⟩
  obtain⟨_,Δ2,a3,a4⟩:=a1.resolve_left (fun h=>an h.1);clear a1;refine zn8 ?_;refine wl (qy (v:= .int _ _) U3 rfl rfl (a5.cell a2 (ac 6 _ rfl))) (zn2 ?_);refine x8 ((rz.up+1).toNat) oG agA ?_
  first
    | exact⟨k2,rz.up,Δ2,rfl,by omega,rfl,rfl,rfl,a4,a3⟩
    | exact⟨k,rz.up,Δ2,rfl,hki,rfl,rfl,rfl,a4,a3⟩
 obtain⟨u,rz,rfl,_⟩:=chn_row hcz hkz;exact absurd (Int.natCast_nonneg u) c18
section
section seven
variable {P:Program} {Q:Exit->Act->World->Prop} {n:Nw} {f:Fr} {w:World}
def stU(st:Nat->Bool)(i k:Nat):Bool:=if k=i then true else st k
def stL(sp:Nat->Bool)(listed:Array Bool)(k:Nat):Bool:=listed.getD k false&&sp k
def P9(l:List Oper):Nat->Nat->Nat->Bool
 | 0,_,_=>false
 | k+1,s,i=>match l[s]? with
  | some o=>(vk o).any (fun j=>Nat.beq j i||P9 l k j i)
  | none=>false
theorem L9{l:List Oper}{listed:Array Bool}(hD:Dn l listed):∀ {k s i:Nat},P9 l k s i=true->listed.getD s false=true->listed.getD i false=true
 | 0,_,_,h,_=>by cases h
 | k+1,s,i,h,hs=>by
  unfold P9 at h
  cases ho:l[s]? with
  | none=>rw[ho]at h;cases h
  | some o=>
   rw[ho]at h
   obtain⟨j,hj,h2⟩:=List.any_eq_true.1 h
   have hjl:=hD s o ho hs j hj
   rw[Bool.or_eq_true]at h2
   rcases h2 with h2|h2
   ·rw[<- Nat.eq_of_beq_eq_true h2];exact hjl
   ·exact L9 hD h2 hjl
theorem c_monoU{id:Nat}{l:List Oper}(m:Nat)(S X:List Nat)(sp:Nat->Bool)(R:(Nat->Bool)->Nat->Value->Nat->Nat->World->Prop)(hm:P.follows .mixedOrders=true)(hB:B3 l m S=true)
  (hst:∀ st i v la ha w1 w2,R st i v la ha w1->Same [] w1 w2->R st i v la ha w2)
  (step:∀ st i o,i<m->sp i=false->l[i]? =some o->(∀ s,sp s=true->P9 l m s i=true->st s=false)->∀ f' w' (la ha:Nat->Nat),Same X w w'->Ag S f' f->(∀ j o',j∈vk o->l[j]? =some o'->R st j (vO f' o') (la j) (ha j) w')->OS P n f' w' o (fun v w''=>Same [] w' w''/\R st i v w'.heap.size w''.heap.size w''))
  (a9:∀ st i o,i<m->sp i=true->st i=false->l[i]? =some o->(∀ s,sp s=true->P9 l m s i=true->st s=false)->∀ f' w' (la ha:Nat->Nat),Same X w w'->Ag S f' f->(∀ j o',j∈vk o->l[j]? =some o'->R st j (vO f' o') (la j) (ha j) w')->(∀ j k,j∈vk o->k∈vk o->j≠k->ha j<=la k\/ha k<=la j)->OS P n f' w' o (fun v w''=>Same X w w''/\w'.heap.size<=w''.heap.size/\rO (fun i v w''=>R (stU st i) i v w'.heap.size w''.heap.size w'') i o v w''/\∀ k o',k≠i->l[k]? =some o'->R st k (vO f' o') (la k) (ha k) w'->R (stU st i) k (vO f' o') (la k) (ha k) w''))
  (b4:∀ i o,l[i]? =some o->o.dst=none->sp i=true)
  (fin:∀ st f' w' (la ha:Nat->Nat),(∀ k,k<m->sp k=true->st k=true)->Same X w w'->Ag S f' f->(∀ i o,l[i]? =some o->R st i (vO f' o) (la i) (ha i) w')->(∀ i j,i<m->j<m->i≠j->ha i<=la j\/ha j<=la i)->WL P l.toArray Q [] n f' w'):WC P (.region id l.toArray true) Q n f w:=by
 simp only[B3,Bool.and_eq_true,List.all_eq_true,List.mem_range,decide_eq_true_eq]at hB;obtain⟨hlm,hB⟩:=hB;have b2:∀ i o,l[i]? =some o->o.guard=none/\(∀ j∈vk o,j<i)/\(∀ v f',Ag S f' f->Ag S (ZY f' o.dst v) f)/\(∀ f' v,vO (ZY f' o.dst v) o=(match o.dst with|some _=>v|none=>undef))/\∀ f' v j o',l[j]? =some o'->i≠j->vO (ZY f' o.dst v) o'=vO f' o':=fun i o ho=>by
  have hil:i<l.length:=(au.1 ho).1;have h:=hB i hil;simp only[ho,Bool.and_eq_true]at h;obtain⟨⟨h1,h2⟩,h3⟩:=h;refine⟨Option.isNone_iff_eq_none.1 h1,(fun j hj=>by simpa using aC.1 h2 j hj),?_⟩;unfold vO ZY;cases hd:o.dst with
  | none=>exact⟨fun v f' h=>h,fun f' v=>rfl,fun f' v j o' _ _=>rfl⟩
  | some d=>
   simp only[hd,Bool.and_eq_true]at h3;refine⟨fun v f' h=>OW h3.1 h,fun f' v=>by simp[upd],fun f' v j o' a1 a3=>?_⟩;have h4:=aC.1 h3.2 j (aw.2 (au.1 a1).1);cases hd':o'.dst with
   | none=>rfl
   | some d'=>
    simp only[a1,hd']at h4;have hb:Nat.beq d' d=false:=by
     cases hb:Nat.beq d' d
     ·rfl
     ·rw[Nat.eq_of_beq_eq_true hb]at h4;simp[a3]at h4
    simp only[upd,hb,cond_false]
 let J:Array Bool->Fr->World->Prop:=fun listed f' w'=>Same X w w'/\Ag S f' f/\∃ la ha:Nat->Nat,(∀ i o,l[i]? =some o->listed.getD i false=true->R (stL sp listed) i (vO f' o) (la i) (ha i) w')/\(∀ j,j<l.length->listed.getD j false=true->ha j<=w'.heap.size)/\∀ i j,i<l.length->j<l.length->i≠j->listed.getD i false=true->listed.getD j false=true->ha i<=la j\/ha j<=la i
 refine EV J hm (fun w' hs=>⟨hs.weak (by simp),Xk,fun _=>0,fun _=>0,fun i _ _ h=>absurd h Q3,fun i _ h=>absurd h Q3,fun i j _ _ _ h=>absurd h Q3⟩) ?_
 rintro listed f' w' ⟨hsm,hag,la,ha,hR,hH,hI⟩ hs hD
 by_cases a2:∀ i,i<l.length->listed.getD i false=true
 ·have h:=fin (stL sp listed) f' w' la ha (fun k hk hsk=>by unfold stL;rw[a2 k oG,hsk];rfl) hsm hag (fun i o ho=>hR i o ho (a2 i (au.1 ho).1)) (fun i j hi hj a3=>hI i j oG oG a3 (a2 i oG) (a2 j oG))
  exact .inl (any_done a2 h)
 ·obtain⟨a,hb⟩:=aY.1 a2
  obtain⟨hb1,hb⟩:=aU.1 hb;refine .inr ⟨I6 hs (fun i o _ ho=>(b2 i o ho).2.1) (ah _) a hb1 (by simpa using hb),fun i o hil ho hn hd=>?_⟩;obtain⟨hg,hdl,hau,hus,huo⟩:=b2 i o ho;refine⟨fun _=>?_,fun hw=>by simp[Region.wanted,hg]at hw⟩;have hns:∀ s,sp s=true->P9 l m s i=true->stL sp listed s=false:=fun s _ hr=>by
   unfold stL;cases hls:listed.getD s false with
   | false=>rfl
   | true=>rw[L9 hD hr hls]at hn;cases hn
  have nx:∀ v w'',Same X w w''->w'.heap.size<=w''.heap.size->R (stL sp (listed.setIfInBounds i true)) i (match o.dst with|some _=>v|none=>undef) w'.heap.size w''.heap.size w''->(∀ k o',k≠i->l[k]? =some o'->R (stL sp listed) k (vO f' o') (la k) (ha k) w'->R (stL sp (listed.setIfInBounds i true)) k (vO f' o') (la k) (ha k) w'')->J (listed.setIfInBounds i true) (ZY f' o.dst v) w'':=fun v w'' hs1 hsz hr1 hk1=>⟨hs1,hau v f' hag,fun k=>if k=i then w'.heap.size else la k,fun k=>if k=i then w''.heap.size else ha k,fun j o' a1 b1=>by
   by_cases a4:i=j
   ·subst a4
    rw[ho]at a1;cases a1;rw[hus];simp only[if_true];exact hr1
   ·rw[gse a4]at b1
    rw[huo _ _ j o' a1 a4];simp only[if_neg (Ne.symm a4)];exact hk1 j o' (Ne.symm a4) a1 (hR j o' a1 b1),fun j hj b1=>by
   by_cases a4:i=j
   ·subst a4;simp
   ·rw[gse a4]at b1
    simp only[if_neg (Ne.symm a4)];exact nLT (hH j hj b1) hsz,fun j k hj hk a3 b5 b3=>by
   by_cases e1:i=j
   ·subst e1
    rw[gse a3]at b3;simp only[if_true,if_neg (Ne.symm a3)];exact .inr (hH k hk b3)
   ·rw[gse e1]at b5
    by_cases e2:i=k
    ·subst e2
     simp only[if_true,if_neg (Ne.symm e1)];exact .inl (hH j hj b5)
    ·rw[gse e2]at b3
     simp only[if_neg (Ne.symm e1),if_neg (Ne.symm e2)]
     exact hI j k hj hk a3 b5 b3⟩
  have ab:∀ k,k≠i->stL sp (listed.setIfInBounds i true) k=stL sp listed k:=fun k hk=>by
   unfold stL;rw[gse (Ne.symm hk)]
  have ao:stL sp (listed.setIfInBounds i true) i=sp i:=by unfold stL;rw[gss oG];rfl
  cases hsp:sp i with
  | false=>
   have an:stL sp (listed.setIfInBounds i true)=stL sp listed:=by
    funext k
    by_cases a5:k=i
    ·subst a5;rw[ao,hsp];unfold stL;rw[hsp,Bool.and_false]
    ·exact ab k a5
   have h1:=step (stL sp listed) i o oG hsp ho hns f' w' la ha hsm hag (fun j o' b6 a1=>hR j o' a1 (hd j b6));unfold OS at h1 ⊢;refine fun K Q' hK=>h1 K Q' (fun v w'' ⟨h1,h2⟩=>hK v w'' (nx v w'' (hsm.trans (h1.weak (by simp))) h1.size ?_ (fun k o' _ _ h=>by rw[an];exact hst _ _ _ _ _ _ _ h h1)))
   rw[an];cases hdst:o.dst with
   | none=>have:=b4 i o ho hdst;rw[hsp]at this;cases this
   | some d=>exact h2
  | true=>
   have ac:stL sp (listed.setIfInBounds i true)=stU (stL sp listed) i:=by
    funext k
    unfold stU;by_cases a5:k=i
    ·subst a5;rw[ao,hsp,if_pos rfl]
    ·rw[if_neg a5];exact ab k a5
   have h1:=a9 (stL sp listed) i o oG hsp (by unfold stL;rw[hn];rfl) ho hns f' w' la ha hsm hag (fun j o' b6 a1=>hR j o' a1 (hd j b6)) (fun j k hj hk a3=>hI j k (by have:=hdl j hj;omega) (by have:=hdl k hk;omega) a3 (hd j hj) (hd k hk));unfold OS at h1 ⊢;refine fun K Q' hK=>h1 K Q' (fun v w'' ⟨h1,h2,h3,h4⟩=>hK v w'' (nx v w'' h1 h2 ?_ (fun k o' hk a1 h=>by rw[ac];exact h4 k o' hk a1 h)))
   rw[ac];unfold rO at h3;cases hdst:o.dst<;>simpa only[hdst]using h3
theorem c_monoUO{id:Nat}{l:List Oper}(m:Nat)(S X:List Nat)(sp:Nat->Bool)(R:(Nat->Bool)->Nat->Value->Nat->Nat->World->Prop)(hm:P.follows .mixedOrders=true)(hB:B3 l m S=true)(hsp:(List.range m).all (fun i=>match l[i]? with|some o=>o.dst.isSome||sp i|none=>true)=true)
  (hst:∀ st i v la ha w1 w2,R st i v la ha w1->Same [] w1 w2->R st i v la ha w2)
  (step:∀ st i o,i<m->l[i]? =some o->(∀ s,sp s=true->P9 l m s i=true->st s=false)->∀ g w' (la ha:Nat->Nat),Same X w w'->(∀ j o',j∈vk o->l[j]? =some o'->R st j (vO g o') (la j) (ha j) w')->bif sp i then st i=false->(∀ j k,j∈vk o->k∈vk o->j≠k->ha j<=la k\/ha k<=la j)->OS P n (ovr S g f) w' o (fun v w''=>Same X w w''/\w'.heap.size<=w''.heap.size/\rO (fun i v w''=>R (stU st i) i v w'.heap.size w''.heap.size w'') i o v w''/\∀ k o',k≠i->l[k]? =some o'->R st k (vO g o') (la k) (ha k) w'->R (stU st i) k (vO g o') (la k) (ha k) w'')else OS P n (ovr S g f) w' o (fun v w''=>Same [] w' w''/\R st i v w'.heap.size w''.heap.size w''))
  (fin:∀ st g w' (la ha:Nat->Nat),(∀ k,k<m->sp k=true->st k=true)->Same X w w'->(∀ i o,l[i]? =some o->R st i (vO g o) (la i) (ha i) w')->(∀ i j,i<m->j<m->i≠j->ha i<=la j\/ha j<=la i)->WL P l.toArray Q [] n (ovr S g f) w'):WC P (.region id l.toArray true) Q n f w:=by
 have hlm:l.length=m:=by
  have h:=hB;simp only[B3,Bool.and_eq_true,decide_eq_true_eq]at h;exact h.1
 have a3:∀ {f':Fr},Ag S f' f->f'=ovr S f' f:=fun a1=>o7 a1
 refine c_monoU m S X sp R hm hB hst (fun st i o hi hs ho a4 f' w' la ha a2 a1 hd=>?_) (fun st i o hi hs hn ho a4 f' w' la ha a2 a1 hd hI=>?_) (fun i o ho hd=>?_) (fun st f' w' la ha a5 a2 a1 hR hI=>?_)
 ·have h:=step st i o hi ho a4 f' w' la ha a2 hd
  rw[hs]at h;rw[<- a3 a1]at h;exact h
 ·have h:=step st i o hi ho a4 f' w' la ha a2 hd
  rw[hs]at h;rw[<- a3 a1]at h;exact h hn hI
 ·have hil:=(au.1 ho).1
  have h:=aC.1 hsp i (aw.2 oG)
  simpa[ho,hd]using h
 ·have h:=fin st f' w' la ha a5 a2 hR hI
  rw[<- a3 a1]at h;exact h
end seven
end
end Go.Proofs.YtgcgnkmmbecfmaaGreatDoor
