/- What these functions compute, at every world: lexrule.fault, lexrule.ready, lexrule.check, lexrule.Validate, simple.Clone, term.Clone, term.Size, term.fits and 1 more; and plain laws. -/
import Derived.Test.YtiofaflajkgiaaaGreatDoorU
import Derived.Test.YtiofaflajkgiaaaGreatDoorZst
import Derived.Test.YtiofaflajkgiaaaGreatDoorStk
import Derived.Test.YtiofaflajkgiaaaGreatDoorEng
import Derived.Test.YtiofaflajkgiaaaGreatDoorGEn
import Derived.Test.YtiofaflajkgiaaaGreatDoorDHo
import Derived.Test.YtiofaflajkgiaaaGreatDoorLxd
import Derived.Test.YtiofaflajkgiaaaGreatDoorNTw
namespace Go.Proofs.YtiofaflajkgiaaaGreatDoor
open Go.RowKit Go.Proofs.Tryz
set_option maxHeartbeats 2000000
theorem TableIn.stl{w w':World}{l:List Ty}{bu bd b t:Nat}{cs:Array Value}(h:TableIn w l bu bd)(hb:Blk w b t cs)(hs:Same [b] w w')(ht:t≠114):TableIn w' l bu bd:=by
 have hne:∀ {a:Nat} {ds:Array Value},Blk w a 114 ds->a≠b:=fun g e=>by
  subst e;have h2:=g.symm.trans hb
  injection h2 with h2
  injection h2 with _ h3
  exact ht h3.symm
 exact⟨h.1.tr1 hs (hne h.1),h.2.tr1 hs (hne h.2)⟩
theorem Hz:zX prog 29=true:=by kernel_rfl
theorem sz36:(prog.info? 36).map (·.size)=some 11:=by kernel_rfl
theorem Py:(prog.info? 84).map (·.zero)=some (some (.agg #[.slice none 0 0,.slice none 0 0])):=by kernel_rfl
theorem DW(c i:Int)(w:World):Calls prog 31 #[.int .i64 c,.int .i64 i] w fun e w'=>e= .returned (.agg #[.int .i64 c,.int .i64 i])/\Bel w w':=by
 refine enT func31 ntmps31 rfl rfl fun hB=>?_;refine zn2 ?_;refine qk (cs:=#[.int .i64 0,.int .i64 0]) qK rfl (fun b4 w1 a1 s1 hr=>?_);have lo4:=nLT (Bel.size hB) hr;refine zn6 ?_;refine wl (jk (v0:= .int _ _) (v1:= .int _ _) (fun v0 v1=>#[v0,v1]) rfl rfl kR) ?_;refine zk a1 rfl rfl zq rfl zJ (fun w2 hq s2=>?_);replace a1:=hq;refine zn3 ?_;refine yx (.inl rfl) rfl (zZ U45 rfl rfl a1.range0 zq) ?_;exact⟨rfl,hB.u⟩
theorem GK(AT AF:Option Addr)(ct cf:Nat)(l:List Ty)(fs:List Ft)(w:World)(an:TabIn w)(hTy:TypesIn w AT l)(hF:FeatsIn w AF fs):Calls prog 33 #[.agg #[.slice AT l.length ct,.slice AF fs.length cf]] w fun e w'=>(∃(X Y:Option Addr) (n1 k1 n2 k2:Nat),e= .returned (.tuple #[.agg #[.slice X n1 k1,.slice Y n2 k2],.agg #[.int .i64 (Q8 l fs).1,.int .i64 (Q8 l fs).2]])/\((Q8 l fs).1=0->∃ bu bd,X=some ⟨bu,0,none⟩/\Y=some ⟨bd,0,none⟩/\n1=l.length/\k1=l.length/\n2=l.length/\k2=l.length/\TableIn w' l bu bd))/\Bel w w':=by
 refine enT func33 ntmps33 rfl rfl fun hB=>?_;refine zn2 ?_;refine qY (v:= .agg #[_,_]) (cs:=#[_,_]) rfl rfl (fun b1 w1 hb1 s1 hr=>?_);refine qk (cs:=#[.slice none 0 0,.slice none 0 0]) Py rfl (fun b2 w2 a1 s2 hr=>?_);have:=nLL hb1.lt hr;have a8:=nLT (Bel.size hB.u) hr;refine qk (cs:=#[.int .i64 0,.int .i64 0]) qK rfl (fun b3 w3 a2 s3 hr=>?_);have:=nLL hb1.u.lt hr;have:=nLL a1.lt hr;have a7:=nLT (Bel.size hB.u) hr;refine zn6 ?_;refine aY kR (MJ AT AF ct cf l fs _ (an.mono hB.u) (hTy.mono hB.u) (hF.mono hB.u)) rfl (fun w4 s4=>?_);refine yj (cs:=#[.int .i64 0,.int .i64 0]) qK rfl (fun _=>rfl) (fun _=>rfl) zq rfl zJ (fun b4 w6 hb4 s5 hr=>?_);have:=nLL a1.u.lt hr;have:=nLL a2.u.lt hr;refine zn9 ?_;refine zV rfl (fun c9=>?_) (fun c9=>?_)
 ·refine xy ?_;refine u5 [b2,b3] [0,1,2,3] rfl (fun w7 s6=>?_);refine hl rfl (fun _=>kK (vs:=#[]) (cs:=#[.slice none 0 0,.slice none 0 0]) (by simp) kR) (zn1 ?_);refine h1 rfl ?_;refine zk a1.u rfl rfl Z7 rfl zJ (fun w8 hq s7=>?_);have ad:=s7;replace a1:=hq;refine zQ (e_H (X':=[b3]) (Same.weak ad (by simp)) (by simp) (h1 rfl ?_));refine zk a2.u rfl rfl zq rfl zJ (fun w9 hq s8=>?_);have a9:=s8;replace a2:=hq;refine zQ (e_H (X':=[]) (Same.weak a9 (by simp)) (by simp) (zn4 ?_));refine kY (.inl rfl) rfl (zZ U84 rfl rfl a1.u.range0 Z7) (zZ U45 rfl rfl a2.range0 zq) ?_;replace hB:=((hB.tr0 (s1.t (s2.t (s3.t (s4.t (s5.t s6)))))).tr1 s7 a8).tr1 s8 a7;exact⟨⟨none,none,0,0,0,0,by rw[DJ c9],fun h=>by rw[DJ c9]at h;exact absurd h c9⟩,hB⟩
 have h0:=ak.1 c9;refine kQ ?_;refine zV rfl (fun c15=>?_) (fun c15=>?_)
 ·refine zn2 ?_;refine wl (kK (vs:=#[]) (cs:=#[.slice none 0 0,.slice none 0 0]) (by simp) kR) ?_;refine aY kR (DW 9 (-1) _) rfl (fun w10 s9=>?_);refine zk a1.u rfl rfl Z7 rfl zJ (fun w11 hq s10=>?_);replace a1:=hq;refine zk a2.u rfl rfl zq rfl zJ (fun w12 hq s11=>?_);replace a2:=hq;refine zn4 ?_;refine kY (.inl rfl) rfl (zZ U84 rfl rfl a1.u.range0 Z7) (zZ U45 rfl rfl a2.range0 zq) ?_;have a5:=lrd_few (l:=l) h0 (by omega:fs.length<=3);replace hB:=((hB.tr0 (s1.t (s2.t (s3.t (s4.t (s5.t s9)))))).tr1 s10 a8).tr1 s11 a7;exact⟨⟨none,none,0,0,0,0,by rw[a5],fun h=>by rw[a5]at h;cases h⟩,hB⟩
 refine zn6 ?_;refine zW Hz (Vk AT ct l _ (hTy.mono hB.u) (Qy h0).vt (Qy h0).le) rfl (fun e' w13 hr=>?_);obtain⟨bu,bd,rfl,a4,a3⟩:=hr;replace a3:=sB a3;refine⟨_,rfl,?_⟩;refine wl (kK (vs:=#[]) (cs:=#[.int .i64 0,.int .i64 0]) (by simp) kR) ?_;refine zk a1.u rfl rfl Z7 rfl zJ (fun w14 hq a6=>?_);replace a1:=a1.tr0 (s3.t (s4.t (s5.t a3)));replace a4:=a4.stl a1 a6 dE;replace a1:=hq;refine zk a2.u rfl rfl zq rfl zJ (fun w15 hq s14=>?_);replace a2:=(a2.tr0 (s4.t (s5.t a3))).tr1 a6 oG;replace a4:=a4.stl a2 s14 dE;replace a2:=hq;refine zn3 ?_;refine kY (.inl rfl) rfl (zZ U84 rfl rfl a1.u.range0 Z7) (zZ U45 rfl rfl a2.range0 zq) ?_;have a5:=DX (l:=l) h0 (by omega:¬fs.length<=3);replace hB:=((hB.tr0 (s1.t (s2.t (s3.t (s4.t (s5.t a3)))))).tr1 a6 a8).tr1 s14 a7;exact⟨⟨some ⟨bu,0,none⟩,some ⟨bd,0,none⟩,_,_,_,_,by rw[a5],fun _=>⟨bu,bd,rfl,rfl,rfl,rfl,rfl,rfl,a4⟩⟩,hB⟩
set_option maxRecDepth 100000 in
theorem lcheck_any(AT AF:Option Addr)(ct cf:Nat)(l:List Ty)(fs:List Ft)(r:Lr)(G SA BA:Option Addr)(cg cs cb bu bd:Nat)(w:World)(hU:U8In w)(hTI:TableIn w l bu bd)(h60:l.length<=60)(hF:FeatsIn w AF fs)(hfo:FOk l.length fs)(h40:fs.length<=40)(hP:LrP w r G SA BA):Calls prog 34 #[.agg #[.slice AT l.length ct,.slice AF fs.length cf],Lv l.length bu bd,.agg #[.string r.name,.string r.cut,.string r.add,.slice G r.gr.length cg,.int .i64 r.wt,.int .i64 (r.mean).kind,.string (r.mean).name,.int .i64 (r.mean).index,.string (r.mean).type.base,.slice SA (r.mean).type.args.length cs,.slice BA (r.mean).args.length cb]] w fun e w'=>e= .returned (.int .i64 (lrF l fs r))/\Bel w w':=by
 refine enT func34 ntmps34 rfl rfl fun hB=>?_;refine zn2 ?_;refine qY (v:= .agg #[_,_]) (cs:=#[_,_]) rfl rfl (fun b3 w1 a4 s1 hr=>?_);refine qY (v:= .agg #[_,_]) (cs:=#[_,_]) rfl rfl (fun b4 w2 a3 s2 hr=>?_);refine qY (v:= .agg #[_,_,_,_,_,_,_,_,_,_,_]) (cs:=#[_,_,_,_,_,_,_,_,_,_,_]) rfl rfl (fun b5 w3 a7 s3 hr=>?_);refine zn5 ?_;refine y7 (rg [] 8 26) (fun g w'=>g 33= .bool (decide (IQ r))/\Bel w w'/\Blk w' b3 25 #[.slice AT l.length ct,.slice AF fs.length cf]/\Blk w' b4 84 #[.slice (some ⟨bu,0,none⟩) l.length l.length,.slice (some ⟨bd,0,none⟩) l.length l.length]/\Blk w' b5 36 #[.string r.name,.string r.cut,.string r.add,.slice G r.gr.length cg,.int .i64 r.wt,.int .i64 (r.mean).kind,.string (r.mean).name,.int .i64 (r.mean).index,.string (r.mean).type.base,.slice SA (r.mean).type.args.length cs,.slice BA (r.mean).args.length cb]) ?_ (fun g1 w4 hI=>?_)
 ·refine zn3 ?_;refine zW H7 (NV _ _) rfl (fun e' w5 hr=>?_);obtain⟨rfl,rfl⟩:=hr;refine⟨_,rfl,?_⟩;refine zn2 ?_;refine Qk 12 rfl (fun a1=>?_) (fun a1=>?_)
  ·refine zn22 ?_;refine e_R ⟨agA,?_⟩;replace hB:=hB.tr0 (s1.t (s2.t s3));replace a4:=a4.tr0 (s2.t s3);replace a3:=a3.tr0 s3
   exact⟨by
     first
     | exact ac (lrn1 a1)
     | exact ac (lrn2 a6 a5)
     | exact ac (P0 a1 (.inr a5) a2)
     | exact ac (OY a1 (.inr a5) (ak.1 a2))
     | exact ac (P0 a1 (.inl (ak.1 a6)) a2)
     | exact ac (OY a1 (.inl (ak.1 a6)) (ak.1 a2)),hB,a4,a3,a7⟩
  refine zn8 ?_;refine zw 16 rfl (fun a6=>?_) (fun a6=>?_)
  ·refine zn5 ?_;refine aY kR (PJ r.cut _ (hU.mono hB.u) hP.c) rfl (fun w6 s4=>?_);refine zn6 ?_;refine Qk 23 rfl (fun a5=>?_) (fun a5=>?_)
   ·refine kQ ?_;refine e_R ⟨agA,?_⟩;replace hB:=hB.tr0 (s1.t (s2.t (s3.t s4)));replace a4:=a4.tr0 (s2.t (s3.t s4));replace a3:=a3.tr0 (s3.t s4);replace a7:=a7.tr0 s4
    exact⟨by
      first
      | exact ac (lrn1 a1)
      | exact ac (lrn2 a6 a5)
      | exact ac (P0 a1 (.inr a5) a2)
      | exact ac (OY a1 (.inr a5) (ak.1 a2))
      | exact ac (P0 a1 (.inl (ak.1 a6)) a2)
      | exact ac (OY a1 (.inl (ak.1 a6)) (ak.1 a2)),hB,a4,a3,a7⟩
   refine zn8 ?_;refine zw 27 rfl (fun a2=>?_) (fun a2=>?_)
   ·refine zn5 ?_;refine aY kR (PJ r.add _ (hU.mono hB.u) hP.a) rfl (fun w7 s5=>?_);refine zn6 ?_;refine e_R ⟨agA,?_⟩;replace hB:=hB.tr0 (s1.t (s2.t (s3.t (s4.t s5))));replace a4:=a4.tr0 (s2.t (s3.t (s4.t s5)));replace a3:=a3.tr0 (s3.t (s4.t s5));replace a7:=a7.tr0 (s4.t s5)
    exact⟨by
      first
      | exact ac (lrn1 a1)
      | exact ac (lrn2 a6 a5)
      | exact ac (P0 a1 (.inr a5) a2)
      | exact ac (OY a1 (.inr a5) (ak.1 a2))
      | exact ac (P0 a1 (.inl (ak.1 a6)) a2)
      | exact ac (OY a1 (.inl (ak.1 a6)) (ak.1 a2)),hB,a4,a3,a7⟩
   refine zn8 ?_;refine e_R ⟨agA,?_⟩;replace hB:=hB.tr0 (s1.t (s2.t (s3.t s4)));replace a4:=a4.tr0 (s2.t (s3.t s4));replace a3:=a3.tr0 (s3.t s4);replace a7:=a7.tr0 s4
   exact⟨by
     first
     | exact ac (lrn1 a1)
     | exact ac (lrn2 a6 a5)
     | exact ac (P0 a1 (.inr a5) a2)
     | exact ac (OY a1 (.inr a5) (ak.1 a2))
     | exact ac (P0 a1 (.inl (ak.1 a6)) a2)
     | exact ac (OY a1 (.inl (ak.1 a6)) (ak.1 a2)),hB,a4,a3,a7⟩
  refine M2 ?_;refine zw 27 rfl (fun a2=>?_) (fun a2=>?_)
  ·refine zn5 ?_;refine aY kR (PJ r.add _ (hU.mono hB.u) hP.a) rfl (fun w8 s6=>?_);refine zn6 ?_;refine e_R ⟨agA,?_⟩;replace hB:=hB.tr0 (s1.t (s2.t (s3.t s6)));replace a4:=a4.tr0 (s2.t (s3.t s6));replace a3:=a3.tr0 (s3.t s6);replace a7:=a7.tr0 s6
   exact⟨by
     first
     | exact ac (lrn1 a1)
     | exact ac (lrn2 a6 a5)
     | exact ac (P0 a1 (.inr a5) a2)
     | exact ac (OY a1 (.inr a5) (ak.1 a2))
     | exact ac (P0 a1 (.inl (ak.1 a6)) a2)
     | exact ac (OY a1 (.inl (ak.1 a6)) (ak.1 a2)),hB,a4,a3,a7⟩
  refine zn8 ?_;refine e_R ⟨agA,?_⟩;replace hB:=hB.tr0 (s1.t (s2.t s3));replace a4:=a4.tr0 (s2.t s3);replace a3:=a3.tr0 s3
  exact⟨by
    first
    | exact ac (lrn1 a1)
    | exact ac (lrn2 a6 a5)
    | exact ac (P0 a1 (.inr a5) a2)
    | exact ac (OY a1 (.inr a5) (ak.1 a2))
    | exact ac (P0 a1 (.inl (ak.1 a6)) a2)
    | exact ac (OY a1 (.inl (ak.1 a6)) (ak.1 a2)),hB,a4,a3,a7⟩
 obtain⟨h33,hB,a4,a3,a7⟩:=hI;refine jK 33 _ h33 nu (e_S ?_);refine zV rfl (fun a8=>?_) (fun a8=>?_)
 ·refine zn8 ?_;exact⟨YV (lr_nm a8),hB⟩
 refine zn4 ?_;refine xk (rg [] 34 8) 41 (.bool (decide (r.wt<0\/1000000<r.wt))) nu ?_ (fun gq=>?_)
 ·refine zn5 ?_;refine zw 37 rfl (fun g37=>?_) (fun g37=>?_)
  ·refine zn4 ?_;refine zQ (e_R ⟨rfl,agA,?_⟩);exact clA
  refine zn7 ?_;refine zQ (e_R ⟨rfl,agA,?_⟩);exact clA
 refine e_S ?_;refine zV rfl (fun b8=>?_) (fun b8=>?_)
 ·have a9:Jq r:=b8;refine zn8 ?_;exact⟨YV (lr_bad a8 a9),hB⟩
 have a9:¬Jq r:=b8;refine zn8 ?_;refine wl (qZ U28 rfl rfl (a7.sub (n:=1) (xs:=[_]) rfl) M8) ?_;refine aY H9 (M4 AT AF G ct cf cg bu bd l fs r.gr _ (hTI.mono hB) h60 (hF.mono hB) (hP.g.mono hB) hfo) rfl (fun w9 s7=>?_);refine yj (cs:=#[.int .i64 0,.int .i64 0]) qK rfl (fun _=>rfl) (fun _=>rfl) zq rfl zJ (fun b7 w11 hb7 s8 hr=>?_);refine zn9 ?_;refine zV rfl (fun b6=>?_) (fun b6=>?_)
 ·refine vy ?_;exact⟨YV (lr_gr a8 a9 b6),hB.u⟩
 have b1:=ak.1 b6;have hl0:=L0 b1;have ad:=R6 hl0;have hw0:=ad.few 0 ad.pos;refine zn6 ?_;refine wl (qZ U28 rfl rfl (a7.u.sub (n:=1) (xs:=[_]) rfl) M8) ?_;refine aY kR (G7 G cg fs.length r.gr 1 _ (hP.g.mono hB.u) ad.pos (V6 hl0 0 ad.pos) oG) rfl (fun w12 s9=>?_);refine zn3 ?_;refine ky rfl (fun b2=>?_) (fun b2=>?_)
 ·have an:gj r.gr 1=false:=by simpa using b2
  refine zn8 ?_;exact⟨YV (lr_pl a8 a9 b1 an),hB.u⟩
 have an:gj r.gr 1=true:=by simpa using b2
 refine zn5 ?_;refine wl (qZ U34 rfl rfl (a7.u.sub (n:=6) (xs:=[_,_,_,_,_,_]) rfl) Zj) ?_;refine aY kR (MK SA BA cs cb r.mean _ (hP.s.mono hB.u) (hP.t.mono hB.u)) rfl (fun w13 s10=>?_);refine wl (Dj (v:= .int _ _) U45 rfl U3 rfl rfl rfl) (zn5 ?_);exact⟨YV (lr_ok a8 a9 b1 an),hB.u⟩
theorem DQ(AT AF:Option Addr)(ct cf:Nat)(l:List Ty)(fs:List Ft)(r:Lr)(G SA BA:Option Addr)(cg cs cb:Nat)(w:World)(an:TabIn w)(hU:U8In w)(hTy:TypesIn w AT l)(hF:FeatsIn w AF fs)(hP:LrP w r G SA BA):Calls prog 8 #[.agg #[.slice AT l.length ct,.slice AF fs.length cf],.agg #[.string r.name,.string r.cut,.string r.add,.slice G r.gr.length cg,.int .i64 r.wt,.int .i64 (r.mean).kind,.string (r.mean).name,.int .i64 (r.mean).index,.string (r.mean).type.base,.slice SA (r.mean).type.args.length cs,.slice BA (r.mean).args.length cb]] w fun e w'=>e= .returned (flV (lrV l fs r))/\Bel w w':=by
 refine enT func8 ntmps8 rfl rfl fun hB=>?_;refine zn2 ?_;refine qY (v:= .agg #[_,_]) (cs:=#[_,_]) rfl rfl (fun b2 w1 hb2 s1 hr=>?_);refine qY (v:= .agg #[_,_,_,_,_,_,_,_,_,_,_]) (cs:=#[_,_,_,_,_,_,_,_,_,_,_]) rfl rfl (fun b3 w2 hb3 s2 hr=>?_);refine qk (cs:=#[.int .i64 0,.int .i64 0]) qK rfl (fun b4 w3 a1 s3 hr=>?_);have a8:=nLT (Bel.size hB.u) hr;refine zn5 ?_;refine zW kR (GK AT AF ct cf l fs _ (an.mono hB.u) (hTy.mono hB.u) (hF.mono hB.u)) rfl (fun e' w4 hr=>?_);obtain⟨⟨X,Y,n1,k1,n2,k2,rfl,hrd⟩,s4⟩:=hr;replace s4:=sB s4;obtain⟨wR,a9⟩:∃ x,x=w4:=⟨_,rfl⟩
 have b1:Bel wR w4:=by rw[a9];exact Below.refl _ _
 rw[<- a9]at hrd;clear a9;refine⟨_,rfl,?_⟩;refine wmT rfl (wl (y8 (v:= .agg _) rfl rfl) (wl (y8 (v:= .agg _) rfl rfl) ?_));refine qk (cs:=#[.slice none 0 0,.slice none 0 0]) Py rfl (fun b5 w5 ad s5 hr=>?_);have:=nLL hb2.u.lt hr;have:=nLL hb3.u.lt hr;have:=nLL a1.u.lt hr;have lo5:=nLT (Bel.size hB.u) hr;have a3:=nLT (Bel.size b1) hr;refine qk (cs:=#[.int .i64 0,.int .i64 0]) qK rfl (fun b6 w6 a7 s6 hr=>?_);have:=nLL hb2.u.lt hr;have:=nLL hb3.u.lt hr;have:=nLL a1.u.lt hr;have:=nLL ad.lt hr;have a6:=nLT (Bel.size hB.u) hr;have a2:=nLT (Bel.size b1.u) hr;refine zk ad.u rfl rfl Z7 rfl zJ (fun w7 hq s7=>?_);replace ad:=hq;refine zk a7.u rfl rfl zq rfl zJ (fun w8 hq s8=>?_);replace a7:=hq;refine vy ?_;refine zV rfl (fun a5=>?_) (fun a5=>?_)
 ·obtain⟨bu,bd,rfl,rfl,rfl,rfl,rfl,rfl,hTI⟩:=hrd a5;obtain⟨a4,hf3⟩:=Iz a5;have hS:=Qy a4;refine zn5 ?_;refine aY kR (lcheck_any AT AF ct cf l fs r G SA BA cg cs cb bu bd _ (hU.mono hB.u) (hTI.mono b1.u) hS.le (hF.mono hB.u) (O5 a4) (feats_few a4) (hP.mono hB.u)) rfl (fun w9 s9=>?_);refine zn9 ?_;refine zV rfl (fun b7=>?_) (fun b7=>?_)
  ·have hE:=lrv_bad a5 b7;refine zn2 ?_;refine aY kR (DW (lrF l fs r) (-2) _) rfl (fun w10 s10=>?_);refine zk a7.u rfl rfl zq rfl zJ (fun w11 hq s11=>?_);replace a7:=hq;refine zn5 ?_;refine zk a1.u rfl rfl zq rfl zJ (fun w12 hq s12=>?_);replace a1:=hq;refine zn3 ?_;refine yx (.inl rfl) rfl (zZ U45 rfl rfl a1.range0 zq) ?_;rw[hE];replace hB:=(((((hB.tr0 (s1.t (s2.t (s3.t (s4.t (s5.t s6)))))).tr1 s7 lo5).tr1 s8 a6).tr0 (s9.t s10)).tr1 s11 a6).tr1 s12 a8
   first
    | exact⟨rfl,hB⟩
    | (have hz:Q8 l fs=(0,0):=DX a4 oG;refine⟨?_,hB⟩;show Ending.returned (.agg #[.int .i64 (Q8 l fs).1,.int .i64 (Q8 l fs).2])=_;rw[hz];rfl)
  have hE:=lrv_ok a5 (ak.1 b7);refine zn5 ?_;refine zk a1.u rfl rfl zq rfl zJ (fun w13 hq s13=>?_);replace a1:=hq;refine zn3 ?_;refine yx (.inl rfl) rfl (zZ U45 rfl rfl a1.range0 zq) ?_;rw[hE];replace hB:=((((hB.tr0 (s1.t (s2.t (s3.t (s4.t (s5.t s6)))))).tr1 s7 lo5).tr1 s8 a6).tr0 s9).tr1 s13 a8
  first
   | exact⟨rfl,hB⟩
   | (have hz:Q8 l fs=(0,0):=DX a4 oG;refine⟨?_,hB⟩;show Ending.returned (.agg #[.int .i64 (Q8 l fs).1,.int .i64 (Q8 l fs).2])=_;rw[hz];rfl)
 have hE:=lrv_rd (r:=r) a5;refine zn5 ?_;refine zk a1.u rfl rfl zq rfl zJ (fun w14 hq s14=>?_);replace a1:=hq;refine zn3 ?_;refine yx (.inl rfl) rfl (zZ U45 rfl rfl a1.range0 zq) ?_;rw[hE];replace hB:=(((hB.tr0 (s1.t (s2.t (s3.t (s4.t (s5.t s6)))))).tr1 s7 lo5).tr1 s8 a6).tr1 s14 a8
 first
  | exact⟨rfl,hB⟩
  | (have hz:Q8 l fs=(0,0):=DX a4 oG;refine⟨?_,hB⟩;show Ending.returned (.agg #[.int .i64 (Q8 l fs).1,.int .i64 (Q8 l fs).2])=_;rw[hz];rfl)
theorem in31_ECl:(prog.info? 31).map (fun i=>(i.zero,i.size,i.bytes))=some (some (.agg #[.string ⟨#[]⟩,.slice none 0 0]),2,40):=by kernel_rfl
theorem F8:(prog.info? 29).map (·.size)=some 1:=by kernel_rfl
theorem Qw:(prog.info? 31).map (·.size)=some 2:=by kernel_rfl
theorem MZ:(prog.info? 31).map (·.zero)=some (some (.agg #[.string ⟨#[]⟩,.slice none 0 0])):=by kernel_rfl
set_option maxRecDepth 100000 in
set_option maxHeartbeats 2000000 in
theorem FK{s:Sm}{A:Option Addr}{c:Nat}{w:World}(hK:s.args.length<=1000)(hS:SimsIn w A s.args)(IH:∀ x∈s.args,∀(A:Option Addr) (c:Nat) (w:World),SimsIn w A x.args->Calls prog 117 #[.agg #[.string (x).base,.slice A (x).args.length c]] w fun e w'=>(∃ A' c',e= .returned (.agg #[.string (x).base,.slice A' (x).args.length c'])/\Hv w.heap.size [] w'.heap.size w' (fun w=>SimsIn w A' (x).args))/\Bel w w'):Calls prog 117 #[.agg #[.string (s).base,.slice A (s).args.length c]] w fun e w'=>(∃ A' c',e= .returned (.agg #[.string (s).base,.slice A' (s).args.length c'])/\Hv w.heap.size [] w'.heap.size w' (fun w=>SimsIn w A' (s).args))/\Bel w w':=by
 refine enT func117 ntmps117 rfl rfl fun hB=>?_;refine zn2 ?_;refine qY (v:= .agg #[_,_]) (cs:=#[_,_]) rfl rfl (fun b1 w1 an s1 hr=>?_);refine qk (cs:=#[.string ⟨#[]⟩,.slice none 0 0]) MZ rfl (fun b2 w2 a5 s2 hr=>?_);have lo2:=nLT (Bel.size hB.u) hr;refine zn6 ?_;refine wl (ZY (v0:= .string _) (fun v0=>#[v0,.slice none 0 0]) rfl kR) ?_;refine yj (cs:=#[.string ⟨#[]⟩,.slice none 0 0]) MZ rfl (fun _=>rfl) (fun _=>rfl) Qw rfl zJ (fun b3 w4 a3 s3 hr=>?_);have:=nLL an.u.lt hr;have:=nLL a5.lt hr;have lo3:=nLT (Bel.size hB.u) hr;refine jz ?_;refine qj (rg [5] 12 12) (fun m g w'=>∃(j:Nat) (A3:Option Addr) (c3 n3:Nat) (vs:List Value),j<=s.args.length/\m=s.args.length-j/\g 12= .int .i64 j/\Bel w w'/\Blk w' b1 31 #[.string s.base,.slice A s.args.length c]/\Blk w' b2 31 #[.string ⟨#[]⟩,.slice none 0 0]/\Blk w' b3 31 #[.string s.base,.slice A3 j c3]/\Own w' (b3+1) 31 2 A3 j c3 vs/\Hv w.heap.size (b2::b3::aL A3) n3 w' (fun w=>RowD smC 2 w (s.args.take j) vs)) (s.args.length) ?_ (fun m g3 w5 hI=>?_)
 ·exact⟨0,none,0,_,[],ag _,rfl,rfl,hB.u,an.u,a5.u,a3,Own.nil _ _ _ _,Hv.triv _ _ _ (fun w=> .nil)⟩
 obtain⟨j,A3,c3,n3,vs,hj,hmj,h12,hB,an,a5,a3,a2,hH⟩:=hI;refine zK 12 _ h12 nu (zn6 ?_);refine zV rfl (fun c13=>?_) (fun c13=>?_)
 ·have bj:j<s.args.length:=by omega
  obtain⟨sb,so,Ax,cx,rfl,hsb,hrx,hsx⟩:=hS.at_ bj;have hnH:=hH.le;refine zn8 ?_;refine qk (cs:=#[.string ⟨#[]⟩,.slice none 0 0]) MZ rfl (fun b5 w6 bg s4 hr=>?_);have:=nLL an.lt hr;have:=nLL a5.lt hr;have:=nLL a3.lt hr;have a1:=fun g hg=>nLL (a2.lt g hg).2 hr
  have a8:=(nLT hH.le hr)
  have lo5:=nLT (Bel.size hB) hr;refine zk bg rfl rfl Qw rfl zJ (fun w7 hq s5=>?_);replace a2:=a2.tr0 s4;replace a2:=a2.tr1 s5 (neL a1);replace hH:=hH.tr0 s4;replace hH:=hH.tr s5 (fun g hg=> .inr (.inr (by rw[List.mem_singleton.1 hg];exact a8)));replace bg:=hq;refine zQ (e_S ?_);have zo:=fun g hg=>(a2.lt g hg).2
  replace a3:=(a3.tr0 s4).tr1 s5 oG;have z3:=a3.lt;replace a5:=(a5.tr0 s4).tr1 s5 oG;have z2:=a5.lt;replace hB:=(hB.tr0 s4).tr1 s5 lo5;have hsz:=Bel.size hB;refine uw 5 [16,17,18,19,20] (fun ix=>Nat.beq ix 4) (fun ix v wv=>match ix with|0=>v= .pointer (some ⟨b3,1,none⟩)|1=>v= .slice A3 j c3|2=>v= .agg #[.string (s.args[j]).base,.slice Ax (s.args[j]).args.length cx]|3=>∃ ad b4 b9,v= .agg #[.string (s.args[j]).base,.slice ad (s.args[j]).args.length b4]/\Hv w7.heap.size [] b9 wv (fun w=>SimsIn w ad (s.args[j]).args)|4=>∃ b ad b4 b9,v= .slice (some ⟨b,0,none⟩) 1 1/\w7.heap.size<=b/\Blk wv b 31 #[.string (s.args[j]).base,.slice ad (s.args[j]).args.length b4]/\Hv w7.heap.size [] b9 wv (fun w=>SimsIn w ad (s.args[j]).args)|_=>True) kR kR ?_ ?_ ?_
  ·intro ix v wv wv2 h s6
   match ix,h with
   | 0,h=>exact h
   | 1,h=>exact h
   | 2,h=>exact h
   | 3,h=>
    obtain⟨ad,b4,b9,bn,a9⟩:=h;exact⟨ad,b4,b9,bn,a9.tr0 s6⟩
   | 4,h=>
    obtain⟨bq,br,bo,n20,bm,be,a7,a4⟩:=h;exact⟨bq,br,bo,n20,bm,be,a7.tr0 s6,a4.tr0 s6⟩
   | _+5,h=>exact trivial
  ·intro ix o hix hoq gg wx s7 hd bk
   match ix,hix,hoq with
   | 0,_,hoq=>
    cases sI hoq;exact oVq (uK U31 F8 dE rfl rfl rfl) rfl
   | 1,_,hoq=>
    cases sI hoq;refine aW 16 (hd 0 aX) ?_;exact oVq (qW (v:= .slice _ _ _) U29 rfl rfl (a3.u.cell rfl)) rfl
   | 2,_,hoq=>
    cases sI hoq;exact oVq (qZ U31 rfl rfl bg.u.range0 Qw) rfl
   | 3,_,hoq=>
    cases sI hoq;have bi:=s7;refine aW 18 (hd 2 aX) ?_;refine vw kR (IH _ (ar bj) Ax cx wx (hsx.mono hB.u)) rfl (fun e' w2 hr=>?_);obtain⟨⟨ad,b4,rfl,a9⟩,s8⟩:=hr;exact⟨_,rfl,sB s8,⟨ad,b4,_,rfl,a9.mono bi.size (ae _) (ae _)⟩,xQ⟩
   | 4,_,hoq=>
    cases sI hoq;have bi:=s7;obtain⟨ad,b4,b9,bn,a9⟩:=hd 3 (zj kR);refine zz 19 _ bn nu ?_;refine jZ (fun ops Q K=>?_);refine qv (cs:=#[_,_]) [(0,.agg _)] rfl U29 Qw MZ dE dE kR rfl (fun bq w8 a7 s9 hr=>?_);exact K _ _ ⟨s9,⟨_,ad,b4,b9,rfl,nLT bi.size hr,a7,a9.tr0 s9⟩,fRq hr a7.lt⟩
   | _+5,hix,_=>exact absurd hix oG
  intro gg w9 bd hR bk;obtain⟨bq,br,bo,n20,bm,be,a7,a4⟩:=hR 4 dE;replace hH:=hH.tr0 bd;have hnH:=hH.le;have hnz:=a4.le;refine x9 17 _ (hR 1 dE) nu (x9 20 _ bm nu ?_);replace a2:=a2.tr0 bd;refine jv U29 in31_ECl rfl dE a2 a7 rfl rfl rfl zJ dE oG oG a3.u.lt (fun bc cap21 w10 ba bb hg=>?_);have b8:bc≠b1:=neA a2 an.u.lt hg
  have b7:bc≠b2:=neA a2 a5.u.lt hg
  have a6:bc≠b3:=neA a2 a3.u.lt hg
  have b6:bc≠b5:=neB bg.u.lt hg (neL a1)
  replace hB:=hB.u.tr bb (fun g hg=>nLT (aN lo3) (a2.lt g hg).1);replace an:=((an.tr0 s4).tr1 s5 oG).tr0 bd;replace an:=an.ta bb a2;replace a5:=a5.tr0 bd;replace a5:=a5.ta bb a2;replace a3:=a3.tr0 bd;replace a3:=a3.ta bb a2;replace hH:=hH.tr bb (fun g hg=> .inr (.inl (by simp[hg])));replace a4:=a4.tr bb (fun g hg=> .inl (zo g hg));refine zn1 ?_;refine xZ (v:= .slice _ _ _) a3 rfl rfl F8 (by first|decide|simp) rfl rfl (fun w11 hq bh=>?_);replace hH:=hH.in1 bh (by simp);replace a4:=a4.lo1 bh z3;replace ba:=ba.tr1 bh (neS a6);replace a3:=hq
  have hH2:=RowD.app (Y:=b2::b3::aL (some (⟨bc,0,none⟩:Addr))) bj rfl hH rfl (a4.imp (fun _ h=>(⟨br,bo,rfl,h⟩:smC _ _ _))) hsz (fun y hy=>by
    rcases ap.1 hy with h|hy
    ·exact .inl (by simp[h])
    rcases ap.1 hy with h|hy
    ·exact .inl (by simp[h])
    ·cases aj.1 hy
     rcases hg with hg|hg
     ·exact .inl (by simp[hg])
     ·exact .inr (nLT hnH hg)) (fun y hy=>by
    rcases ap.1 hy with h|hy
    ·exact .inl (by rw[h];exact z2)
    rcases ap.1 hy with h|hy
    ·exact .inl (by rw[h];exact z3)
    ·cases aj.1 hy
     rcases hg with hg|hg
     ·exact .inl (zo bc (by rw[hg];exact aj.2 rfl))
     ·exact .inr (nLT hnz hg))
  refine zn7 ?_;refine xK (s.args.length-(j+1)) oG agA ?_;exact⟨j+1,_,_,_,_,by omega,rfl,rfl,hB.u,an.u,a5.u,a3,ba,hH2⟩
 have hje:j=s.args.length:=by omega
 refine zn8 ?_;refine zk a5 rfl rfl Qw rfl zJ (fun w12 hq bf=>?_);replace a2:=a2.tq bf;replace hH:=hH.in1 bf (by simp);replace a5:=hq;refine zn3 ?_;refine yx (.inl rfl) rfl (zZ U31 rfl rfl a5.range0 Qw) ?_;replace a3:=a3.tr1 bf oG;rw[hje]at a2 hH a3;rw[List.take_length]at hH;replace hB:=hB.tr1 bf lo2;exact⟨⟨A3,c3,by rw[hje],own_sims a2 oG hH⟩,hB⟩
theorem LK{s:Sm}(h:SmK s):∀(A:Option Addr) (c:Nat) (w:World),SimsIn w A s.args->Calls prog 117 #[.agg #[.string (s).base,.slice A (s).args.length c]] w fun e w'=>(∃ A' c',e= .returned (.agg #[.string (s).base,.slice A' (s).args.length c'])/\Hv w.heap.size [] w'.heap.size w' (fun w=>SimsIn w A' (s).args))/\Bel w w':=by
 induction h with
 | mk hl _ ih=>exact fun A c w hS=>FK hl hS (fun x hx A c w h=>ih x hx A c w h)
theorem in34:(prog.info? 34).map (fun i=>(i.zero,i.size,i.bytes))=some (some (.agg #[.int .i64 0,.string ⟨#[]⟩,.int .i64 0,.string ⟨#[]⟩,.slice none 0 0,.slice none 0 0]),6,96):=by kernel_rfl
theorem D1:(prog.info? 32).map (·.size)=some 1:=by kernel_rfl
theorem gQ:(prog.info? 34).map (·.size)=some 6:=by kernel_rfl
theorem gv:(prog.info? 34).map (·.zero)=some (some (.agg #[.int .i64 0,.string ⟨#[]⟩,.int .i64 0,.string ⟨#[]⟩,.slice none 0 0,.slice none 0 0])):=by kernel_rfl
set_option maxRecDepth 100000 in
set_option maxHeartbeats 4000000 in
theorem F1{t:Tm}{SA BA:Option Addr}{cs cb:Nat}{w:World}(hK:t.args.length<=1000)(hKs:SmK t.type)(hS:SimsIn w SA t.type.args)(hT:TmsIn w BA t.args)(IH:∀ x∈t.args,∀(SA BA:Option Addr) (cs cb:Nat) (w:World),SimsIn w SA x.type.args->TmsIn w BA x.args->Calls prog 94 #[.agg #[.int .i64 (x).kind,.string (x).name,.int .i64 (x).index,.string (x).type.base,.slice SA (x).type.args.length cs,.slice BA (x).args.length cb]] w fun e w'=>(∃ S' cs' B' cb',e= .returned (.agg #[.int .i64 (x).kind,.string (x).name,.int .i64 (x).index,.string (x).type.base,.slice S' (x).type.args.length cs',.slice B' (x).args.length cb'])/\Hv w.heap.size [] w'.heap.size w' (fun w=>SimsIn w S' (x).type.args/\TmsIn w B' (x).args))/\Bel w w'):Calls prog 94 #[.agg #[.int .i64 (t).kind,.string (t).name,.int .i64 (t).index,.string (t).type.base,.slice SA (t).type.args.length cs,.slice BA (t).args.length cb]] w fun e w'=>(∃ S' cs' B' cb',e= .returned (.agg #[.int .i64 (t).kind,.string (t).name,.int .i64 (t).index,.string (t).type.base,.slice S' (t).type.args.length cs',.slice B' (t).args.length cb'])/\Hv w.heap.size [] w'.heap.size w' (fun w=>SimsIn w S' (t).type.args/\TmsIn w B' (t).args))/\Bel w w':=by
 refine enT func94 ntmps94 rfl rfl fun hB=>?_;refine zn2 ?_;refine qY (v:= .agg #[_,_,_,_,_,_]) (cs:=#[_,_,_,_,_,_]) rfl rfl (fun b1 w1 an t1 hr=>?_);refine qk (cs:=#[.int .i64 0,.string ⟨#[]⟩,.int .i64 0,.string ⟨#[]⟩,.slice none 0 0,.slice none 0 0]) gv rfl (fun b2 w2 a4 t2 hr=>?_);have lo2:=nLT (Bel.size hB.u) hr;refine zn5 ?_;refine yj (cs:=#[.int .i64 0,.string ⟨#[]⟩,.int .i64 0,.string ⟨#[]⟩,.slice none 0 0,.slice none 0 0]) gv rfl (fun _=>rfl) (fun _=>rfl) gQ rfl zJ (fun b3 w4 a1 t3 hr=>?_);have:=nLL an.u.lt hr;have:=nLL a4.lt hr;have lo3:=nLT (Bel.size hB.u) hr;refine zn5 ?_;refine wl (qZ U31 rfl rfl (an.u.sub (n:=2) (xs:=[_,_]) rfl) Qw) ?_;have z3:=a1.lt;replace a4:=a4.tr0 t3;have z2:=a4.lt;replace hB:=hB.tr0 (t1.t (t2.t t3));have bq:=Bel.size hB;refine zW kR (LK hKs SA cs _ (hS.mono hB)) rfl (fun e' w5 hr=>?_);obtain⟨⟨S9,c9,rfl,hZ⟩,t4⟩:=hr;replace t4:=sB t4;replace hZ:=(hZ.hole (Y:=[b2,b3]) (fun y hy=> .inr (.inl (by simp only[List.mem_cons,List.not_mem_nil,or_false]at hy;omega)))).mono bq (ae _) hZ.le;obtain⟨n9,bj⟩:∃ z,z=w5.heap.size:=⟨_,rfl⟩
 rw[<- bj]at hZ;replace a1:=a1.tr0 t4;have l9:b3+1<=n9:=by rw[bj];exact a1.lt
 clear bj;refine⟨_,rfl,?_⟩;refine zn1 ?_;refine Vq a1 rfl rfl Qw (by first|decide|simp) zJ rfl (fun w6 hq t5=>?_);replace hZ:=hZ.in1 t5 (by simp);replace a1:=hq;replace a1:Blk w6 b3 34 #[.int .i64 t.kind,.string t.name,.int .i64 t.index,.string t.type.base,.slice S9 t.type.args.length c9,.slice BA t.args.length cb]:=a1;refine zn5 ?_;refine xZ (v:= .slice _ _ _) a1 rfl rfl D1 (by first|decide|simp) rfl rfl (fun w7 hq t6=>?_);replace hZ:=hZ.in1 t6 (by simp);replace a1:=hq;replace a1:Blk w7 b3 34 #[.int .i64 t.kind,.string t.name,.int .i64 t.index,.string t.type.base,.slice S9 t.type.args.length c9,.slice none 0 0]:=a1;refine jz ?_;refine qj (rg [5] 15 12) (fun m g w'=>∃(j:Nat) (A3:Option Addr) (c3 n3:Nat) (vs:List Value),j<=t.args.length/\m=t.args.length-j/\g 15= .int .i64 j/\Bel w w'/\Blk w' b1 34 #[.int .i64 (t).kind,.string (t).name,.int .i64 (t).index,.string (t).type.base,.slice SA (t).type.args.length cs,.slice BA (t).args.length cb]/\Blk w' b2 34 #[.int .i64 0,.string ⟨#[]⟩,.int .i64 0,.string ⟨#[]⟩,.slice none 0 0,.slice none 0 0]/\Blk w' b3 34 #[.int .i64 t.kind,.string t.name,.int .i64 t.index,.string t.type.base,.slice S9 t.type.args.length c9,.slice A3 j c3]/\n9<=w'.heap.size/\Own w' n9 34 6 A3 j c3 vs/\Hv w.heap.size [b2,b3] n9 w' (fun w=>SimsIn w S9 t.type.args)/\Hv w.heap.size (b2::b3::aL A3) n3 w' (fun w=>RowD tmD 6 w (t.args.take j) vs)) (t.args.length) ?_ (fun m g5 w8 hI=>?_)
 ·exact⟨0,none,0,_,[],ag _,rfl,rfl,hB.u,an.u,a4.u,a1,hZ.le,Own.nil _ _ _ _,hZ,Hv.triv _ _ _ (fun w=> .nil)⟩
 obtain⟨j,A3,c3,n3,vs,hj,hmj,h15,hB,an,a4,a1,hz9,a2,hZ,hH⟩:=hI;refine zK 15 _ h15 nu (zn6 ?_);refine zV rfl (fun c16=>?_) (fun c16=>?_)
 ·have bt:j<t.args.length:=by omega
  obtain⟨sb,so,Sx,csx,Bx,cbx,rfl,hsb,hrx,hsx,htx⟩:=hT.at_ bt;refine zn8 ?_;refine qk (cs:=#[.int .i64 0,.string ⟨#[]⟩,.int .i64 0,.string ⟨#[]⟩,.slice none 0 0,.slice none 0 0]) gv rfl (fun b5 w9 bm t7 hr=>?_);have:=nLL an.lt hr;have:=nLL a4.lt hr;have:=nLL a1.lt hr;have a3:=fun g hg=>nLL (a2.lt g hg).2 hr
  have a8:=(nLT hZ.le hr)
  have a9:=(nLT hH.le hr)
  have lo5:=nLT (Bel.size hB) hr;refine zk bm rfl rfl gQ rfl zJ (fun bn hq t8=>?_);replace a2:=a2.tr0 t7;replace a2:=a2.tr1 t8 (neL a3);replace hZ:=hZ.tr0 t7;replace hZ:=hZ.tr t8 (fun g hg=> .inr (.inr (by rw[List.mem_singleton.1 hg];exact a8)));replace hH:=hH.tr0 t7;replace hH:=hH.tr t8 (fun g hg=> .inr (.inr (by rw[List.mem_singleton.1 hg];exact a9)));replace bm:=hq;refine zQ (e_S ?_);have zo:=fun g hg=>(a2.lt g hg).2
  replace a1:=(a1.tr0 t7).tr1 t8 oG;have z3:=a1.lt;replace a4:=(a4.tr0 t7).tr1 t8 oG;have z2:=a4.lt;replace hB:=(hB.tr0 t7).tr1 t8 lo5;have hsz:=Bel.size hB;refine uw 5 [19,20,21,22,23] (fun ix=>Nat.beq ix 4) (fun ix v wv=>match ix with|0=>v= .pointer (some ⟨b3,5,none⟩)|1=>v= .slice A3 j c3|2=>v= .agg #[.int .i64 ((t.args[j])).kind,.string ((t.args[j])).name,.int .i64 ((t.args[j])).index,.string ((t.args[j])).type.base,.slice Sx ((t.args[j])).type.args.length csx,.slice Bx ((t.args[j])).args.length cbx]|3=>∃ b4 b7 b6 b8 bd,v= .agg #[.int .i64 ((t.args[j])).kind,.string ((t.args[j])).name,.int .i64 ((t.args[j])).index,.string ((t.args[j])).type.base,.slice b4 ((t.args[j])).type.args.length b7,.slice b6 ((t.args[j])).args.length b8]/\Hv bn.heap.size [] bd wv (fun w=>SimsIn w b4 (t.args[j]).type.args/\TmsIn w b6 (t.args[j]).args)|4=>∃ b b4 b7 b6 b8 bd,v= .slice (some ⟨b,0,none⟩) 1 1/\bn.heap.size<=b/\Blk wv b 34 #[.int .i64 ((t.args[j])).kind,.string ((t.args[j])).name,.int .i64 ((t.args[j])).index,.string ((t.args[j])).type.base,.slice b4 ((t.args[j])).type.args.length b7,.slice b6 ((t.args[j])).args.length b8]/\Hv bn.heap.size [] bd wv (fun w=>SimsIn w b4 (t.args[j]).type.args/\TmsIn w b6 (t.args[j]).args)|_=>True) kR kR ?_ ?_ ?_
  ·intro ix v wv wv2 h t9
   match ix,h with
   | 0,h=>exact h
   | 1,h=>exact h
   | 2,h=>exact h
   | 3,h=>
    obtain⟨b4,b7,b6,b8,bd,bw,ad⟩:=h;exact⟨b4,b7,b6,b8,bd,bw,ad.tr0 t9⟩
   | 4,h=>
    obtain⟨bz,c0,bo,c1,bx,n23,bv,bi,a7,a5⟩:=h;exact⟨bz,c0,bo,c1,bx,n23,bv,bi,a7.tr0 t9,a5.tr0 t9⟩
   | _+5,h=>exact trivial
  ·intro ix o hix hoq gg wx t10 hd bu
   match ix,hix,hoq with
   | 0,_,hoq=>
    cases sI hoq;exact oVq (uK U34 D1 dE rfl rfl rfl) rfl
   | 1,_,hoq=>
    cases sI hoq;refine aW 19 (hd 0 aX) ?_;exact oVq (qW (v:= .slice _ _ _) U32 rfl rfl (a1.u.cell rfl)) rfl
   | 2,_,hoq=>
    cases sI hoq;exact oVq (qZ U34 rfl rfl bm.u.range0 gQ) rfl
   | 3,_,hoq=>
    cases sI hoq;have br:=t10;refine aW 21 (hd 2 aX) ?_;refine vw kR (IH _ (ar bt) Sx Bx csx cbx wx (hsx.mono hB.u) (htx.mono hB.u)) rfl (fun e' w2 hr=>?_);obtain⟨⟨b4,b7,b6,b8,rfl,ad⟩,t11⟩:=hr;exact⟨_,rfl,sB t11,⟨b4,b7,b6,b8,_,rfl,ad.mono br.size (ae _) (ae _)⟩,xQ⟩
   | 4,_,hoq=>
    cases sI hoq;have br:=t10;obtain⟨b4,b7,b6,b8,bd,bw,ad⟩:=hd 3 (zj kR);refine zz 22 _ bw nu ?_;refine jZ (fun ops Q K=>?_);refine qv (cs:=#[_,_,_,_,_,_]) [(0,.agg _)] rfl U32 gQ gv dE dE kR rfl (fun bz w11 a7 t12 hr=>?_);exact K _ _ ⟨t12,⟨_,b4,b7,b6,b8,bd,rfl,nLT br.size hr,a7,ad.tr0 t12⟩,fRq hr a7.lt⟩
   | _+5,hix,_=>exact absurd hix oG
  intro gg w12 bf hR bu;obtain⟨bz,c0,bo,c1,bx,n23,bv,bi,a7,a5⟩:=hR 4 dE;replace hH:=hH.tr0 bf;have hnH:=hH.le;have hnz:=a5.le;replace hZ:=hZ.tr0 bf;have bj:=hZ.le;refine x9 20 _ (hR 1 dE) nu (x9 23 _ bv nu ?_);replace a2:=a2.tr0 bf;refine jv U32 in34 rfl dE a2 a7 rfl rfl rfl zJ dE oG oG bj (fun bg cap24 w13 be b9 hg=>?_);have bc:bg≠b1:=neA a2 an.u.lt hg
  have bb:bg≠b2:=neA a2 a4.u.lt hg
  have a6:bg≠b3:=neA a2 a1.u.lt hg
  have ba:bg≠b5:=neB bm.u.lt hg (neL a3)
  replace hB:=hB.u.tr b9 (fun g hg=>nLT oG (a2.lt g hg).1);replace an:=((an.tr0 t7).tr1 t8 oG).tr0 bf;replace an:=an.ta b9 a2;replace a4:=a4.tr0 bf;replace a4:=a4.ta b9 a2;replace a1:=a1.tr0 bf;replace a1:=a1.ta b9 a2;replace hZ:=hZ.tr b9 (fun g hg=> .inr (.inr (a2.lt g hg).1));replace hH:=hH.tr b9 (fun g hg=> .inr (.inl (by simp[hg])));replace a5:=a5.tr b9 (fun g hg=> .inl (zo g hg));refine zn1 ?_;refine xZ (v:= .slice _ _ _) a1 rfl rfl D1 (by first|decide|simp) rfl rfl (fun w14 hq bk=>?_);replace hZ:=hZ.in1 bk (by simp);replace hH:=hH.in1 bk (by simp);replace a5:=a5.lo1 bk z3;replace be:=be.tr1 bk (neS a6);replace a1:=hq
  have hH2:=RowD.app (Y:=b2::b3::aL (some (⟨bg,0,none⟩:Addr))) bt rfl hH rfl (a5.imp (fun _ h=>(⟨c0,c1,bo,bx,rfl,h.1,h.2⟩:tmD _ _ _))) hsz (fun y hy=>by
    rcases ap.1 hy with h|hy
    ·exact .inl (by simp[h])
    rcases ap.1 hy with h|hy
    ·exact .inl (by simp[h])
    ·cases aj.1 hy
     rcases hg with hg|hg
     ·exact .inl (by simp[hg])
     ·exact .inr (nLT hnH hg)) (fun y hy=>by
    rcases ap.1 hy with h|hy
    ·exact .inl (by rw[h];exact z2)
    rcases ap.1 hy with h|hy
    ·exact .inl (by rw[h];exact z3)
    ·cases aj.1 hy
     rcases hg with hg|hg
     ·exact .inl (zo bg (by rw[hg];exact aj.2 rfl))
     ·exact .inr (nLT hnz hg))
  refine zn7 ?_;refine xK (t.args.length-(j+1)) oG agA ?_;exact⟨j+1,_,_,_,_,by omega,rfl,rfl,hB.u,an.u,a4.u,a1,hZ.le,be,hZ,hH2⟩
 have hje:j=t.args.length:=by omega
 refine zn8 ?_;refine zk a4 rfl rfl gQ rfl zJ (fun w15 hq bh=>?_);replace a2:=a2.tq bh;replace hZ:=hZ.in1 bh (by simp);replace hH:=hH.in1 bh (by simp);replace a4:=hq;refine zn3 ?_;refine yx (.inl rfl) rfl (zZ U34 rfl rfl a4.range0 gQ) ?_;replace a1:=a1.tr1 bh oG;rw[hje]at a2 hH a1;rw[List.take_length]at hH;replace hB:=hB.tr1 bh lo2;exact⟨⟨S9,c9,A3,c3,by rw[hje],hZ.nil.and (own_tms a2 oG hH)⟩,hB⟩
theorem Lq{t:Tm}(h:TmK t):∀(SA BA:Option Addr) (cs cb:Nat) (w:World),SimsIn w SA t.type.args->TmsIn w BA t.args->Calls prog 94 #[.agg #[.int .i64 (t).kind,.string (t).name,.int .i64 (t).index,.string (t).type.base,.slice SA (t).type.args.length cs,.slice BA (t).args.length cb]] w fun e w'=>(∃ S' cs' B' cb',e= .returned (.agg #[.int .i64 (t).kind,.string (t).name,.int .i64 (t).index,.string (t).type.base,.slice S' (t).type.args.length cs',.slice B' (t).args.length cb'])/\Hv w.heap.size [] w'.heap.size w' (fun w=>SimsIn w S' (t).type.args/\TmsIn w B' (t).args))/\Bel w w':=by
 induction h with
 | mk hs hl _ ih=>exact fun SA BA cs cb w hS hT=>F1 hl hs hS hT (fun x hx SA BA cs cb w h1 h2=>ih x hx SA BA cs cb w h1 h2)
section
section rules
variable {P:Program} {n:Nw} {f:Fr} {w:World} {ty t t':TypeId} {pos:String} {af:Array Edge} {x y:Operand} {dst:Option Tmp} {gd:Option (Nat×Bool)}
theorem r_maxN{ats:Array TypeId}{a b:Nat}(hx:ev n f x= .int .i64 (a:Int))(hy:ev n f y= .int .i64 (b:Int)):
  RV P n f w ⟨dst,.call { callee:= .builtin .max,args:=#[x,y],argTypes:=ats },ty,pos,af,gd⟩ (.int .i64 ((max a b:Nat):Int)) w:=by
 have e:(if a<b then (b:Int)else (a:Int))=((max a b:Nat):Int):=by
  by_cases h:a<b
  ·rw[if_pos h];omega
  ·rw[if_neg h];omega
 simp[RV,execOp,resolve,invoke,builtin,hx,hy,Builtin.max_,Builtin.max2,e]
end rules
end
set_option maxRecDepth 100000 in
set_option maxHeartbeats 2000000 in
theorem size_step{t:Tm}{SA BA:Option Addr}{cs cb:Nat}{w:World}(hz:szT t<=1000000)(hS:SimsIn w SA t.type.args)(hT:TmsIn w BA t.args)(IH:∀ x∈t.args,∀(SA BA:Option Addr) (cs cb:Nat) (w:World),szT x<=1000000->SimsIn w SA x.type.args->TmsIn w BA x.args->Calls Tryz.prog 116 #[.agg #[.int .i64 (x).kind,.string (x).name,.int .i64 (x).index,.string (x).type.base,.slice SA (x).type.args.length cs,.slice BA (x).args.length cb]] w fun e w'=>e= .returned (.tuple #[.int .i64 ((szT x:Nat):Int),.int .i64 ((dpT x:Nat):Int)])/\Bel w w'):Calls Tryz.prog 116 #[.agg #[.int .i64 (t).kind,.string (t).name,.int .i64 (t).index,.string (t).type.base,.slice SA (t).type.args.length cs,.slice BA (t).args.length cb]] w fun e w'=>e= .returned (.tuple #[.int .i64 ((szT t:Nat):Int),.int .i64 ((dpT t:Nat):Int)])/\Bel w w':=by
 have hsz:=Ly t;have hdz:=dpT_eq t;have hdl:=dp_le t;have hln:=F4 t.args;refine enT Tryz.func116 Tryz.ntmps116 rfl rfl fun hB=>?_;refine zn2 ?_;refine qY (v:= .agg #[_,_,_,_,_,_]) (cs:=#[_,_,_,_,_,_]) rfl rfl (fun b1 w1 hb1 s1 hr=>?_);refine zn20 ?_;refine qj (rg [4,5,7,8,9] 13 16) (fun m g w'=>∃ j:Nat,j<=t.args.length/\m=t.args.length-j/\g 13= .int .i64 ((j:Nat):Int)/\g 4= .int .i64 ((Yx (t.args.take j)+1:Nat):Int)/\g 5= .int .i64 ((IX (t.args.take j):Nat):Int)/\Bel w w') (t.args.length) ?_ (fun m g3 w2 hI=>?_)
 ·exact⟨0,ag _,rfl,rfl,rfl,rfl,hB.u⟩
 obtain⟨j,hj,hmj,h13,h4,h5,hB⟩:=hI;refine zK 13 _ h13 nu (zK 4 _ h4 nu (zK 5 _ h5 nu (zn6 ?_)));refine zV rfl (fun c14=>?_) (fun c14=>?_)
 ·have a1:j<t.args.length:=by omega
  obtain⟨sb,so,Sx,csx,Bx,cbx,rfl,hsb,hrx,hsx,htx⟩:=hT.at_ a1;have htk:=Bj t.args j a1;have hle:=T2 t.args (j+1);have hle0:=T2 t.args j;refine zn8 ?_;refine yj (cs:=#[.int .i64 0,.string ⟨#[]⟩,.int .i64 0,.string ⟨#[]⟩,.slice none 0 0,.slice none 0 0]) gv rfl (fun _=>rfl) (fun _=>rfl) Zj rfl zJ (fun b7 w4 hb7 s2 hr=>?_);refine zn5 ?_;refine aY kR (IH _ (ar a1) Sx Bx csx cbx _ oG (hsx.mono hB.u) (htx.mono hB.u)) rfl (fun w5 s3=>?_);refine wmT rfl (wl (y8 (v:= .int _ _) rfl rfl) (wl (y8 (v:= .int _ _) rfl rfl) (zn7 ?_)));refine wl (QZ (c:=((Yx (t.args.take (j+1))+1:Nat):Int)) rfl rfl oG oG) (zn2 ?_);refine wl (r_maxN (a:=(IX (t.args.take j))) (b:=(dpT (t.args[j]))) rfl rfl) (zn9 ?_);refine xK (t.args.length-(j+1)) oG agA ?_;exact⟨j+1,by omega,rfl,rfl,rfl,congrArg (fun n:Nat=>Value.int .i64 (n:Int)) htk.2.symm,hB.u⟩
 have hje:j=t.args.length:=by omega
 refine zn7 ?_;refine wl (xz (v:= .int .i64 ((szT t:Nat):Int)) (congrArg (fun n:Nat=>Value.int .i64 (n:Int)) (by rw[hje,List.take_length,hsz]))) (wl (xz (v:= .int .i64 ((IX t.args:Nat):Int)) (congrArg (fun n:Nat=>Value.int .i64 (n:Int)) (by rw[hje,List.take_length]))) (wl (QZ (c:=((dpT t:Nat):Int)) rfl rfl oG oG) (zn5 ?_)));refine kY (.inl rfl) rfl rfl rfl ?_;exact⟨rfl,hB⟩
theorem size_any{t:Tm}(h:TmK t):∀(SA BA:Option Addr) (cs cb:Nat) (w:World),szT t<=1000000->SimsIn w SA t.type.args->TmsIn w BA t.args->Calls Tryz.prog 116 #[.agg #[.int .i64 (t).kind,.string (t).name,.int .i64 (t).index,.string (t).type.base,.slice SA (t).type.args.length cs,.slice BA (t).args.length cb]] w fun e w'=>e= .returned (.tuple #[.int .i64 ((szT t:Nat):Int),.int .i64 ((dpT t:Nat):Int)])/\Bel w w':=by
 induction h with
 | mk hs hl _ ih=>exact fun SA BA cs cb w hz hS hT=>size_step hz hS hT (fun x hx SA BA cs cb w h0 h1 h2=>ih x hx SA BA cs cb w h0 h1 h2)
theorem tmF_tv{t:Tm}(h:(tmF t).1=0):∃ v:Tv,t=v.tm/\v.ok 0/\v.size<=200:=by
 have h0:(twk t 1 0 0).2.1=0:=aH (fun hc=>by rw[P7 hc]at h;exact hc h);obtain⟨v,rfl,hok,_,hsz⟩:=Ex t 1 0 0 h0;exact⟨v,rfl,hok,by omega⟩
theorem app_K{f x:Tm}(h1:TmK f)(h2:TmK x):TmK (M7 f x):= .mk smZ_K (by show 2<=1000;decide) (fun z h=>by
 rcases ap.1 h with rfl|h
 ·exact h1
 ·rw[List.mem_singleton.1 h];exact h2)
theorem szT_app(f x:Tm):szT (M7 f x)=szT f+szT x+1:=by
 rw[Ly];show szT f+(szT x+0)+1=_;omega
theorem H8:zX prog 54=true:=by kernel_rfl
theorem fits_any{t:Tm}(hK:TmK t)(SA BA:Option Addr)(cs cb:Nat)(w:World)(hz:szT t<=1000000)(hS:SimsIn w SA t.type.args)(hT:TmsIn w BA t.args):Calls prog 93 #[.agg #[.int .i64 (t).kind,.string (t).name,.int .i64 (t).index,.string (t).type.base,.slice SA (t).type.args.length cs,.slice BA (t).args.length cb]] w fun e w'=>e= .returned (.bool (decide (szT t<=200/\dpT t<=40)))/\Bel w w':=by
 refine enT func93 ntmps93 rfl rfl fun hB=>?_;refine zn2 ?_;refine qY (v:= .agg #[_,_,_,_,_,_]) (cs:=#[_,_,_,_,_,_]) rfl rfl (fun b1 w1 hb1 s1 hr=>?_);refine zn6 ?_;refine aY kR (size_any hK SA BA cs cb _ hz (hS.mono hB.u) (hT.mono hB.u)) rfl (fun w2 s2=>?_);refine wmT rfl (wl (y8 (v:= .int _ _) rfl rfl) (wl (y8 (v:= .int _ _) rfl rfl) (zn5 ?_)));refine xk [2,10,11,12,13,14,15] 2 (.bool (decide (szT t<=200/\dpT t<=40))) nu ?_ (fun gq=>?_)
 ·refine zn4 ?_;refine zw 12 rfl (fun g12=>?_) (fun g12=>?_)
  ·refine zn6 ?_;refine zQ (e_R ⟨rfl,agA,?_⟩);exact clA
  refine zn4 ?_;refine zQ (e_R ⟨rfl,agA,?_⟩);exact clA
 refine zn3 ?_;exact⟨rfl,hB.u⟩
set_option maxRecDepth 100000 in
set_option maxHeartbeats 4000000 in
theorem Lj(f x:Tm)(SA BA Sx Bx:Option Addr)(cs cb csx cbx:Nat)(w:World)(hS:SimsIn w SA f.type.args)(hT:TmsIn w BA f.args)(hSx:SimsIn w Sx x.type.args)(hTx:TmsIn w Bx x.args):Calls prog 57 #[.agg #[.int .i64 (f).kind,.string (f).name,.int .i64 (f).index,.string (f).type.base,.slice SA (f).type.args.length cs,.slice BA (f).args.length cb],.agg #[.int .i64 (x).kind,.string (x).name,.int .i64 (x).index,.string (x).type.base,.slice Sx (x).type.args.length csx,.slice Bx (x).args.length cbx]] w fun e w'=>(∃(k6 i6:Int) (m6 s6:ByteArray) (A6 B6:Option Addr) (n6 c6 o6 d6:Nat) (c i:Int),e= .returned (.tuple #[.agg #[.int .i64 k6,.string m6,.int .i64 i6,.string s6,.slice A6 n6 c6,.slice B6 o6 d6],.agg #[.int .i64 c,.int .i64 i]])/\(c=0↔Rv f x))/\Bel w w':=by
 refine enT func57 ntmps57 rfl rfl fun hB=>?_;refine zn2 ?_;refine qY (v:= .agg #[_,_,_,_,_,_]) (cs:=#[_,_,_,_,_,_]) rfl rfl (fun b2 w1 bc t1 hr=>?_);refine qY (v:= .agg #[_,_,_,_,_,_]) (cs:=#[_,_,_,_,_,_]) rfl rfl (fun b3 w2 bb t2 hr=>?_);refine qk (cs:=#[.int .i64 0,.string ⟨#[]⟩,.int .i64 0,.string ⟨#[]⟩,.slice none 0 0,.slice none 0 0]) gv rfl (fun b4 w3 a1 t3 hr=>?_);have:=nLL bc.u.lt hr;have:=nLL bb.lt hr;have lo4:=nLT (Bel.size hB.u) hr;refine qk (cs:=#[.int .i64 0,.int .i64 0]) qK rfl (fun b5 w4 a2 t4 hr=>?_);have:=nLL bc.u.lt hr;have:=nLL bb.u.lt hr;have:=nLL a1.lt hr;have lo5:=nLT (Bel.size hB.u) hr;refine zn6 ?_;refine zW H8 (MK SA BA cs cb f _ (hS.mono hB.u) (hT.mono hB.u)) rfl (fun e' w5 hr=>?_);obtain⟨rfl,t5⟩:=hr;replace t5:=sB t5;refine⟨_,rfl,?_⟩;refine yj (cs:=#[.int .i64 0,.int .i64 0]) qK rfl (fun _=>rfl) (fun _=>rfl) zq rfl zJ (fun b6 w7 hb6 t6 hr=>?_);have:=nLL a1.u.lt hr;have:=nLL a2.u.lt hr;refine zn9 ?_;refine zV rfl (fun a7=>?_) (fun a7=>?_)
 ·refine xy ?_;refine u5 [b4,b5] [0,1,2,3] rfl (fun w8 t7=>?_);refine hl rfl (fun _=>kK (vs:=#[]) (cs:=#[.int .i64 0,.string ⟨#[]⟩,.int .i64 0,.string ⟨#[]⟩,.slice none 0 0,.slice none 0 0]) (by simp) kR) (zn1 ?_);refine h1 rfl ?_;refine zk a1.u rfl rfl Zj rfl zJ (fun w9 hq t8=>?_);have a4:=t8;replace a1:=hq;refine zQ (e_H (X':=[b5]) (Same.weak a4 (by simp)) (by simp) (h1 rfl ?_));refine zk a2.u rfl rfl zq rfl zJ (fun w10 hq t9=>?_);have a3:=t9;replace a2:=hq;refine zQ (e_H (X':=[]) (Same.weak a3 (by simp)) (by simp) (zn4 ?_));refine kY (.inl rfl) rfl (zZ U34 rfl rfl a1.u.range0 Zj) (zZ U45 rfl rfl a2.range0 zq) ?_;exact⟨⟨_,_,_,_,_,_,_,_,_,_,_,_,rfl,fun h=>absurd h a7,fun h=>absurd h.1 a7⟩,hB.u⟩
 have ba:=ak.1 a7;obtain⟨v,hv,hvo,hvs⟩:=tmF_tv ba;refine zn6 ?_;refine zW H8 (MK Sx Bx csx cbx x _ (hSx.mono hB.u) (hTx.mono hB.u)) rfl (fun e' w11 hr=>?_);obtain⟨rfl,t10⟩:=hr;replace t10:=sB t10;refine⟨_,rfl,?_⟩;refine yj (cs:=#[.int .i64 0,.int .i64 0]) qK rfl (fun _=>rfl) (fun _=>rfl) zq rfl zJ (fun b7 w13 hb7 t11 hr=>?_);have:=nLL a1.u.lt hr;have:=nLL a2.u.lt hr;refine zn9 ?_;refine zV rfl (fun a6=>?_) (fun a6=>?_)
 ·refine xy ?_;refine u5 [b4,b5] [0,1,2,3] rfl (fun w14 t12=>?_);refine hl rfl (fun _=>kK (vs:=#[]) (cs:=#[.int .i64 0,.string ⟨#[]⟩,.int .i64 0,.string ⟨#[]⟩,.slice none 0 0,.slice none 0 0]) (by simp) kR) (zn1 ?_);refine h1 rfl ?_;refine zk a1.u rfl rfl Zj rfl zJ (fun w15 hq t13=>?_);have a4:=t13;replace a1:=hq;refine zQ (e_H (X':=[b5]) (Same.weak a4 (by simp)) (by simp) (h1 rfl ?_));refine zk a2.u rfl rfl zq rfl zJ (fun w16 hq t14=>?_);have a3:=t14;replace a2:=hq;refine zQ (e_H (X':=[]) (Same.weak a3 (by simp)) (by simp) (zn4 ?_));refine kY (.inl rfl) rfl (zZ U34 rfl rfl a1.u.range0 Zj) (zZ U45 rfl rfl a2.range0 zq) ?_;exact⟨⟨_,_,_,_,_,_,_,_,_,_,_,_,rfl,fun h=>absurd h a6,fun h=>absurd h.2.1 a6⟩,hB.u⟩
 have ad:=ak.1 a6;obtain⟨u,hu,huo,hus⟩:=tmF_tv ad;have hK:=app_K (tmF_K ba) (tmF_K ad);have hsa:=szT_app f x;rw[show szT f=v.size by rw[hv];exact F3 v,show szT x=u.size by rw[hu];exact F3 u]at hsa;refine zn6 ?_;refine qv (cs:=#[_,_,_,_,_,_,_,_,_,_,_,_]) [(0,.agg _),(1,.agg _)] rfl U32 Zj gv dE dE kR rfl (fun a8 w17 a5 t15 hr=>?_);have:=nLL bc.u.lt hr;have:=nLL bb.u.lt hr;have:=nLL a1.u.lt hr;have:=nLL a2.u.lt hr;have:=nLL hb6.u.lt hr;have:=nLL hb7.lt hr;refine wl (jk (v0:= .int _ _) (v1:= .slice _ _ _) (fun v0 v1=>#[v0,.string ⟨#[]⟩,.int .i64 0,.string ⟨#[]⟩,.slice none 0 0,v1]) rfl rfl kR) ?_;refine yj (cs:=#[.int .i64 0,.string ⟨#[]⟩,.int .i64 0,.string ⟨#[]⟩,.slice none 0 0,.slice none 0 0]) gv rfl (fun _=>rfl) (fun _=>rfl) Zj rfl zJ (fun b8 a9 hb8 t16 hr=>?_);have:=nLL a5.lt hr;have hA:TmsIn a9 (some ⟨a8,0,none⟩) [f,x]:=tms_two a5.u (hS.mono hB.u) (hT.mono hB.u) (hSx.mono hB.u) (hTx.mono hB.u);obtain⟨wA,an⟩:∃ z,z=a9:=⟨_,rfl⟩
 have bd:Bel wA a9:=by rw[an];exact Below.refl _ _
 rw[<- an]at hA;clear an;refine zn6 ?_;refine zW kR (Bz _ (.app v u) (aG _) [] none (some ⟨a8,0,none⟩) none 0 2 0 _ .nil (by show TmsIn _ _ [v.tm,u.tm];rw[<- hv,<- hu];exact hA.mono bd) (CtxIn.nil _) (ag _) (by show 0+(v.size+u.size+1)<=1000;omega) ⟨hvo,huo⟩) rfl (fun e' w20 hr=>?_);obtain⟨⟨s7,A7,n7,c7,rfl,_⟩,t17⟩:=hr;replace t17:=sB t17;refine⟨_,rfl,?_⟩;refine wmT rfl (wl (y8 (v:= .agg _) rfl rfl) (wl (y8 (v:= .bool _) rfl rfl) ?_));refine yj (cs:=#[.string ⟨#[]⟩,.slice none 0 0]) JQ rfl (fun _=>rfl) (fun _=>rfl) xY rfl zJ (fun b9 w22 hb9 t18 hr=>?_);have:=nLL a5.u.lt hr;refine zn9 ?_;refine ky rfl (fun bf=>?_) (fun bf=>?_)
 ·have b1:¬Rv f x:=fun k=>by
   obtain⟨v2,u2,τ,e1,e2,e3⟩:=k.2.2.1;obtain rfl:=Tv.tm_inj (hv.symm.trans e1);obtain rfl:=Tv.tm_inj (hu.symm.trans e2);have h:=bf;rw[e3]at h;cases h
  refine zn2 ?_;refine wl (kK (vs:=#[]) (cs:=#[.int .i64 0,.string ⟨#[]⟩,.int .i64 0,.string ⟨#[]⟩,.slice none 0 0,.slice none 0 0]) (by simp) kR) (wl (jk (v0:= .int _ _) (v1:= .int _ _) (fun v0 v1=>#[v0,v1]) rfl rfl kR) ?_);refine zk a1.u rfl rfl Zj rfl zJ (fun w23 hq t19=>?_);replace a1:=hq;refine zk a2.u rfl rfl zq rfl zJ (fun w24 hq t20=>?_);replace a2:=hq;refine zn4 ?_;refine kY (.inl rfl) rfl (zZ U34 rfl rfl a1.u.range0 Zj) (zZ U45 rfl rfl a2.range0 zq) ?_;exact⟨⟨_,_,_,_,_,_,_,_,_,_,_,_,rfl,fun h=>absurd h dE,fun h=>absurd h b1⟩,hB.u⟩
 obtain⟨τ,hτ⟩:∃ τ,tyv [] (.app v u)=some τ:=aV.1 (by simpa using bf);refine zn6 ?_;refine zW kR (fits_any (t:=M7 f x) hK none (some ⟨a8,0,none⟩) 0 2 _ oG .nil (hA.mono bd.u)) rfl (fun e' w25 hr=>?_);obtain⟨rfl,t21⟩:=hr;replace t21:=sB t21;refine⟨_,rfl,?_⟩;refine zn3 ?_;refine ky rfl (fun be=>?_) (fun be=>?_)
 ·have b1:¬Rv f x:=fun k=>by
   exact absurd be (by simp[k.2.2.2])
  refine zn2 ?_;refine wl (kK (vs:=#[]) (cs:=#[.int .i64 0,.string ⟨#[]⟩,.int .i64 0,.string ⟨#[]⟩,.slice none 0 0,.slice none 0 0]) (by simp) kR) (wl (jk (v0:= .int _ _) (v1:= .int _ _) (fun v0 v1=>#[v0,v1]) rfl rfl kR) ?_);refine zk a1.u rfl rfl Zj rfl zJ (fun w26 hq t22=>?_);replace a1:=hq;refine zk a2.u rfl rfl zq rfl zJ (fun w27 hq t23=>?_);replace a2:=hq;refine zn4 ?_;refine kY (.inl rfl) rfl (zZ U34 rfl rfl a1.u.range0 Zj) (zZ U45 rfl rfl a2.range0 zq) ?_;exact⟨⟨_,_,_,_,_,_,_,_,_,_,_,_,rfl,fun h=>absurd h dE,fun h=>absurd h b1⟩,hB.u⟩
 have hsk:szT (M7 f x)<=200/\dpT (M7 f x)<=40:=by simpa using be
 refine zn5 ?_;refine zW kR (Lq hK none (some ⟨a8,0,none⟩) 0 2 _ .nil (hA.mono bd.u)) rfl (fun e' w28 hr=>?_);obtain⟨⟨S8,s8,B8,c8,rfl,_⟩,t24⟩:=hr;replace t24:=sB t24;refine⟨_,rfl,?_⟩;refine wl (kK (vs:=#[]) (cs:=#[.int .i64 0,.int .i64 0]) (by simp) kR) ?_;refine zk a1.u rfl rfl Zj rfl zJ (fun w29 hq t25=>?_);replace a1:=hq;refine zk a2.u rfl rfl zq rfl zJ (fun w30 hq t26=>?_);replace a2:=hq;refine zn3 ?_;refine kY (.inl rfl) rfl (zZ U34 rfl rfl a1.u.range0 Zj) (zZ U45 rfl rfl a2.range0 zq) ?_;exact⟨⟨_,_,_,_,_,_,_,_,_,_,_,_,rfl,fun _=>⟨ba,ad,⟨v,u,τ,hv,hu,hτ⟩,hsk⟩,fun _=>rfl⟩,hB.u⟩
section
section monokg
variable {P:Program} {Q:Exit->Act->World->Prop} {n:Nw} {f:Fr} {w:World}
def Gk(l:List Oper)(m:Nat)(S:List Nat):Bool:=
 decide (l.length=m)&&(List.range l.length).all (fun i=>match l[i]? with
  | some o=>(vV o).all (fun j=>decide (j<i))&&(match o.dst with
   | some d=>mem S d&&(List.range l.length).all (fun j=>decide (i=j)||(match l[j]? with|some o'=>!(o'.dst==some d)|none=>true))
   | none=>true)
  | none=>false)
theorem c_monoKG{id:Nat}{l:List Oper}(m:Nat)(S X:List Nat)(R:Nat->Value->World->Prop)(J:World->Prop)(hm:P.follows .mixedOrders=true)(hB:Gk l m S=true)(hJ0:∀ w',Same [] w w'->J w')
  (step:∀ i o,i<m->l[i]? =some o->∀ f' w',Same X w w'->J w'->Ag S f' f->(∀ j o',j∈vV o->l[j]? =some o'->R j (vO f' o') w')->(Region.wanted o (yielded l.toArray (AF n f').tmps)=true->OS P n f' w' o (fun v w''=>Same X w' w''/\J w''/\rO R i o v w''/\∀ k v,k≠i->R k v w'->R k v w''))/\(Region.wanted o (yielded l.toArray (AF n f').tmps)=false->R i undef w'))
  (fin:∀ f' w',Same X w w'->J w'->Ag S f' f->(∀ i o,l[i]? =some o->R i (vO f' o) w')->WL P l.toArray Q [] n f' w'):WC P (.region id l.toArray true) Q n f w:=by
 simp only[Gk,Bool.and_eq_true,List.all_eq_true,List.mem_range,decide_eq_true_eq]at hB;obtain⟨hlm,hB⟩:=hB;have a3:∀ i o,l[i]? =some o->(∀ j∈vV o,j<i)/\(∀ v f',Ag S f' f->Ag S (Zx f' o.dst v) f)/\(∀ f' v,vO (Zx f' o.dst v) o=(match o.dst with|some _=>v|none=>undef))/\∀ f' v j o',l[j]? =some o'->i≠j->vO (Zx f' o.dst v) o'=vO f' o':=fun i o ho=>by
  have hil:i<l.length:=(av.1 ho).1;have h:=hB i hil;simp only[ho,Bool.and_eq_true]at h;obtain⟨h2,h3⟩:=h;refine⟨(fun j hj=>by simpa using aD.1 h2 j hj),?_⟩;unfold vO Zx;cases hd:o.dst with
  | none=>exact⟨fun v f' h=>h,fun f' v=>rfl,fun f' v j o' _ _=>rfl⟩
  | some d=>
   simp only[hd,Bool.and_eq_true]at h3;refine⟨fun v f' h=>Rz h3.1 h,fun f' v=>by simp[upd],fun f' v j o' a1 hne=>?_⟩;have h4:=aD.1 h3.2 j (ax.2 (av.1 a1).1);cases hd':o'.dst with
   | none=>rfl
   | some d'=>
    simp only[a1,hd']at h4;have hb:Nat.beq d' d=false:=by
     cases hb:Nat.beq d' d
     ·rfl
     ·rw[Nat.eq_of_beq_eq_true hb]at h4;simp[hne]at h4
    simp only[upd,hb,cond_false]
 let JJ:Array Bool->Fr->World->Prop:=fun listed f' w'=>Same X w w'/\J w'/\Ag S f' f/\∀ i o,l[i]? =some o->listed.getD i false=true->R i (vO f' o) w'
 refine E7 JJ hm (fun w' hs=>⟨hs.weak (by simp),hJ0 _ hs,J8,fun i _ _ h=>absurd h ZZ⟩) ?_
 rintro listed f' w' ⟨hsm,hj,hag,hR⟩ hs hD
 by_cases a2:∀ i,i<l.length->listed.getD i false=true
 ·exact .inl (HK a2 (fin f' w' hsm hj hag (fun i o ho=>hR i o ho (a2 i (av.1 ho).1))))
 ·obtain⟨a,hb⟩:=aT.1 a2
  obtain⟨hb1,hb⟩:=aP.1 hb;refine .inr ⟨KQ hs (fun i o _ ho=>(a3 i o ho).1) (ae _) a hb1 (by simpa using hb),fun i o hil ho hn hd=>?_⟩;obtain⟨hdl,hau,hus,huo⟩:=a3 i o ho
  have nx:∀ v w'',Same X w' w''->J w''->R i (match o.dst with|some _=>v|none=>undef) w''->(∀ k v,k≠i->R k v w'->R k v w'')->JJ (listed.setIfInBounds i true) (Zx f' o.dst v) w'':=fun v w'' hs1 hj1 hr1 hk1=>⟨hsm.trans hs1,hj1,hau v f' hag,fun j o' a1 hl'=>by
   by_cases a4:i=j
   ·subst a4
    rw[ho]at a1;cases a1;rw[hus];exact hr1
   ·rw[gse a4]at hl'
    rw[huo _ _ j o' a1 a4]
    exact hk1 j _ (Ne.symm a4) (hR j o' a1 hl')⟩
  have h:=step i o oG ho f' w' hsm hj hag (fun j o' hjd a1=>hR j o' a1 (hd j hjd));refine⟨fun hw=>?_,fun hw=>nx undef w' ((Same.refl [] w').weak (by simp)) hj (by have:=h.2 hw;cases o.dst<;>exact this) (fun k v _ h=>h)⟩;have h1:=h.1 hw;unfold OS at h1 ⊢;refine fun K Q' hK=>h1 K Q' (fun v w'' ⟨h1,h2,h3,h4⟩=>hK v w'' (nx v w'' h1 h2 ?_ h4))
  unfold rO at h3;cases hdst:o.dst<;>simpa only[hdst]using h3
theorem SZ{id:Nat}{l:List Oper}(m:Nat)(S X:List Nat)(R:Nat->Value->World->Prop)(J:World->Prop)(hm:P.follows .mixedOrders=true)(hB:Gk l m S=true)
  (hst:∀ i v w1 w2,R i v w1->Same [] w1 w2->R i v w2) (hJ:∀ w1 w2,J w1->Same [] w1 w2->J w2) (hJ0:J w)
  (step:∀ i o,i<m->l[i]? =some o->∀ g w',Same X w w'->J w'->(∀ j o',j∈vV o->l[j]? =some o'->R j (vO g o') w')->(Region.wanted o (yielded l.toArray (AF n (ovr S g f)).tmps)=true->match o.dst with
   | some _=>OS P n (ovr S g f) w' o (fun v w''=>Same [] w' w''/\R i v w''/\Rj false w' w'' v)
   | none=>OS P n (ovr S g f) w' o (fun _ w''=>Same X w' w''/\J w''/\R i undef w''/\∀ k v,k≠i->R k v w'->R k v w''))/\(Region.wanted o (yielded l.toArray (AF n (ovr S g f)).tmps)=false->R i undef w'))
  (fin:∀ g w',Same X w w'->J w'->(∀ i o,l[i]? =some o->R i (vO g o) w')->WL P l.toArray Q [] n (ovr S g f) w'):WC P (.region id l.toArray true) Q n f w:=by
 refine c_monoKG m S X R J hm hB (fun w' hs=>hJ _ _ hJ0 hs) (fun i o hi ho f' w' hs hj a1 hd=>?_) (fun f' w' hs hj a1 hR=>?_)
 ·have h:=step i o hi ho f' w' hs hj hd
  rw[<- Qz a1]at h;refine⟨fun hw=>?_,h.2⟩;replace h:=h.1 hw;unfold rO;cases hdst:o.dst with
  | some d=>
   simp only[hdst]at h;unfold OS at h ⊢;exact fun K Q hK=>h K Q (fun v w'' ⟨h1,h2,_⟩=>hK v w'' ⟨h1.weak (fun x hx=>by cases hx),hJ _ _ hj h1,h2,fun k v _ hr=>hst k v _ _ hr h1⟩)
  | none=>
   simp only[hdst]at h;unfold OS at h ⊢;exact fun K Q hK=>h K Q (fun v w'' h1=>hK v w'' h1)
 ·have:=fin f' w' hs hj hR
  rwa[<- Qz a1]at this
end monokg
end
end Go.Proofs.YtiofaflajkgiaaaGreatDoor
