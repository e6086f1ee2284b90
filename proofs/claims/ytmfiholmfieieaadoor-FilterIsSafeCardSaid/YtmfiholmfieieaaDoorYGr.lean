/- What these functions compute, at every world: derive.fault, derive.Fits$1, derive.Fits, derive.Validate, derive.Graph; and plain laws. -/
import Derived.Test.YtmfiholmfieieaaDoorU
import Derived.Test.YtmfiholmfieieaaDoorZst
import Derived.Test.YtmfiholmfieieaaDoorCmt
import Derived.Test.YtmfiholmfieieaaDoorDSh
import Derived.Test.YtmfiholmfieieaaDoorNTw
import Derived.Test.YtmfiholmfieieaaDoorGro
import Derived.Test.YtmfiholmfieieaaDoorFOp
import Derived.Test.YtmfiholmfieieaaDoorWRc
namespace Go.Proofs.YtmfiholmfieieaaDoor
open Go.RowKit
set_option maxHeartbeats 2000000
variable {AF AR AS AT AX:Option Addr}{bG bL bN bV cf cr cst ct cx:Nat}{fs:List Ft}{l:List Ty}{rs:List Rl}{st:List Nd}{t:Dt}{w0:World}{xs:List Lx}
theorem C7:(Tryd.prog.info? 35).map (·.size)=some 3:=by kernel_rfl
theorem ze35:(Tryd.prog.info? 35).map (·.zero)=some (some (.agg #[.int .i64 0,.int .i64 0,.slice none 0 0])):=by kernel_rfl
theorem gj(a b:Int)(w:World):Calls Tryd.prog 78 #[.int .i64 a,.int .i64 b] w fun e w'=>e= .returned (flV (a,b))/\Bel w w':=by
 refine enT Tryd.func78 Tryd.ntmps78 rfl rfl fun hB=>?_;refine zn2 ?_;refine qw (cs:=#[.int .i64 0,.int .i64 0]) qQ rfl (fun b4 w1 a1 s1 hr=>?_);have lo4:=hB.ob hr;refine zn6 ?_;refine VY ?_;refine zJ a1 (fun w2 hq s2=>?_);replace a1:=hq;refine zn3 ?_;refine xX (.inl rfl) rfl (zw U43 rfl rfl a1.range0 zj) ?_;exact⟨rfl,hB.u⟩
set_option maxRecDepth 100000 in
set_option maxHeartbeats 8000000 in
theorem tw_step(hRu:RulesIn w0 AR rs)(l0N:w0.heap.size<=bN)(_l0G:w0.heap.size<=bG)(l0L:w0.heap.size<=bL)(_l0V:w0.heap.size<=bV)(hne:bN≠bL/\bN≠bG/\bN≠bV/\bL≠bG/\bL≠bV){A:Option Addr}{c d ch n lf:Nat}{w:World}(hT:TresIn w0 A t.kids)(IH:∀ x∈t.kids,∀(A2:Option Addr) (c2 d2 bm n2 l2:Nat) (w2:World),TresIn w0 A2 x.kids->n2<=200->d2<=49->bm<=3->l2<=n2->Bel w0 w2->Blk w2 bN 3 #[.int .i64 ((n2:Nat):Int)]->Blk w2 bG 32 #[.slice AT l.length ct,.slice AF fs.length cf,.slice AR rs.length cr,.slice AX xs.length cx,.slice AS st.length cst]->Blk w2 bL 3 #[.int .i64 ((l2:Nat):Int)]->Blk w2 bV 147 #[.func (.func 77) #[] (cD bN bG bL bV)]->Calls Tryd.prog 77 #[.agg #[.int .i64 (x).rule,.int .i64 (x).lex,.slice A2 (x).kids.length c2],.int .i64 ((d2:Nat):Int),.int .i64 ((bm:Nat):Int),.pointer (some ⟨bN,0,none⟩),.pointer (some ⟨bG,0,none⟩),.pointer (some ⟨bL,0,none⟩),.pointer (some ⟨bV,0,none⟩)] w2 fun e w'=>e= .returned (flV (tw rs xs.length x d2 bm n2 l2).2.2)/\ChG (fun g=>g=bN\/g=bL) w2 w'/\Blk w' bN 3 #[.int .i64 (((tw rs xs.length x d2 bm n2 l2).1:Nat):Int)]/\∃ l':Nat,Blk w' bL 3 #[.int .i64 ((l':Nat):Int)]/\((tw rs xs.length x d2 bm n2 l2).2.2.1=0->l'=(tw rs xs.length x d2 bm n2 l2).2.1))(hn:n<=200)(hd:d<=49)(hch3:ch<=3)(hlf:lf<=n)(hB:Bel w0 w)(a3:Blk w bN 3 #[.int .i64 ((n:Nat):Int)])(a7:Blk w bG 32 #[.slice AT l.length ct,.slice AF fs.length cf,.slice AR rs.length cr,.slice AX xs.length cx,.slice AS st.length cst])(a4:Blk w bL 3 #[.int .i64 ((lf:Nat):Int)])(a6:Blk w bV 147 #[.func (.func 77) #[] (cD bN bG bL bV)]):Calls Tryd.prog 77 #[.agg #[.int .i64 (t).rule,.int .i64 (t).lex,.slice A (t).kids.length c],.int .i64 ((d:Nat):Int),.int .i64 ((ch:Nat):Int),.pointer (some ⟨bN,0,none⟩),.pointer (some ⟨bG,0,none⟩),.pointer (some ⟨bL,0,none⟩),.pointer (some ⟨bV,0,none⟩)] w fun e w'=>e= .returned (flV (tw rs xs.length t d ch n lf).2.2)/\ChG (fun g=>g=bN\/g=bL) w w'/\Blk w' bN 3 #[.int .i64 (((tw rs xs.length t d ch n lf).1:Nat):Int)]/\∃ l':Nat,Blk w' bL 3 #[.int .i64 ((l':Nat):Int)]/\((tw rs xs.length t d ch n lf).2.2.1=0->l'=(tw rs xs.length t d ch n lf).2.1):=by
 have hmx:=hT.le;unfold vJ at hmx;have hrx:=hRu.1;unfold vJ at hrx;have ltN:=a3.lt;have ltG:=a7.lt;have ltL:=a4.lt;have ltV:=a6.lt;have hC:ChG (fun g=>g=bN\/g=bL) w w:=ChG.refl _ _;refine enter Tryd.func77 Tryd.ntmps77 rfl (aE rfl) (zn2 ?_);refine qZ (cs:=#[_,_,_]) rfl (fun b7 w1 ab s1 hr=>?_);have:=a3.ob hr;have:=a7.ob hr;have:=a4.ob hr;have:=a6.ob hr;replace hC:=hC.st s1 (by simp);refine qw (cs:=#[.int .i64 0,.int .i64 0]) qQ rfl (fun bf w2 a1 s2 hr=>?_);have:=a3.u.ob hr;have:=a7.u.ob hr;have:=a4.u.ob hr;have:=a6.u.ob hr;have a2:=(nLT hC.size hr)
 have:=ab.ob hr;replace hC:=hC.st s2 (by simp);refine gX ?_;refine wl (X0 (c:=((n+1:Nat):Int)) rfl rfl rfl oG) ?_;replace a3:=a3.tr0 (s1.t s2);refine xj (v:= .int _ _) a3 rfl rfl x8 (by first|decide|simp) rfl rfl (fun w3 hq s3=>?_);replace hB:=hB.u.tr1 s3 l0N;replace hC:=hC.st s3 (fun g hg=>by rw[List.mem_singleton.1 hg];first|exact .inl (.inl rfl)|exact .inl (.inr rfl)|exact .inr or_hC_bN);replace a3:=hq;refine jZ ?_;replace a4:=(a4.tr0 (s1.t s2)).tr1 s3 oG;replace a1:=a1.tr1 s3 oG;refine yy [21,22,23,24,25,26,27] 21 (.bool (decide (200<n+1\/48<d))) nu ?_ (fun gq=>?_)
 ·refine zn4 ?_;refine zQ 24 rfl (fun g24=>?_) (fun g24=>?_)
  ·refine zn4 ?_;exact vx
  refine zn6 ?_;exact vx
 refine e_S ?_;refine zK rfl (fun b3=>?_) (fun b3=>?_)
 ·refine zn3 ?_;refine zX kR (gj _ _ _) rfl (fun e' w4 hr=>?_);obtain⟨rfl,s4⟩:=hr;replace s4:=sB s4;replace hC:=hC.st s4 (by simp);refine⟨_,rfl,?_⟩;refine zJ a1.u (fun w5 hq s5=>?_);replace hC:=hC.st s5 (fun g hg=>by rw[List.mem_singleton.1 hg];first|exact .inl (.inl rfl)|exact .inl (.inr rfl)|exact .inr a2);replace a1:=hq;refine zn5 ?_;refine xX (.inl rfl) rfl (zw U43 rfl rfl a1.range0 zj) ?_;rw[L4 b3];replace a3:=(a3.tr0 s4).tr1 s5 oG;replace a4:=(a4.tr0 s4).tr1 s5 oG;exact⟨rfl,hC,a3,_,a4,fun h=>absurd (show (1:Int)=0 from h) dE⟩
 refine yz ?_;refine yy (rgq [] 30 30) 30 (.bool (decide (t.rule < -1\/(rs.length:Int)<=t.rule\/(t.rule= -1/\(t.lex<0\/(xs.length:Int)<=t.lex))))) nu ?_ (fun gq=>?_)
 ·refine zn5 ?_;refine zQ 34 rfl (fun g34=>?_) (fun g34=>?_)
  ·refine zn26 ?_;exact vx
  refine VQ ?_;refine zQ 42 rfl (fun g42=>?_) (fun g42=>?_)
  ·refine zn18 ?_;exact vx
  refine zn8 ?_;refine zQ 46 rfl (fun g46=>?_) (fun g46=>?_)
  ·refine zn8 ?_;refine zQ 50 rfl (fun g50=>?_) (fun g50=>?_)
   ·refine jJ ?_;exact vx
   refine zn18 ?_;exact vx
  refine Hw ?_;exact vx
 refine e_S ?_;refine zK rfl (fun bw=>?_) (fun bw=>?_)
 ·refine zn3 ?_;refine zX kR (gj _ _ _) rfl (fun e' w6 hr=>?_);obtain⟨rfl,s6⟩:=hr;replace s6:=sB s6;replace hC:=hC.st s6 (by simp);refine⟨_,rfl,?_⟩;refine zJ a1.u (fun w7 hq s7=>?_);replace hC:=hC.st s7 (fun g hg=>by rw[List.mem_singleton.1 hg];first|exact .inl (.inl rfl)|exact .inl (.inr rfl)|exact .inr a2);replace a1:=hq;refine zn5 ?_;refine xX (.inl rfl) rfl (zw U43 rfl rfl a1.range0 zj) ?_;rw[Pq b3 (trC_3 bw) dE];replace a3:=(a3.tr0 s6).tr1 s7 oG;replace a4:=(a4.tr0 s6).tr1 s7 oG;exact⟨rfl,hC,a3,_,a4,fun h=>absurd (show (3:Int)=0 from h) dE⟩
 refine yz ?_;refine yy (rgq [] 62 9) 62 (.bool (decide (0<=t.rule/\¬t.lex=0))) nu ?_ (fun gq=>?_)
 ·refine zn5 ?_;refine zQ 66 rfl (fun g66=>?_) (fun g66=>?_)
  ·refine zn8 ?_;exact vx
  refine zn5 ?_;exact vx
 refine e_S ?_;refine zK rfl (fun bz=>?_) (fun bz=>?_)
 ·refine zn3 ?_;refine zX kR (gj _ _ _) rfl (fun e' w8 hr=>?_);obtain⟨rfl,s8⟩:=hr;replace s8:=sB s8;replace hC:=hC.st s8 (by simp);refine⟨_,rfl,?_⟩;refine zJ a1.u (fun w9 hq s9=>?_);replace hC:=hC.st s9 (fun g hg=>by rw[List.mem_singleton.1 hg];first|exact .inl (.inl rfl)|exact .inl (.inr rfl)|exact .inr a2);replace a1:=hq;refine zn5 ?_;refine xX (.inl rfl) rfl (zw U43 rfl rfl a1.range0 zj) ?_;rw[Pq b3 (trC_5 bw bz) dE];replace a3:=(a3.tr0 s8).tr1 s9 oG;replace a4:=(a4.tr0 s8).tr1 s9 oG;exact⟨rfl,hC,a3,_,a4,fun h=>absurd (show (5:Int)=0 from h) dE⟩
 refine zn8 ?_;refine yX (rgq [12,19,20] 77 7) (fun g w'=>g 12= .int .i64 (kdN rs t)/\Bel w0 w'/\Blk w' bN 3 #[.int .i64 ((n+1:Nat):Int)]/\Blk w' bG 32 #[.slice AT l.length ct,.slice AF fs.length cf,.slice AR rs.length cr,.slice AX xs.length cx,.slice AS st.length cst]/\Blk w' bL 3 #[.int .i64 ((lfN t lf:Nat):Int)]/\Blk w' bV 147 #[.func (.func 77) #[] (cD bN bG bL bV)]/\Blk w' b7 35 #[.int .i64 t.rule,.int .i64 t.lex,.slice A t.kids.length c]/\Blk w' bf 43 #[.int .i64 0,.int .i64 0]/\ChG (fun g=>g=bN\/g=bL) w w') ?_ (fun gx1 w10 hI=>?_)
 ·refine zK rfl (fun c73=>?_) (fun c73=>?_)
  ·obtain⟨ri,hri⟩:=aO c73;have br:ri<rs.length:=by omega
   obtain⟨rb,ro,Gk,cgk,Sk,csk,Bk,mk,hAR,hrb,hrr,_,_,_⟩:=hRu.at_ hB br;have ba:=Dq br hri;have b6:lfN t lf=lf:=lfN_rl oG;subst hAR;refine zn4 ?_;replace ab:=(ab.tr0 s2).tr1 s3 oG;refine wl (qW (v:= .int .i64 ((ri:Nat):Int)) U3 rfl rfl (by rw[<- hri];exact ab.cell rfl)) (zn2 ?_);refine wl (qW (v:= .int _ _) U3 rfl rfl (hrr 2 _ rfl)) (zn2 ?_);refine e_R ⟨agA,?_⟩;replace a7:=(a7.tr0 (s1.t s2)).tr1 s3 oG;replace a6:=(a6.tr0 (s1.t s2)).tr1 s3 oG;exact⟨by rw[ba];rfl,hB,a3,a7,by rw[b6];exact a4,a6,ab,a1,hC⟩
  have ba:=kdN_lf (rs:=rs) (t:=t) oG;have b6:lfN t lf=lf+1:=lfN_lf oG;refine zn2 ?_;refine wl (X0 (c:=((lf+1:Nat):Int)) rfl rfl rfl oG) ?_;refine xj (v:= .int _ _) a4 rfl rfl x8 (by first|decide|simp) rfl rfl (fun w11 hq b4=>?_);replace hB:=hB.tr1 b4 l0L;replace hC:=hC.st b4 (fun g hg=>by rw[List.mem_singleton.1 hg];first|exact .inl (.inl rfl)|exact .inl (.inr rfl)|exact .inr or_hC_bL);replace a4:=hq;refine x6 ?_;refine e_R ⟨agA,?_⟩;replace a7:=((a7.tr0 (s1.t s2)).tr1 s3 oG).tr1 b4 oG;replace a6:=((a6.tr0 (s1.t s2)).tr1 s3 oG).tr1 b4 oG;replace ab:=((ab.tr0 s2).tr1 s3 oG).tr1 b4 oG;replace a3:=a3.tr1 b4 oG;replace a1:=a1.tr1 b4 oG;exact⟨by rw[ba];rfl,hB,a3,a7,by rw[b6];exact a4,a6,ab,a1,hC⟩
 obtain⟨h12,hB,a3,a7,a4,a6,ab,a1,hC⟩:=hI;refine Zq 12 _ h12 nu (jJ ?_);refine zK rfl (fun cc=>?_) (fun cc=>?_)
 ·have bk:=trC_9 bw bz cc;refine zn3 ?_;refine zX kR (gj _ _ _) rfl (fun e' w12 hr=>?_);obtain⟨rfl,bq⟩:=hr;replace bq:=sB bq;replace hC:=hC.st bq (by simp);refine⟨_,rfl,?_⟩;refine zJ a1.u (fun w13 hq c3=>?_);replace hC:=hC.st c3 (fun g hg=>by rw[List.mem_singleton.1 hg];first|exact .inl (.inl rfl)|exact .inl (.inr rfl)|exact .inr a2);replace a1:=hq;refine zn4 ?_;refine xX (.inl rfl) rfl (zw U43 rfl rfl a1.range0 zj) ?_;rw[Pq b3 bk dE];replace a3:=(a3.tr0 bq).tr1 c3 oG;replace a4:=(a4.tr0 bq).tr1 c3 oG;exact⟨rfl,hC,a3,_,a4,fun h=>absurd (show (9:Int)=0 from h) dE⟩
 have bk:=trC_0 bw bz cc;refine zn6 ?_;refine wl (X0 (c:=((ch+1:Nat):Int)) rfl rfl rfl oG) (zn9 ?_);refine zK rfl (fun cb=>?_) (fun cb=>?_)
 ·have hcn:chN rs t ch=0:=by unfold chN;rw[if_neg cb]
  refine zn6 ?_;refine zZ 2 (.int .i64 ((chN rs t ch:Nat):Int)) (by rw[hcn];rfl) nu (zn5 ?_);refine zK rfl (fun ca=>?_) (fun ca=>?_)
  ·have b8:3<chN rs t ch:=by omega
   refine zn3 ?_;refine zX kR (gj _ _ _) rfl (fun e' w14 hr=>?_);obtain⟨rfl,bo⟩:=hr;replace bo:=sB bo;replace hC:=hC.st bo (by simp);refine⟨_,rfl,?_⟩;refine zJ a1.u (fun w15 hq c1=>?_);replace hC:=hC.st c1 (fun g hg=>by rw[List.mem_singleton.1 hg];first|exact .inl (.inl rfl)|exact .inl (.inr rfl)|exact .inr a2);replace a1:=hq;refine zn4 ?_;refine xX (.inl rfl) rfl (zw U43 rfl rfl a1.range0 zj) ?_;rw[OQ b3 bk b8];replace a3:=(a3.tr0 bo).tr1 c1 oG;replace a4:=(a4.tr0 bo).tr1 c1 oG;exact⟨rfl,hC,a3,_,a4,fun h=>absurd (show (14:Int)=0 from h) dE⟩
  have b8:¬3<chN rs t ch:=by omega
  have bv:=tw_go (l:=lf) b3 bk b8;refine jJ ?_;refine qk (rgq [14,15] 102 15) (fun m g w'=>∃ j nj lj:Nat,j<=t.kids.length/\m=t.kids.length-j/\g 102= .int .i64 j/\nj<=200/\lj<=nj/\tws rs xs.length t.kids (d+1) (chN rs t ch) (n+1) (lfN t lf)=tws rs xs.length (t.kids.drop j) (d+1) (chN rs t ch) nj lj/\Bel w0 w'/\Blk w' bN 3 #[.int .i64 ((nj:Nat):Int)]/\Blk w' bG 32 #[.slice AT l.length ct,.slice AF fs.length cf,.slice AR rs.length cr,.slice AX xs.length cx,.slice AS st.length cst]/\Blk w' bL 3 #[.int .i64 ((lj:Nat):Int)]/\Blk w' bV 147 #[.func (.func 77) #[] (cD bN bG bL bV)]/\Blk w' b7 35 #[.int .i64 t.rule,.int .i64 t.lex,.slice A t.kids.length c]/\Blk w' bf 43 #[.int .i64 0,.int .i64 0]/\ChG (fun g=>g=bN\/g=bL) w w') (t.kids.length) ?_ (fun m g21 w16 hI=>?_)
  ·exact⟨0,n+1,lfN t lf,ad _,rfl,rfl,by omega,by unfold lfN;split<;>omega,rfl,hB,a3,a7,a4,a6,ab,a1,hC⟩
  obtain⟨j,nj,lj,hj,hmj,bd,c6,bt,hR,hB,a3,a7,a4,a6,ab,a1,hC⟩:=hI;refine zZ 102 _ bd nu (zn6 ?_);refine zK rfl (fun be=>?_) (fun be=>?_)
  ·have b2:j<t.kids.length:=by omega
   obtain⟨sb,so,A',c',rfl,hsb,hsr,c5⟩:=hT.at_ b2;have c9:t.kids.drop j=t.kids[j]::t.kids.drop (j+1):=List.drop_eq_getElem_cons b2;rw[c9,tws]at hR;refine zn8 ?_;refine qw (cs:=#[.int .i64 0,.int .i64 0,.slice none 0 0]) ze35 rfl (fun bx w17 an bj hr=>?_);have:=a3.ob hr;have:=a7.ob hr;have:=a4.ob hr;have:=a6.ob hr;have a9:=(nLT hC.size hr)
   have:=ab.ob hr;have:=a1.ob hr;have b5:=hB.ob hr;replace hC:=hC.st bj (by simp);refine zJ an (fun w18 hq bi=>?_);replace hC:=hC.st bi (fun g hg=>by rw[List.mem_singleton.1 hg];first|exact .inl (.inl rfl)|exact .inl (.inr rfl)|exact .inr a9);replace an:=hq;refine zn7 ?_;refine wl (X0 (c:=((d+1:Nat):Int)) rfl rfl rfl oG) (wmI rfl ?_);refine xw rfl kR (IH _ (ap b2) A' c' (d+1) (chN rs t ch) nj lj _ c5 c6 oG oG bt hB.u a3.u a7.u a4.u a6.u) rfl rfl (fun e' w19 hr=>?_);obtain⟨rfl,ao,bb,l',bc,b9⟩:=hr;replace hB:=(hB.tr0 bj).tr1 bi b5;replace hB:=hB.chG ao (fun g hg=>by rcases(show g=bN\/g=bL from hg)with e|e<;>rw[e]<;>assumption);replace a7:=(a7.tr0 bj).tr1 bi oG;replace a7:=a7.chG ao (fun hx=>by have hx:bG=bN\/bG=bL:=hx;omega);replace a6:=(a6.tr0 bj).tr1 bi oG;replace a6:=a6.chG ao (fun hx=>by have hx:bV=bN\/bV=bL:=hx;omega);replace ab:=(ab.tr0 bj).tr1 bi oG;replace ab:=ab.chG ao (fun hx=>by have hx:b7=bN\/b7=bL:=hx;omega);replace a1:=(a1.tr0 bj).tr1 bi oG;replace a1:=a1.chG ao (fun hx=>by have hx:bf=bN\/bf=bL:=hx;omega);replace hC:=hC.trans ao (fun g hg=> .inl hg);replace a3:=bb;replace a4:=bc;replace an:=an.chG ao (fun hx=>by have hx:bx=bN\/bx=bL:=hx;omega);refine⟨_,rfl,?_⟩;refine qw (cs:=#[.int .i64 0,.int .i64 0]) qQ rfl (fun b15 w20 b1 s17 hr=>?_);have:=a3.ob hr;have:=a7.ob hr;have:=a4.ob hr;have:=a6.ob hr;have a8:=(nLT hC.size hr)
   have:=ab.ob hr;have:=a1.ob hr;have c4:=hB.ob hr;replace hC:=hC.st s17 (by simp);refine zJ b1 (fun w21 hq s18=>?_);replace hC:=hC.st s18 (fun g hg=>by rw[List.mem_singleton.1 hg];first|exact .inl (.inl rfl)|exact .inl (.inr rfl)|exact .inr a8);replace b1:=hq;refine zn9 ?_;refine zK rfl (fun a5=>?_) (fun a5=>?_)
   ·rw[if_neg a5]at hR;refine zn3 ?_;refine zJ a1.u (fun w22 hq s19=>?_);replace hC:=hC.st s19 (fun g hg=>by rw[List.mem_singleton.1 hg];first|exact .inl (.inl rfl)|exact .inl (.inr rfl)|exact .inr a2);replace a1:=hq;refine zn8 ?_;refine xX (.inl rfl) rfl (zw U43 rfl rfl a1.range0 zj) ?_;rw[bv,hR];exact⟨rfl,hC,a3.u,_,a4.u,b9⟩
   have a5:(tw rs xs.length (t.kids[j]'b2) (d+1) (chN rs t ch) nj lj).2.2.1=0:=ak.1 a5;rw[if_pos a5,<- b9 a5]at hR;obtain⟨_,c7,bu⟩:=tw_z bt a5;rw[<- b9 a5]at bu;refine zn7 ?_;refine xY (t.kids.length-(j+1)) oG agA ?_;exact⟨j+1,_,_,by omega,rfl,rfl,c7,bu,hR,hB.u,a3.u,a7.u,a4.u,a6.u,ab.u,a1.u,hC⟩
  have c8:j=t.kids.length:=by omega
  rw[c8,List.drop_length,tws]at hR;refine zn7 ?_;refine uW (cs:=#[.int .i64 0,.int .i64 0]) ?_;refine zJ a1 (fun w23 hq s20=>?_);replace hC:=hC.st s20 (fun g hg=>by rw[List.mem_singleton.1 hg];first|exact .inl (.inl rfl)|exact .inl (.inr rfl)|exact .inr a2);replace a1:=hq;refine zn3 ?_;refine xX (.inl rfl) rfl (zw U43 rfl rfl a1.range0 zj) ?_;rw[bv,hR];exact⟨rfl,hC,a3.u,_,a4.u,fun _=>rfl⟩
 have hcn:chN rs t ch=ch+1:=by unfold chN;rw[if_pos (Classical.not_not.1 cb)]
 refine zn4 ?_;refine zZ 2 (.int .i64 ((chN rs t ch:Nat):Int)) (by rw[hcn];rfl) nu (zn5 ?_);refine zK rfl (fun ca=>?_) (fun ca=>?_)
 ·have b8:3<chN rs t ch:=by omega
  refine zn3 ?_;refine zX kR (gj _ _ _) rfl (fun e' w24 hr=>?_);obtain⟨rfl,bn⟩:=hr;replace bn:=sB bn;replace hC:=hC.st bn (by simp);refine⟨_,rfl,?_⟩;refine zJ a1.u (fun w25 hq c0=>?_);replace hC:=hC.st c0 (fun g hg=>by rw[List.mem_singleton.1 hg];first|exact .inl (.inl rfl)|exact .inl (.inr rfl)|exact .inr a2);replace a1:=hq;refine zn4 ?_;refine xX (.inl rfl) rfl (zw U43 rfl rfl a1.range0 zj) ?_;rw[OQ b3 bk b8];replace a3:=(a3.tr0 bn).tr1 c0 oG;replace a4:=(a4.tr0 bn).tr1 c0 oG;exact⟨rfl,hC,a3,_,a4,fun h=>absurd (show (14:Int)=0 from h) dE⟩
 have b8:¬3<chN rs t ch:=by omega
 have bv:=tw_go (l:=lf) b3 bk b8;refine jJ ?_;refine qk (rgq [14,15] 102 15) (fun m g w'=>∃ j nj lj:Nat,j<=t.kids.length/\m=t.kids.length-j/\g 102= .int .i64 j/\nj<=200/\lj<=nj/\tws rs xs.length t.kids (d+1) (chN rs t ch) (n+1) (lfN t lf)=tws rs xs.length (t.kids.drop j) (d+1) (chN rs t ch) nj lj/\Bel w0 w'/\Blk w' bN 3 #[.int .i64 ((nj:Nat):Int)]/\Blk w' bG 32 #[.slice AT l.length ct,.slice AF fs.length cf,.slice AR rs.length cr,.slice AX xs.length cx,.slice AS st.length cst]/\Blk w' bL 3 #[.int .i64 ((lj:Nat):Int)]/\Blk w' bV 147 #[.func (.func 77) #[] (cD bN bG bL bV)]/\Blk w' b7 35 #[.int .i64 t.rule,.int .i64 t.lex,.slice A t.kids.length c]/\Blk w' bf 43 #[.int .i64 0,.int .i64 0]/\ChG (fun g=>g=bN\/g=bL) w w') (t.kids.length) ?_ (fun m g21 w26 hI=>?_)
 ·exact⟨0,n+1,lfN t lf,ad _,rfl,rfl,by omega,by unfold lfN;split<;>omega,rfl,hB,a3,a7,a4,a6,ab,a1,hC⟩
 obtain⟨j,nj,lj,hj,hmj,bd,c6,bt,hR,hB,a3,a7,a4,a6,ab,a1,hC⟩:=hI;refine zZ 102 _ bd nu (zn6 ?_);refine zK rfl (fun be=>?_) (fun be=>?_)
 ·have b2:j<t.kids.length:=by omega
  obtain⟨sb,so,A',c',rfl,hsb,hsr,c5⟩:=hT.at_ b2;have c9:t.kids.drop j=t.kids[j]::t.kids.drop (j+1):=List.drop_eq_getElem_cons b2;rw[c9,tws]at hR;refine zn8 ?_;refine qw (cs:=#[.int .i64 0,.int .i64 0,.slice none 0 0]) ze35 rfl (fun bx w27 an bh hr=>?_);have:=a3.ob hr;have:=a7.ob hr;have:=a4.ob hr;have:=a6.ob hr;have a9:=(nLT hC.size hr)
  have:=ab.ob hr;have:=a1.ob hr;have b5:=hB.ob hr;replace hC:=hC.st bh (by simp);refine zJ an (fun w28 hq bg=>?_);replace hC:=hC.st bg (fun g hg=>by rw[List.mem_singleton.1 hg];first|exact .inl (.inl rfl)|exact .inl (.inr rfl)|exact .inr a9);replace an:=hq;refine zn7 ?_;refine wl (X0 (c:=((d+1:Nat):Int)) rfl rfl rfl oG) (wmI rfl ?_);refine xw rfl kR (IH _ (ap b2) A' c' (d+1) (chN rs t ch) nj lj _ c5 c6 oG oG bt hB.u a3.u a7.u a4.u a6.u) rfl rfl (fun e' w29 hr=>?_);obtain⟨rfl,ao,bb,l',bc,b9⟩:=hr;replace hB:=(hB.tr0 bh).tr1 bg b5;replace hB:=hB.chG ao (fun g hg=>by rcases(show g=bN\/g=bL from hg)with e|e<;>rw[e]<;>assumption);replace a7:=(a7.tr0 bh).tr1 bg oG;replace a7:=a7.chG ao (fun hx=>by have hx:bG=bN\/bG=bL:=hx;omega);replace a6:=(a6.tr0 bh).tr1 bg oG;replace a6:=a6.chG ao (fun hx=>by have hx:bV=bN\/bV=bL:=hx;omega);replace ab:=(ab.tr0 bh).tr1 bg oG;replace ab:=ab.chG ao (fun hx=>by have hx:b7=bN\/b7=bL:=hx;omega);replace a1:=(a1.tr0 bh).tr1 bg oG;replace a1:=a1.chG ao (fun hx=>by have hx:bf=bN\/bf=bL:=hx;omega);replace hC:=hC.trans ao (fun g hg=> .inl hg);replace a3:=bb;replace a4:=bc;replace an:=an.chG ao (fun hx=>by have hx:bx=bN\/bx=bL:=hx;omega);refine⟨_,rfl,?_⟩;refine qw (cs:=#[.int .i64 0,.int .i64 0]) qQ rfl (fun b15 w30 b1 s25 hr=>?_);have:=a3.ob hr;have:=a7.ob hr;have:=a4.ob hr;have:=a6.ob hr;have a8:=(nLT hC.size hr)
  have:=ab.ob hr;have:=a1.ob hr;have c4:=hB.ob hr;replace hC:=hC.st s25 (by simp);refine zJ b1 (fun w31 hq s26=>?_);replace hC:=hC.st s26 (fun g hg=>by rw[List.mem_singleton.1 hg];first|exact .inl (.inl rfl)|exact .inl (.inr rfl)|exact .inr a8);replace b1:=hq;refine zn9 ?_;refine zK rfl (fun a5=>?_) (fun a5=>?_)
  ·rw[if_neg a5]at hR;refine zn3 ?_;refine zJ a1.u (fun w32 hq s27=>?_);replace hC:=hC.st s27 (fun g hg=>by rw[List.mem_singleton.1 hg];first|exact .inl (.inl rfl)|exact .inl (.inr rfl)|exact .inr a2);replace a1:=hq;refine zn8 ?_;refine xX (.inl rfl) rfl (zw U43 rfl rfl a1.range0 zj) ?_;rw[bv,hR];exact⟨rfl,hC,a3.u,_,a4.u,b9⟩
  have a5:(tw rs xs.length (t.kids[j]'b2) (d+1) (chN rs t ch) nj lj).2.2.1=0:=ak.1 a5;rw[if_pos a5,<- b9 a5]at hR;obtain⟨_,c7,bu⟩:=tw_z bt a5;rw[<- b9 a5]at bu;refine zn7 ?_;refine xY (t.kids.length-(j+1)) oG agA ?_;exact⟨j+1,_,_,by omega,rfl,rfl,c7,bu,hR,hB.u,a3.u,a7.u,a4.u,a6.u,ab.u,a1.u,hC⟩
 have c8:j=t.kids.length:=by omega
 rw[c8,List.drop_length,tws]at hR;refine zn7 ?_;refine uW (cs:=#[.int .i64 0,.int .i64 0]) ?_;refine zJ a1 (fun w33 hq s28=>?_);replace hC:=hC.st s28 (fun g hg=>by rw[List.mem_singleton.1 hg];first|exact .inl (.inl rfl)|exact .inl (.inr rfl)|exact .inr a2);replace a1:=hq;refine zn3 ?_;refine xX (.inl rfl) rfl (zw U43 rfl rfl a1.range0 zj) ?_;rw[bv,hR];exact⟨rfl,hC,a3.u,_,a4.u,fun _=>rfl⟩
theorem tw_anyK(hRu:RulesIn w0 AR rs)(l0N:w0.heap.size<=bN)(a2:w0.heap.size<=bG)(l0L:w0.heap.size<=bL)(a1:w0.heap.size<=bV)(hne:bN≠bL/\bN≠bG/\bN≠bV/\bL≠bG/\bL≠bV):∀(k:Nat) (t:Dt),SizeOf.sizeOf t<k->∀(A:Option Addr) (c d ch n lf:Nat) (w:World),TresIn w0 A t.kids->n<=200->d<=49->ch<=3->lf<=n->Bel w0 w->Blk w bN 3 #[.int .i64 ((n:Nat):Int)]->Blk w bG 32 #[.slice AT l.length ct,.slice AF fs.length cf,.slice AR rs.length cr,.slice AX xs.length cx,.slice AS st.length cst]->Blk w bL 3 #[.int .i64 ((lf:Nat):Int)]->Blk w bV 147 #[.func (.func 77) #[] (cD bN bG bL bV)]->Calls Tryd.prog 77 #[.agg #[.int .i64 (t).rule,.int .i64 (t).lex,.slice A (t).kids.length c],.int .i64 ((d:Nat):Int),.int .i64 ((ch:Nat):Int),.pointer (some ⟨bN,0,none⟩),.pointer (some ⟨bG,0,none⟩),.pointer (some ⟨bL,0,none⟩),.pointer (some ⟨bV,0,none⟩)] w fun e w'=>e= .returned (flV (tw rs xs.length t d ch n lf).2.2)/\ChG (fun g=>g=bN\/g=bL) w w'/\Blk w' bN 3 #[.int .i64 (((tw rs xs.length t d ch n lf).1:Nat):Int)]/\∃ l':Nat,Blk w' bL 3 #[.int .i64 ((l':Nat):Int)]/\((tw rs xs.length t d ch n lf).2.2.1=0->l'=(tw rs xs.length t d ch n lf).2.1):=by
 intro k
 induction k with
 | zero=>intro t h;omega
 | succ k ih=>
  intro t h A c d ch n lf w hT hn hd hc hlf hB hbN hbG hbL hbV;refine tw_step hRu l0N a2 l0L a1 hne hT (fun x hx A2 c2 d2 ch2 n2 l2 w2 h1 h2 h3 h4 h5 h6 h7 h8 h9 h10=>ih x ?_ A2 c2 d2 ch2 n2 l2 w2 h1 h2 h3 h4 h5 h6 h7 h8 h9 h10) hn hd hc hlf hB hbN hbG hbL hbV;have:=aN hx;cases t with
  | mk r x ks=>simp only[Dt.mk.sizeOf_spec,Dt.kids]at h this;omega
theorem tw_any(hRu:RulesIn w0 AR rs)(l0N:w0.heap.size<=bN)(a2:w0.heap.size<=bG)(l0L:w0.heap.size<=bL)(a1:w0.heap.size<=bV)(hne:bN≠bL/\bN≠bG/\bN≠bV/\bL≠bG/\bL≠bV)(t:Dt)(A:Option Addr)(c d ch n lf:Nat)(w:World):TresIn w0 A t.kids->n<=200->d<=49->ch<=3->lf<=n->Bel w0 w->Blk w bN 3 #[.int .i64 ((n:Nat):Int)]->Blk w bG 32 #[.slice AT l.length ct,.slice AF fs.length cf,.slice AR rs.length cr,.slice AX xs.length cx,.slice AS st.length cst]->Blk w bL 3 #[.int .i64 ((lf:Nat):Int)]->Blk w bV 147 #[.func (.func 77) #[] (cD bN bG bL bV)]->Calls Tryd.prog 77 #[.agg #[.int .i64 (t).rule,.int .i64 (t).lex,.slice A (t).kids.length c],.int .i64 ((d:Nat):Int),.int .i64 ((ch:Nat):Int),.pointer (some ⟨bN,0,none⟩),.pointer (some ⟨bG,0,none⟩),.pointer (some ⟨bL,0,none⟩),.pointer (some ⟨bV,0,none⟩)] w fun e w'=>e= .returned (flV (tw rs xs.length t d ch n lf).2.2)/\ChG (fun g=>g=bN\/g=bL) w w'/\Blk w' bN 3 #[.int .i64 (((tw rs xs.length t d ch n lf).1:Nat):Int)]/\∃ l':Nat,Blk w' bL 3 #[.int .i64 ((l':Nat):Int)]/\((tw rs xs.length t d ch n lf).2.2.1=0->l'=(tw rs xs.length t d ch n lf).2.1):=tw_anyK hRu l0N a2 l0L a1 hne (SizeOf.sizeOf t+1) t (ax _) A c d ch n lf w
theorem sz147:(Tryd.prog.info? 147).map (·.size)=some 1:=by kernel_rfl
theorem ze147:(Tryd.prog.info? 147).map (·.zero)=some (some (.nilFunc)):=by kernel_rfl
theorem fits_any(AT AF AR AX AS:Option Addr)(ct cf cr cx cst:Nat)(l:List Ty)(fs:List Ft)(rs:List Rl)(xs:List Lx)(st:List Nd)(t:Dt)(A:Option Addr)(c:Nat)(w:World)(hRu:RulesIn w AR rs)(hT:TresIn w A t.kids):Calls Tryd.prog 54 #[.agg #[.slice AT l.length ct,.slice AF fs.length cf,.slice AR rs.length cr,.slice AX xs.length cx,.slice AS st.length cst],.agg #[.int .i64 (t).rule,.int .i64 (t).lex,.slice A (t).kids.length c]] w fun e w'=>e= .returned (flV (jw rs xs.length t))/\Bel w w':=by
 refine enT Tryd.func54 Tryd.ntmps54 rfl rfl fun hB=>?_;refine zn2 ?_;refine qZ (cs:=#[_,_,_,_,_]) rfl (fun b2 w1 a2 s1 hr=>?_);have lo2:=hB.ob hr;refine qZ (cs:=#[_,_,_]) rfl (fun b3 w2 a4 s2 hr=>?_);have:=a2.ob hr;refine qw (cs:=#[.int .i64 0,.int .i64 0]) qQ rfl (fun b4 w3 a1 s3 hr=>?_);have:=a2.u.ob hr;have:=a4.ob hr;have lo4:=hB.u.ob hr;refine zn4 ?_;refine qw (cs:=#[.int .i64 0]) gJ rfl (fun b5 w4 a3 s4 hr=>?_);have:=a2.u.ob hr;have:=a4.u.ob hr;have:=a1.ob hr;have lo5:=hB.u.ob hr;refine qw (cs:=#[.int .i64 0]) gJ rfl (fun b6 w5 a5 s5 hr=>?_);have:=a2.u.ob hr;have:=a4.u.ob hr;have:=a1.u.ob hr;have:=a3.ob hr;have lo6:=hB.u.ob hr;replace a3:=a3.tr0 s5;refine xj (v:= .int _ _) a3 rfl rfl x8 (by first|decide|simp) rfl rfl (fun w6 hq s6=>?_);replace a3:=hq;replace a5:=a5.tr1 s6 oG;refine xj (v:= .int _ _) a5 rfl rfl x8 (by first|decide|simp) rfl rfl (fun w7 hq s7=>?_);replace a5:=hq;refine zn4 ?_;refine qw (cs:=#[.nilFunc]) ze147 rfl (fun b7 w8 a7 s8 hr=>?_);have:=a2.u.ob hr;have:=a4.u.ob hr;have:=a1.u.ob hr;have:=a3.u.ob hr;have:=a5.ob hr;have lo7:=hB.u.ob hr;refine zn4 ?_;refine wl (LY rfl) ?_;refine xj (v:= .func _ _ _) a7 rfl rfl sz147 (by first|decide|simp) rfl rfl (fun w9 hq s9=>?_);replace a7:=hq;refine zn7 ?_;refine xw rfl kR (tw_any (l:=l) (fs:=fs) (st:=st) (AT:=AT) (AF:=AF) (AX:=AX) (AS:=AS) (ct:=ct) (cf:=cf) (cr:=cr) (cx:=cx) (cst:=cst) (w0:=w) (bN:=b5) (bG:=b2) (bL:=b6) (bV:=b7) hRu lo5 lo2 lo6 lo7 oG t A c 1 0 0 0 _ hT oG oG oG (ae _) hB.u a3.u a2.u a5.u a7) rfl rfl (fun e' w10 hr=>?_);obtain⟨rfl,a8,ab,l',a9,hl2⟩:=hr;replace hB:=((((hB.tr0 (s1.t (s2.t (s3.t (s4.t s5))))).tr1 s6 lo5).tr1 s7 lo6).tr0 s8).tr1 s9 lo7;replace hB:=hB.chG a8 (fun g hg=>by rcases(show g=b5\/g=b6 from hg)with e|e<;>rw[e]<;>assumption);replace a2:=((((a2.tr0 (s2.t (s3.t (s4.t s5)))).tr1 s6 oG).tr1 s7 oG).tr0 s8).tr1 s9 oG;replace a2:=a2.chG a8 (fun hx=>by have hx:b2=b5\/b2=b6:=hx;omega);replace a4:=((((a4.tr0 (s3.t (s4.t s5))).tr1 s6 oG).tr1 s7 oG).tr0 s8).tr1 s9 oG;replace a4:=a4.chG a8 (fun hx=>by have hx:b3=b5\/b3=b6:=hx;omega);replace a1:=((((a1.tr0 (s4.t s5)).tr1 s6 oG).tr1 s7 oG).tr0 s8).tr1 s9 oG;replace a1:=a1.chG a8 (fun hx=>by have hx:b4=b5\/b4=b6:=hx;omega);replace a7:=a7.chG a8 (fun hx=>by have hx:b7=b5\/b7=b6:=hx;omega)
 replace a3:=ab;replace a5:=a9;refine⟨_,rfl,?_⟩;refine yx (cs:=#[.int .i64 0,.int .i64 0]) qQ rfl (fun _=>rfl) (fun _=>rfl) zj rfl y5 (fun b8 w12 hb8 s10 hr=>?_);refine zn9 ?_;refine zK rfl (fun a6=>?_) (fun a6=>?_)
 ·refine zn3 ?_;refine zJ a1.u (fun w13 hq s11=>?_);replace a1:=hq;refine zn4 ?_;refine xX (.inl rfl) rfl (zw U43 rfl rfl a1.range0 zj) ?_;exact⟨y8 (L7 a6),hB.u⟩
 refine zn9 ?_;refine zK rfl (fun c18=>?_) (fun c18=>?_)
 ·have an:12<(tw rs xs.length t 1 0 0 0).2.1:=by rw[<- hl2 (Classical.not_not.1 a6)];omega
  refine zn2 ?_;refine aZ kR (gj _ _ _) rfl (fun w14 s12=>?_);refine zJ a1.u (fun w15 hq s13=>?_);replace a1:=hq;refine zn4 ?_;refine xX (.inl rfl) rfl (zw U43 rfl rfl a1.range0 zj) ?_;exact⟨y8 (Sy (ak.1 a6) an),hB.u⟩
 have an:¬12<(tw rs xs.length t 1 0 0 0).2.1:=by rw[<- hl2 (Classical.not_not.1 a6)];omega
 refine zn4 ?_;refine uW (cs:=#[.int .i64 0,.int .i64 0]) ?_;refine zJ a1.u (fun w16 hq s14=>?_);replace a1:=hq;refine zn3 ?_;refine xX (.inl rfl) rfl (zw U43 rfl rfl a1.range0 zj) ?_;exact⟨y8 (tf_ok (ak.1 a6) an),hB.u⟩
theorem DJ(AT AF AR AX AS:Option Addr)(ct cf cr cx cst:Nat)(l:List Ty)(fs:List Ft)(rs:List Rl)(xs:List Lx)(st:List Nd)(t:Dt)(A:Option Addr)(c:Nat)(w:World)(a2:TabIn w)(hU:U8In w)(hTy:TypesIn w AT l)(hF:FeatsIn w AF fs)(hRu:RulesIn w AR rs)(hLx:LexesIn w AX xs)(hG:NodesIn w AS st)(hT:TresIn w A t.kids):Calls Tryd.prog 33 #[.agg #[.slice AT l.length ct,.slice AF fs.length cf,.slice AR rs.length cr,.slice AX xs.length cx,.slice AS st.length cst],.agg #[.int .i64 (t).rule,.int .i64 (t).lex,.slice A (t).kids.length c]] w fun e w'=>e= .returned (flV (if (x5 l fs rs xs st).1=0 then jw rs xs.length t else x5 l fs rs xs st))/\Bel w w':=by
 refine enT Tryd.func33 Tryd.ntmps33 rfl rfl fun hB=>?_;refine zn2 ?_;refine qZ (cs:=#[_,_,_,_,_]) rfl (fun b2 w1 hb2 s1 hr=>?_);refine qZ (cs:=#[_,_,_]) rfl (fun b3 w2 hb3 s2 hr=>?_);refine qw (cs:=#[.int .i64 0,.int .i64 0]) qQ rfl (fun b4 w3 a1 s3 hr=>?_);have lo4:=hB.u.ob hr;refine zn6 ?_;refine aZ kR (O6 AT AF AR AX AS ct cf cr cx cst l fs rs xs st _ (a2.mono hB.u) (hU.mono hB.u) (hTy.mono hB.u) (hF.mono hB.u) (hRu.mono hB.u) (hLx.mono hB.u) (hG.mono hB.u)) rfl (fun w4 s4=>?_);refine yx (cs:=#[.int .i64 0,.int .i64 0]) qQ rfl (fun _=>rfl) (fun _=>rfl) zj rfl y5 (fun b5 w6 hb5 s5 hr=>?_);refine zn9 ?_;refine zK rfl (fun a3=>?_) (fun a3=>?_)
 ·refine zn3 ?_;refine zJ a1.u (fun w7 hq s6=>?_);replace a1:=hq;refine zn4 ?_;refine xX (.inl rfl) rfl (zw U43 rfl rfl a1.range0 zj) ?_;exact⟨y8 ((if_neg a3).trans rfl),hB.u⟩
 refine zn6 ?_;refine aZ kR (fits_any AT AF AR AX AS ct cf cr cx cst l fs rs xs st t A c _ (hRu.mono hB.u) (hT.mono hB.u)) rfl (fun w8 s7=>?_);refine zJ a1.u (fun w9 hq s8=>?_);replace a1:=hq;refine zn3 ?_;refine xX (.inl rfl) rfl (zw U43 rfl rfl a1.range0 zj) ?_;exact⟨y8 ((if_pos (ak.1 a3)).trans rfl),hB.u⟩
theorem TJ{g t:Fl}(h:(if g.1=0 then t else g).1=0):g.1=0/\t.1=0:=by
 by_cases h1:g.1=0
 ·rw[if_pos h1]at h;exact⟨h1,h⟩
 ·rw[if_neg h1]at h;exact absurd h h1
theorem tf_zero{nx:Nat}(h:(jw rs nx t).1=0):jw rs nx t=(0,0):=by
 by_cases a:(tw rs nx t 1 0 0 0).2.2.1=0
 ·by_cases b:12<(tw rs nx t 1 0 0 0).2.1
  ·rw[Sy a b]at h;cases h
  ·exact tf_ok a b
 ·rw[L7 a]at h;exact absurd h a
theorem DX(h:(if (x5 l fs rs xs st).1=0 then jw rs xs.length t else x5 l fs rs xs st).1=0):(if (x5 l fs rs xs st).1=0 then jw rs xs.length t else x5 l fs rs xs st)=(0,0):=by
 obtain⟨h1,h2⟩:=TJ h;rw[if_pos h1];exact tf_zero h2
theorem N3(h:(x5 l fs rs xs st).1=0):Y3 l fs rs xs:=
 ⟨gr_h0 h,fun i hi=>⟨(gr_jok h hi).2,by have:=(gr_one h hi).1;omega,(gr_one h hi).2⟩,fun i hi=>(Ew (gr_h0 h) (gr_lexv h hi)).1⟩
theorem tg_pick(H:Y3 l fs rs xs)(hok:OkT rs xs.length t):∃ ok X,∀ a1 X',TgR l rs xs t a1 X'->a1=ok/\X'=X/\TgR l rs xs t ok X:=by
 by_cases h:∃ ok X,TgR l rs xs t ok X
 ·obtain⟨ok,X,hX⟩:=h
  exact⟨ok,X,fun a1 X' h'=>by obtain⟨a,b⟩:=tg_det H hok h' hX;exact⟨a,b,hX⟩⟩
 ·exact⟨false,[],fun a1 X' h'=>absurd ⟨_,_,h'⟩ h⟩
set_option maxRecDepth 100000 in
set_option maxHeartbeats 4000000 in
theorem graph_d(AT AF AR AX AS:Option Addr)(ct cf cr cx cst:Nat)(l:List Ty)(fs:List Ft)(rs:List Rl)(xs:List Lx)(st:List Nd)(t:Dt)(A:Option Addr)(c:Nat)(w:World)(bj:TabIn w)(hU:U8In w)(hTy:TypesIn w AT l)(hF:FeatsIn w AF fs)(hRu:RulesIn w AR rs)(hLx:LexesIn w AX xs)(hG:NodesIn w AS st)(hT:TresIn w A t.kids):Calls Tryd.prog 8 #[.agg #[.slice AT l.length ct,.slice AF fs.length cf,.slice AR rs.length cr,.slice AX xs.length cx,.slice AS st.length cst],.agg #[.int .i64 (t).rule,.int .i64 (t).lex,.slice A (t).kids.length c]] w fun e w'=>(∃ A X ok c,e= .returned (.tuple #[.agg #[.slice A (List.length X) c],.bool ok,flV (if (x5 l fs rs xs st).1=0 then jw rs xs.length t else x5 l fs rs xs st)])/\(∀ w2,FrSame w.heap.size w' w2->NodesIn w2 A X)/\((¬(if (x5 l fs rs xs st).1=0 then jw rs xs.length t else x5 l fs rs xs st).1=0/\ok=false/\X= [])\/((if (x5 l fs rs xs st).1=0 then jw rs xs.length t else x5 l fs rs xs st)=(0,0)/\TgR l rs xs t ok X)))/\Bel w w':=by
 refine enT Tryd.func8 Tryd.ntmps8 rfl rfl fun hB=>?_;refine zn2 ?_;refine qZ (cs:=#[_,_,_,_,_]) rfl (fun b2 w1 ba s1 hr=>?_);have lo2:=hB.ob hr;refine qZ (cs:=#[_,_,_]) rfl (fun b3 w2 bf s2 hr=>?_);have:=ba.ob hr;have lo3:=hB.u.ob hr;refine qw (cs:=#[.slice none 0 0]) Iy rfl (fun b4 w3 a5 s3 hr=>?_);have:=ba.u.ob hr;have:=bf.ob hr;have lo4:=hB.u.ob hr;refine waB rfl ?_;refine qw (cs:=#[.int .i64 0,.int .i64 0]) qQ rfl (fun b6 w4 a6 s4 hr=>?_);have:=ba.u.ob hr;have:=bf.u.ob hr;have:=a5.ob hr;have lo6:=hB.u.ob hr;refine zn7 ?_;refine aZ kR (DJ AT AF AR AX AS ct cf cr cx cst l fs rs xs st t A c _ (bj.mono hB.u) (hU.mono hB.u) (hTy.mono hB.u) (hF.mono hB.u) (hRu.mono hB.u) (hLx.mono hB.u) (hG.mono hB.u) (hT.mono hB.u)) rfl (fun w5 s5=>?_);refine yx (cs:=#[.int .i64 0,.int .i64 0]) qQ rfl (fun _=>rfl) (fun _=>rfl) zj rfl y5 (fun b7 w7 bw s6 hr=>?_);have:=ba.u.ob hr;have:=bf.u.ob hr;have:=a5.u.ob hr;have:=a6.u.ob hr;have lo7:=hB.u.ob hr;refine zn9 ?_;refine zK rfl (fun c2=>?_) (fun c2=>?_)
 ·refine yz ?_;refine DK 5 [16,17,5] [b4,b6] (fun ix v wv=>match ix with|0=>v= .agg #[.slice none 0 0]|1=>v= .agg #[.int .i64 (if (x5 l fs rs xs st).1=0 then jw rs xs.length t else x5 l fs rs xs st).1,.int .i64 (if (x5 l fs rs xs st).1=0 then jw rs xs.length t else x5 l fs rs xs st).2]|2=>Blk wv b4 30 #[.slice none 0 0]|3=>v= .bool false|4=>Blk wv b6 43 #[.int .i64 (if (x5 l fs rs xs st).1=0 then jw rs xs.length t else x5 l fs rs xs st).1,.int .i64 (if (x5 l fs rs xs st).1=0 then jw rs xs.length t else x5 l fs rs xs st).2]|_=>True) (fun wq=>(∃ z,Blk wq b4 30 #[z])/\∃ z y,Blk wq b6 43 #[z,y]) kR kR ?_ ?_ ⟨⟨_,a5.u⟩,_,_,a6.u⟩ ?_ ?_
  ·intro ix v wv wv2 h s7
   match ix,h with
   | 0,h=>exact h
   | 1,h=>exact h
   | 2,h=>exact(show Blk wv b4 30 #[.slice none 0 0]from h).tr0 s7
   | 3,h=>exact h
   | 4,h=>exact(show Blk wv b6 43 #[.int .i64 (if (x5 l fs rs xs st).1=0 then jw rs xs.length t else x5 l fs rs xs st).1,.int .i64 (if (x5 l fs rs xs st).1=0 then jw rs xs.length t else x5 l fs rs xs st).2]from h).tr0 s7
   | _+5,h=>exact trivial
  ·intro wv wv2 h s8;obtain⟨⟨z1,a5⟩,z2,z3,a6⟩:=h;exact⟨⟨_,a5.u⟩,_,_,a6.u⟩
  ·intro ix o hix a1 gg wx s9 hJ hd
   match ix,hix,a1 with
   | 0,_,a1=>
    cases sI a1;show OS _ _ _ _ _ _;exact oVq (T7 (vs:=#[]) (cs:=#[.slice none 0 0]) (by simp) kR) rfl
   | 1,_,a1=>
    cases sI a1;replace bw:=bw.tr s9 (fun hx=>by simp only[List.mem_cons,List.not_mem_nil,or_false]at hx;omega);show OS _ _ _ _ _ _;exact oVq (qK U43 rfl rfl bw.range0 zj) rfl
   | 2,_,a1=>
    cases sI a1;have d0:gg 16= .agg #[.slice none 0 0]:=hd 0 _ (zq kR) rfl;have e16:=d0;show OS _ _ _ _ _ _;refine zz 16 _ e16 nu ?_;obtain⟨⟨z1,a5⟩,z2,z3,a6⟩:=hJ;refine JW (fun ops Q K=>?_);refine zJ a5 (fun w2 hq bc=>?_);have K2:=K w2;refine K2 ⟨bc.weak (by simp),?_,hq,fun kx v be h=>?_⟩
    ·replace a6:=a6.tr bc (by simp;omega);replace a5:=hq;exact⟨⟨_,a5⟩,_,_,a6⟩
    match kx,be,h with
    | 0,_,h=>exact h
    | 1,_,h=>exact h
    | 2,be,_=>exact absurd rfl be
    | 3,_,h=>exact h
    | 4,_,h=>exact(show Blk wx b6 43 #[.int .i64 (if (x5 l fs rs xs st).1=0 then jw rs xs.length t else x5 l fs rs xs st).1,.int .i64 (if (x5 l fs rs xs st).1=0 then jw rs xs.length t else x5 l fs rs xs st).2]from h).tr bc (by simp;omega)
    | _+5,_,_=>exact trivial
   | 3,_,a1=>
    cases sI a1;show OS _ _ _ _ _ _;exact oVq (uJ (v:= .bool _) rfl) rfl
   | 4,_,a1=>
    cases sI a1;have d1:gg 17= .agg #[.int .i64 (if (x5 l fs rs xs st).1=0 then jw rs xs.length t else x5 l fs rs xs st).1,.int .i64 (if (x5 l fs rs xs st).1=0 then jw rs xs.length t else x5 l fs rs xs st).2]:=hd 1 _ (zq kR) rfl;have e17:=d1;show OS _ _ _ _ _ _;refine zz 17 _ e17 nu ?_;obtain⟨⟨z1,a5⟩,z2,z3,a6⟩:=hJ;refine JW (fun ops Q K=>?_);refine zJ a6 (fun w2 hq bc=>?_);have K2:=K w2;refine K2 ⟨bc.weak (by simp),?_,hq,fun kx v be h=>?_⟩
    ·replace a5:=a5.tr bc (by simp;omega);replace a6:=hq;exact⟨⟨_,a5⟩,_,_,a6⟩
    match kx,be,h with
    | 0,_,h=>exact h
    | 1,_,h=>exact h
    | 2,_,h=>exact(show Blk wx b4 30 #[.slice none 0 0]from h).tr bc (by simp;omega)
    | 3,_,h=>exact h
    | 4,be,_=>exact absurd rfl be
    | _+5,_,_=>exact trivial
   | _+5,hix,_=>exact absurd hix oG
  intro gg w8 s10 hJ hR;replace hB:=hB.tr0 (s1.t (s2.t (s3.t (s4.t (s5.t s6)))));replace hB:=hB.tr s10 (fun q hx=>by simp only[List.mem_cons,List.not_mem_nil,or_false]at hx;omega);have hq2:Blk w8 b4 30 #[.slice none 0 0]:=hR 2 _ rfl;have hq4:Blk w8 b6 43 #[.int .i64 (if (x5 l fs rs xs st).1=0 then jw rs xs.length t else x5 l fs rs xs st).1,.int .i64 (if (x5 l fs rs xs st).1=0 then jw rs xs.length t else x5 l fs rs xs st).2]:=hR 4 _ rfl;replace a5:=hq2;replace a6:=hq4;have d3:gg 5= .bool false:=hR 3 _ rfl;have e5:=d3;refine xz 5 _ e5 nu (zn4 ?_);refine fin3 (.inl rfl) rfl (zw U30 rfl rfl a5.range0 gY) rfl (zw U43 rfl rfl a6.range0 zj) ?_;exact⟨⟨none,[],false,0,rfl,fun w2 _=>KJ w2 none,.inl ⟨c2,rfl,rfl⟩⟩,hB⟩
 have hd0:=ak.1 c2;obtain⟨hg0,ht0⟩:=TJ hd0;have H:=N3 hg0;obtain⟨hok,hnd,_⟩:=Pj ht0;have hS:=J5 H.h0;have hdz:=DX hd0;obtain⟨a2,XG,hGd⟩:=tg_pick H hok;refine zn3 ?_;replace hB:=hB.tr0 (s1.t (s2.t (s3.t (s4.t (s5.t s6)))));have hsz:=Bel.size hB;replace ba:=ba.tr0 (s2.t (s3.t (s4.t (s5.t s6))));have z2:=ba.lt;replace bf:=bf.tr0 (s3.t (s4.t (s5.t s6)));have z3:=bf.lt;replace a5:=a5.tr0 (s4.t (s5.t s6));have z4:=a5.lt;replace a6:=a6.tr0 (s5.t s6);have z6:=a6.lt;refine yX (rgq [8,9] 18 10) (fun g w'=>∃(b8:Nat) (AZ:Option Addr) (cZ lz hz:Nat),g 8= .pointer (some ⟨b8,0,none⟩)/\g 9= .bool a2/\Bel w w'/\Blk w' b8 30 #[.slice AZ (List.length XG) cZ]/\Blk w' b4 30 #[.slice none 0 0]/\Blk w' b6 43 #[.int .i64 0,.int .i64 0]/\Kept lz hz w' (fun wq=>NodesIn wq AZ XG)/\w.heap.size<=lz/\b4<lz/\b6<lz/\b4<b8/\b6<b8/\TgR l rs xs t a2 XG) ?_ (fun g4 w9 hI=>?_)
 ·refine H8 11 [19,20,21,22,23,24,25,18,26,27,8] [9] (fun ix=>bif Nat.beq ix 7 then 6 else bif Nat.beq ix 8 then 6 else ix) (fun ix v la ha wv=>match ix with|0=>v= .agg #[.slice AT l.length ct,.slice AF fs.length cf,.slice AR rs.length cr,.slice AX xs.length cx,.slice AS st.length cst]|1=>v= .pointer (some ⟨b2,0,none⟩)|2=>v= .pointer (some ⟨b2,0,none⟩)|3=>v= .slice AT l.length ct|4=>∃ bu bd,v=C6 l.length bu bd/\TableIn wv l bu bd|5=>v= .agg #[.int .i64 (t).rule,.int .i64 (t).lex,.slice A (t).kids.length c]|6=>∃ AZ cZ,v= .tuple #[.agg #[.slice AZ (List.length XG) cZ],.bool a2]/\Kept la ha wv (fun wq=>NodesIn wq AZ XG)/\w7.heap.size<=la/\TgR l rs xs t a2 XG|7=>∃ AZ cZ,v= .tuple #[.agg #[.slice AZ (List.length XG) cZ],.bool a2]/\Kept la ha wv (fun wq=>NodesIn wq AZ XG)/\w7.heap.size<=la/\TgR l rs xs t a2 XG|8=>∃ AZ cZ,v= .agg #[.slice AZ (List.length XG) cZ]/\Kept la ha wv (fun wq=>NodesIn wq AZ XG)/\w7.heap.size<=la/\TgR l rs xs t a2 XG|9=>v= .bool a2|10=>∃ b,v= .pointer (some ⟨b,0,none⟩)/\w7.heap.size<=b/\Blk wv b 30 #[.slice none 0 0]/\la<=b/\b<ha|_=>True) kR kR kR kR ?_ ?_ ?_
  ·intro ix v la ha wv wv2 h hle s11
   match ix,h with
   | 0,h=>exact h
   | 1,h=>exact h
   | 2,h=>exact h
   | 3,h=>exact h
   | 4,h=>
    obtain⟨bu,bd,c0,bk⟩:=(show ∃ bu bd,v=C6 l.length bu bd/\TableIn wv l bu bd from h)
    exact⟨bu,bd,c0,bk.mono s11.bel⟩
   | 5,h=>exact h
   | 6,h=>
    obtain⟨AZ,cZ,bz,a7,ab,b1⟩:=(show ∃ AZ cZ,v= .tuple #[.agg #[.slice AZ (List.length XG) cZ],.bool a2]/\Kept la ha wv (fun wq=>NodesIn wq AZ XG)/\w7.heap.size<=la/\TgR l rs xs t a2 XG from h)
    exact⟨AZ,cZ,bz,a7.tr0 s11,ab,b1⟩
   | 7,h=>
    obtain⟨bh,bg,bb,bi,a9,ao⟩:=(show ∃ AZ cZ,v= .tuple #[.agg #[.slice AZ (List.length XG) cZ],.bool a2]/\Kept la ha wv (fun wq=>NodesIn wq AZ XG)/\w7.heap.size<=la/\TgR l rs xs t a2 XG from h)
    exact⟨bh,bg,bb,bi.tr0 s11,a9,ao⟩
   | 8,h=>
    obtain⟨AZ,cZ,bm,a7,ab,b1⟩:=(show ∃ AZ cZ,v= .agg #[.slice AZ (List.length XG) cZ]/\Kept la ha wv (fun wq=>NodesIn wq AZ XG)/\w7.heap.size<=la/\TgR l rs xs t a2 XG from h)
    exact⟨AZ,cZ,bm,a7.tr0 s11,ab,b1⟩
   | 9,h=>exact h
   | 10,h=>
    obtain⟨b8,e8,a8,an,bt,bx⟩:=(show ∃ b,v= .pointer (some ⟨b,0,none⟩)/\w7.heap.size<=b/\Blk wv b 30 #[.slice none 0 0]/\la<=b/\b<ha from h)
    exact⟨b8,e8,a8,an.tr0 s11,bt,bx⟩
   | _+11,h=>exact trivial
  ·intro ix o hix a1 gg wx lo hi s12 hd b9
   match ix,hix,a1 with
   | 0,_,a1=>
    cases sI a1;refine gdA ?_;refine qV (qK U32 rfl rfl ba.u.range0 sz32) ⟨Same.refl _ _,?_⟩;exact rfl
   | 1,_,a1=>
    cases sI a1;refine gdA ?_;refine qV (Z5 U32 IJ dE rfl rfl rfl) ⟨Same.refl _ _,?_⟩;exact rfl
   | 2,_,a1=>
    cases sI a1;have d1:gg 20= .pointer (some ⟨b2,0,none⟩):=(hd 1 (zq kR)).1;have e20:=d1;refine gdA (zz 20 _ e20 nu ?_);refine qV (Z5 U25 EW dE rfl rfl rfl) ⟨Same.refl _ _,?_⟩;exact rfl
   | 3,_,a1=>
    cases sI a1;have d2:gg 21= .pointer (some ⟨b2,0,none⟩):=(hd 2 (zq kR)).1;have e21:=d2;refine gdA (zz 21 _ e21 nu ?_);refine qV (qW (v:= .slice _ _ _) U22 rfl rfl (ba.u.cell rfl)) ⟨Same.refl _ _,?_⟩;exact rfl
   | 4,_,a1=>
    cases sI a1;have d3:gg 22= .slice AT l.length ct:=(hd 3 (zq kR)).1;have e22:=d3;refine gdA (zz 22 _ e22 nu ?_);refine yK N4 (QW AT ct l wx (hTy.mono hB.u) hS.vt hS.le) rfl (fun e' w2 hr=>?_);obtain⟨bu,bd,rfl,bk,s13⟩:=hr;exact⟨_,rfl,sB s13,⟨_,_,rfl,bk⟩⟩
   | 5,_,a1=>
    cases sI a1;refine gdA ?_;refine qV (qK U35 rfl rfl bf.u.range0 C7) ⟨Same.refl _ _,?_⟩;exact rfl
   | 6,_,a1=>
    cases sI a1;have bv:=s12;have d0:gg 19= .agg #[.slice AT l.length ct,.slice AF fs.length cf,.slice AR rs.length cr,.slice AX xs.length cx,.slice AS st.length cst]:=(hd 0 (zq kR)).1;have e19:=d0;have d4:∃ bu bd,gg 23=C6 l.length bu bd/\TableIn wx l bu bd:=(hd 4 (zq kR)).1;obtain⟨bu,bd,c0,bk⟩:=d4;have d5:gg 24= .agg #[.int .i64 (t).rule,.int .i64 (t).lex,.slice A (t).kids.length c]:=(hd 5 (zq kR)).1;have e24:=d5;refine gdA (zz 19 _ e19 nu (zz 23 _ c0 (by simp[undef,C6]) (zz 24 _ e24 nu ?_)));refine yK kR (gof_any H t A c wx (bj.mono hB.u) bk (hRu.mono hB.u) (hLx.mono hB.u) (hT.mono hB.u) hok) rfl (fun e' w2 hr=>?_);obtain⟨⟨A9,X9,ok9,c9,rfl,hN9,hG9⟩,s14⟩:=hr;exact⟨_,rfl,sB s14,(by obtain⟨e1,e2,e3⟩:=hGd ok9 X9 hG9;subst e1 e2;exact⟨A9,c9,rfl,u7 hN9,bv.size,e3⟩)⟩
   | 7,_,a1=>
    cases sI a1;have d6:∃ AZ cZ,gg 25= .tuple #[.agg #[.slice AZ (List.length XG) cZ],.bool a2]/\Kept (lo 6) (hi 6) wx (fun wq=>NodesIn wq AZ XG)/\w7.heap.size<=(lo 6)/\TgR l rs xs t a2 XG:=(hd 6 (zq kR)).1;obtain⟨AZ,cZ,bz,a7,ab,b1⟩:=d6;refine gdA (zz 25 _ bz nu ?_);refine qV (x7 (v:= .tuple _) rfl) ⟨Same.refl _ _,?_⟩;exact⟨_,_,rfl,a7,ab,b1⟩
   | 8,_,a1=>
    cases sI a1;have d7:∃ AZ cZ,gg 18= .tuple #[.agg #[.slice AZ (List.length XG) cZ],.bool a2]/\Kept (lo 6) (hi 6) wx (fun wq=>NodesIn wq AZ XG)/\w7.heap.size<=(lo 6)/\TgR l rs xs t a2 XG:=(hd 7 (zq kR)).1;obtain⟨bh,bg,bb,bi,a9,ao⟩:=d7;refine gdA (zz 18 _ bb nu ?_);refine qV (yV (v:=_) rfl rfl) ⟨Same.refl _ _,?_⟩;exact⟨_,_,rfl,bi,a9,ao⟩
   | 9,_,a1=>
    cases sI a1;have d7:∃ AZ cZ,gg 18= .tuple #[.agg #[.slice AZ (List.length XG) cZ],.bool a2]/\Kept (lo 6) (hi 6) wx (fun wq=>NodesIn wq AZ XG)/\w7.heap.size<=(lo 6)/\TgR l rs xs t a2 XG:=(hd 7 (zq kR)).1;obtain⟨bh,bg,bb,bi,a9,ao⟩:=d7;refine gdA (zz 18 _ bb nu ?_);refine qV (yV (v:=_) rfl rfl) ⟨Same.refl _ _,?_⟩;exact rfl
   | 10,_,a1=>
    cases sI a1;have bv:=s12;refine gdA ?_;refine jK (fun ops Q K=>?_);refine qw (cs:=#[.slice none 0 0]) Iy rfl (fun b8 w10 an s15 hr=>?_);exact K _ _ ⟨s15,⟨_,rfl,nLT bv.size hr,an,hr,an.lt⟩⟩
   | _+11,hix,_=>exact absurd hix oG
  refine⟨?_,?_,trivial⟩
  ·intro _ gg br lo hi s16 hR b9;have d7:∃ AZ cZ,gg 18= .tuple #[.agg #[.slice AZ (List.length XG) cZ],.bool a2]/\Kept (lo 6) (hi 6) br (fun wq=>NodesIn wq AZ XG)/\w7.heap.size<=(lo 6)/\TgR l rs xs t a2 XG:=(hR 7 dE dE).1;obtain⟨bh,bg,bb,bi,a9,ao⟩:=d7;have d8:∃ AZ cZ,gg 26= .agg #[.slice AZ (List.length XG) cZ]/\Kept (lo 6) (hi 6) br (fun wq=>NodesIn wq AZ XG)/\w7.heap.size<=(lo 6)/\TgR l rs xs t a2 XG:=(hR 8 dE dE).1;obtain⟨AZ,cZ,bm,a7,ab,b1⟩:=d8;have d9:gg 27= .bool a2:=(hR 9 dE dE).1;have e27:=d9;have c1:∃ b,gg 8= .pointer (some ⟨b,0,none⟩)/\w7.heap.size<=b/\Blk br b 30 #[.slice none 0 0]/\(lo 10)<=b/\b<(hi 10):=(hR 10 dE dE).1;obtain⟨b8,e8,a8,an,bt,bx⟩:=c1;have b5:(hi 6)<=(lo 10)\/(hi 10)<=(lo 6):=b9 6 10 dE dE dE dE dE;have:=nLL z2 a8;have:=nLL z3 a8;have a4:b4<b8:=nLL z4 a8;have a3:b6<b8:=nLL z6 a8;replace a8:=nLT hsz a8;have bo:b4<(lo 6):=nLL z4 ab;have bn:b6<(lo 6):=nLL z6 ab;refine u9 18 (.tuple #[.agg #[.slice bh (List.length XG) bg],.bool a2]) bb nu (u9 26 (.agg #[.slice AZ (List.length XG) cZ]) bm nu (u9 27 (.bool a2) e27 nu (u9 8 (.pointer (some ⟨b8,0,none⟩)) e8 nu (TX (k':=2) kR (e_lst (listed':=#[true,true,true,true,true,true,true,true,true,true,true,false,false]) kR ?_)))));refine R4 [11] kR rfl ⟨fun o a1=>?_,trivial⟩;cases sI a1;refine zJ an (fun w12 hq s17=>?_);replace an:=hq;refine x6 (e_A (listed':=#[true,true,true,true,true,true,true,true,true,true,true,true,false]) (by rfl) (a_tk 12 rfl (fun _=>uJ (v:= .bool _) rfl) (a_end kR ?_)));refine e_R ⟨agA,?_⟩;replace a7:=a7.tr1 s17 oG;exact⟨b8,AZ,cZ,_,_,rfl,rfl,hB.u,an,a5.u,a6.u,a7,nLT hsz ab,bo,bn,a4,a3,b1⟩
  intro _ gg bq lo hi s18 hR b9;have d7:∃ AZ cZ,gg 18= .tuple #[.agg #[.slice AZ (List.length XG) cZ],.bool a2]/\Kept (lo 6) (hi 6) bq (fun wq=>NodesIn wq AZ XG)/\w7.heap.size<=(lo 6)/\TgR l rs xs t a2 XG:=(hR 7 dE dE).1;obtain⟨bh,bg,bb,bi,a9,ao⟩:=d7;have d8:∃ AZ cZ,gg 26= .agg #[.slice AZ (List.length XG) cZ]/\Kept (lo 6) (hi 6) bq (fun wq=>NodesIn wq AZ XG)/\w7.heap.size<=(lo 6)/\TgR l rs xs t a2 XG:=(hR 8 dE dE).1;obtain⟨AZ,cZ,bm,a7,ab,b1⟩:=d8;have c1:∃ b,gg 8= .pointer (some ⟨b,0,none⟩)/\w7.heap.size<=b/\Blk bq b 30 #[.slice none 0 0]/\(lo 10)<=b/\b<(hi 10):=(hR 10 dE dE).1;obtain⟨b8,e8,a8,an,bt,bx⟩:=c1;have b5:(hi 6)<=(lo 10)\/(hi 10)<=(lo 6):=b9 6 10 dE dE dE dE dE;have:=nLL z2 a8;have:=nLL z3 a8;have a4:b4<b8:=nLL z4 a8;have a3:b6<b8:=nLL z6 a8;replace a8:=nLT hsz a8;have bo:b4<(lo 6):=nLL z4 ab;have bn:b6<(lo 6):=nLL z6 ab;refine u9 18 (.tuple #[.agg #[.slice bh (List.length XG) bg],.bool a2]) bb nu (u9 26 (.agg #[.slice AZ (List.length XG) cZ]) bm nu (u9 8 (.pointer (some ⟨b8,0,none⟩)) e8 nu (TX (k':=3) kR (e_lst (listed':=#[true,true,true,true,true,true,true,true,true,false,true,false,false]) kR (a_tk 9 rfl (fun _=>yV (v:=_) rfl rfl) ?_)))));refine R4 [11] kR rfl ⟨fun o a1=>?_,trivial⟩;cases sI a1;refine zJ an (fun w14 hq s19=>?_);replace an:=hq;refine x6 (e_A (listed':=#[true,true,true,true,true,true,true,true,true,true,true,true,false]) (by rfl) (a_tk 12 rfl (fun _=>uJ (v:= .bool _) rfl) (a_end kR ?_)));refine e_R ⟨agA,?_⟩;replace a7:=a7.tr1 s19 oG;exact⟨b8,AZ,cZ,_,_,rfl,rfl,hB.u,an,a5.u,a6.u,a7,nLT hsz ab,bo,bn,a4,a3,b1⟩
 obtain⟨b8,AZ,cZ,lz,hz,h8,h9,hB,an,a5,a6,a7,hlz,bo,bn,a4,a3,b1⟩:=hI;refine Zq 8 _ h8 nu (Zq 9 _ h9 nu (zn5 ?_));refine uW (cs:=#[.int .i64 0,.int .i64 0]) ?_;refine zJ a5 (fun w15 hq s20=>?_);replace a5:=hq;refine waB rfl ?_;refine zJ a6.u (fun w16 hq s21=>?_);replace a6:=hq;refine zn3 ?_;refine fin3 (.inl rfl) rfl (zw U30 rfl rfl a5.u.range0 gY) rfl (zw U43 rfl rfl a6.range0 zj) ?_;replace hB:=(hB.tr1 s20 lo4).tr1 s21 lo6;replace a7:=(a7.tr1 s20 oG).tr1 s21 oG;exact⟨⟨AZ,XG,a2,cZ,by rw[hdz];rfl,XJ a7 hlz,.inr ⟨hdz,b1⟩⟩,hB⟩
end Go.Proofs.YtmfiholmfieieaaDoor
