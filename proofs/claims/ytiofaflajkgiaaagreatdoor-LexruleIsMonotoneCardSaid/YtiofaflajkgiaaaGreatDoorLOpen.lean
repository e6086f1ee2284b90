/- What these functions compute, at every world: law3.LexruleIsMonotone; and plain laws. -/
import Derived.Test.YtiofaflajkgiaaaGreatDoorU
import Derived.Test.YtiofaflajkgiaaaGreatDoorZst
import Derived.Test.YtiofaflajkgiaaaGreatDoorLPl
import Derived.Test.YtiofaflajkgiaaaGreatDoorGRf
import Derived.Test.YtiofaflajkgiaaaGreatDoorSFind
import Derived.Test.YtiofaflajkgiaaaGreatDoorPFind
import Derived.Test.YtiofaflajkgiaaaGreatDoorRng
import Derived.Test.YtiofaflajkgiaaaGreatDoorGro
import Derived.Test.YtiofaflajkgiaaaGreatDoorComp
import Derived.Test.YtiofaflajkgiaaaGreatDoorLxd
import Derived.Test.YtiofaflajkgiaaaGreatDoorStk
import Derived.Test.YtiofaflajkgiaaaGreatDoorGraph
import Derived.SizedLaws
namespace Go.Proofs.YtiofaflajkgiaaaGreatDoor
open Go.RowKit Go.Proofs.Tryz Go.ChangeShapes Go.WideShapes Go.Deep Go.Joins
theorem dog_of{w:World}{A:Option Addr}(h:LexesIn w A smallX):∃(b o:Nat) (G S' B:Option Addr) (cg cs cb:Nat),A=some ⟨b,o,none⟩/\b<w.heap.size/\w.rangeAt b (o+3*9) [.string dogS.lx.word,.slice G dogS.lx.gr.length cg,.int .i64 dogS.lx.wt,.int .i64 (dogS.lx.mean).kind,.string (dogS.lx.mean).name,.int .i64 (dogS.lx.mean).index,.string (dogS.lx.mean).type.base,.slice S' (dogS.lx.mean).type.args.length cs,.slice B (dogS.lx.mean).args.length cb]/\NodesIn w G dogS.lx.gr/\SimsIn w S' dogS.lx.mean.type.args/\TmsIn w B dogS.lx.mean.args:=by
 have h3:3<smallX.length:=by decide +kernel
 obtain⟨b,o,e,hl,hc⟩:=h.2 (fun e=>by rw[e]at h3;cases h3);obtain⟨_,G,cg,S',cs,B,m,h1,h2,h4,h5⟩:=hc 3 h3;rw[dog_at h3]at h1 h2 h4 h5;exact⟨b,o,G,S',B,cg,cs,m,e,hl,h1,h2,h4,h5⟩
set_option maxRecDepth 100000 in
set_option maxHeartbeats 8000000 in
theorem law40_any(AT AF:Option Addr)(ct cf:Nat)(l:List Ty)(fs:List Ft)(r:Lr)(x:Lx)(gm:List Nd)(G SA BA Gx Sx Bx:Option Addr)(cg cs cb dj df dg:Nat)(GM:Option Addr)(cm:Nat)(w:World)(c7:TabIn w)(hU:U8In w)(hwx:x.word.size<9223372036854775807)(db:TypesIn w AT l)(hF:FeatsIn w AF fs)(hP:LrP w r G SA BA)(f7:NodesIn w Gx x.gr)(f3:SimsIn w Sx x.mean.type.args)(f2:TmsIn w Bx x.mean.args)(hM:NodesIn w GM gm):Calls prog 3 #[.agg #[.slice AT l.length ct,.slice AF fs.length cf],.agg #[.string r.name,.string r.cut,.string r.add,.slice G r.gr.length cg,.int .i64 r.wt,.int .i64 (r.mean).kind,.string (r.mean).name,.int .i64 (r.mean).index,.string (r.mean).type.base,.slice SA (r.mean).type.args.length cs,.slice BA (r.mean).args.length cb],.agg #[.string x.word,.slice Gx x.gr.length dj,.int .i64 x.wt,.int .i64 (x.mean).kind,.string (x.mean).name,.int .i64 (x.mean).index,.string (x.mean).type.base,.slice Sx (x.mean).type.args.length df,.slice Bx (x.mean).args.length dg],.agg #[.slice GM (List.length gm) cm]] w fun e w'=>e= .returned (.bool true)/\Bel w w':=by
 refine enT func3 ntmps3 rfl rfl fun hB=>?_;refine zn2 ?_;refine qY (v:= .agg #[_,_]) (cs:=#[_,_]) rfl rfl (fun b4 w1 an q1 hr=>?_);refine qY (v:= .agg #[_,_,_,_,_,_,_,_,_,_,_]) (cs:=#[_,_,_,_,_,_,_,_,_,_,_]) rfl rfl (fun b5 w2 b2 q2 hr=>?_);refine qY (v:= .agg #[_,_,_,_,_,_,_,_,_]) (cs:=#[_,_,_,_,_,_,_,_,_]) rfl rfl (fun b6 w3 a6 q3 hr=>?_);have:=nLL an.u.lt hr;have:=nLL b2.lt hr;have lo6:=nLT (Bel.size hB.u) hr;refine qY (v:= .agg #[_]) (cs:=#[_]) rfl rfl (fun b7 w4 ba q4 hr=>?_);have:=nLL a6.lt hr;refine zn5 ?_;refine zW kR (small_d _) rfl (fun e' w5 hr=>?_);obtain⟨⟨_,rfl,At1,ct1,Bf1,cf1,br,cells,A1,fe,AS1,cst1,n1,rfl,lor,hcp,hbr,hD⟩,q5⟩:=hr;replace q5:=sB q5;have t1:=hD.now.1;have t2:=hD.now.2.1;have t4:=hD.now.2.2.2.1;obtain⟨lb,lq,Gd,Sd,Bd,gd,sd,bd,rfl,hlb,hlr,hGd,hSd,hTd⟩:=dog_of t4;clear hD hbr;obtain⟨wS,ep⟩:∃ z,z=w5:=⟨_,rfl⟩
 have cx:Bel wS w5:=by rw[ep];exact Below.refl _ _
 rw[<- ep]at t1 t2 hlb hlr hGd hSd hTd;clear ep;refine⟨_,rfl,?_⟩;refine yj (cs:=#[.slice none 0 0,.slice none 0 0,.slice none 0 0,.slice none 0 0,.slice none 0 0]) ze42 rfl (fun _=>rfl) (fun _=>rfl) sz42 rfl zJ (fun b9 w7 ez q6 hr=>?_);refine zn4 ?_;replace hB:=hB.tr0 (q1.trans (q2.trans (q3.trans (q4.trans (q5.trans q6)))));have hsz:=Bel.size hB;replace cx:=cx.tr0 q6;have hszs:=Bel.size cx;replace an:=an.tr0 (q2.trans (q3.trans (q4.trans (q5.trans q6))));have z4:=an.lt;replace b2:=b2.tr0 (q3.trans (q4.trans (q5.trans q6)));have z5:=b2.lt;replace a6:=a6.tr0 (q4.trans (q5.trans q6));have z6:=a6.lt;replace ba:=ba.tr0 (q5.trans q6);have z7:=ba.lt;have z9:=ez.lt;refine y7 (rg [10,11,12] 25 12) (fun g w'=>g 11= .bool true/\Bel w w'/\Blk w' b4 25 #[.slice AT l.length ct,.slice AF fs.length cf]/\Blk w' b5 36 #[.string r.name,.string r.cut,.string r.add,.slice G r.gr.length cg,.int .i64 r.wt,.int .i64 (r.mean).kind,.string (r.mean).name,.int .i64 (r.mean).index,.string (r.mean).type.base,.slice SA (r.mean).type.args.length cs,.slice BA (r.mean).args.length cb]/\Blk w' b6 38 #[.string x.word,.slice Gx x.gr.length dj,.int .i64 x.wt,.int .i64 (x.mean).kind,.string (x.mean).name,.int .i64 (x.mean).index,.string (x.mean).type.base,.slice Sx (x.mean).type.args.length df,.slice Bx (x.mean).args.length dg]/\Blk w' b7 28 #[.slice GM (List.length gm) cm]) ?_ (fun g2 w8 hI=>?_)
 ·refine HX 14 [26,27,28,29,30,31,32,33,25,34,35,36,10,12] [10,11] (fun ix=>bif Nat.beq ix 8 then 7 else bif Nat.beq ix 9 then 7 else ix) (fun ix v la ha wv=>match ix with|0=>v= .pointer (some ⟨b9,0,none⟩)|1=>v= .agg #[.slice At1 smallT.length ct1,.slice Bf1 smallF.length cf1]|2=>∃(G SA BA:Option Addr) (cg cs cb:Nat),v= .agg #[.string pluralR.name,.string pluralR.cut,.string pluralR.add,.slice G pluralR.gr.length cg,.int .i64 pluralR.wt,.int .i64 (pluralR.mean).kind,.string (pluralR.mean).name,.int .i64 (pluralR.mean).index,.string (pluralR.mean).type.base,.slice SA (pluralR.mean).type.args.length cs,.slice BA (pluralR.mean).args.length cb]/\LrP wv pluralR G SA BA|3=>v= .pointer (some ⟨b9,3,none⟩)|4=>v= .slice (some ⟨lb,lq,none⟩) smallX.length fe|5=>v= .pointer (some ⟨lb,lq+3*9,none⟩)|6=>v= .agg #[.string dogS.lx.word,.slice Gd dogS.lx.gr.length gd,.int .i64 dogS.lx.wt,.int .i64 (dogS.lx.mean).kind,.string (dogS.lx.mean).name,.int .i64 (dogS.lx.mean).index,.string (dogS.lx.mean).type.base,.slice Sd (dogS.lx.mean).type.args.length sd,.slice Bd (dogS.lx.mean).args.length bd]|7=>∃(ok:Bool) (Y:List Nd) (A5:Option Addr) (c5:Nat) (wd:ByteArray) (wt k6 i6:Int) (m6 s6:ByteArray) (A6 B6:Option Addr) (n6 c6 o6 d6:Nat),v= .tuple #[.agg #[.string wd,.slice A5 (List.length Y) c5,.int .i64 wt,.int .i64 k6,.string m6,.int .i64 i6,.string s6,.slice A6 n6 c6,.slice B6 o6 d6],.bool ok,.agg #[.int .i64 0,.int .i64 0]]/\ok=true|8=>∃(ok:Bool) (Y:List Nd) (A5:Option Addr) (c5:Nat) (wd:ByteArray) (wt k6 i6:Int) (m6 s6:ByteArray) (A6 B6:Option Addr) (n6 c6 o6 d6:Nat),v= .tuple #[.agg #[.string wd,.slice A5 (List.length Y) c5,.int .i64 wt,.int .i64 k6,.string m6,.int .i64 i6,.string s6,.slice A6 n6 c6,.slice B6 o6 d6],.bool ok,.agg #[.int .i64 0,.int .i64 0]]/\ok=true|9=>∃(ok:Bool) (Y:List Nd) (A5:Option Addr) (c5:Nat) (wd:ByteArray) (wt k6 i6:Int) (m6 s6:ByteArray) (A6 B6:Option Addr) (n6 c6 o6 d6:Nat),v= .agg #[.string wd,.slice A5 (List.length Y) c5,.int .i64 wt,.int .i64 k6,.string m6,.int .i64 i6,.string s6,.slice A6 n6 c6,.slice B6 o6 d6]/\ok=true|10=>v= .bool true|11=>v= .agg #[.int .i64 0,.int .i64 0]|12=>∃ b,v= .pointer (some ⟨b,0,none⟩)/\w7.heap.size<=b/\Blk wv b 38 #[.string ⟨#[]⟩,.slice none 0 0,.int .i64 0,.int .i64 0,.string ⟨#[]⟩,.int .i64 0,.string ⟨#[]⟩,.slice none 0 0,.slice none 0 0]/\la<=b/\b<ha|13=>∃ b,v= .pointer (some ⟨b,0,none⟩)/\w7.heap.size<=b/\Blk wv b 45 #[.int .i64 0,.int .i64 0]/\la<=b/\b<ha|_=>True) kR kR kR kR ?_ ?_ ?_
  ·intro ix v la ha wv wv2 h hle q7
   match ix,h with
   | 0,h=>exact h
   | 1,h=>exact h
   | 2,h=>
    obtain⟨Gp,Sp,Bp,gp,sp,bp,fd,dy⟩:=h;exact⟨Gp,Sp,Bp,gp,sp,bp,fd,dy.mono q7.bel⟩
   | 3,h=>exact h
   | 4,h=>exact h
   | 5,h=>exact h
   | 6,h=>exact h
   | 7,h=>
    obtain⟨ok,Y,A5,c5,wd,wt,k6,i6,m6,s6,A6,B6,n6,c6,o6,d6,fc,cv⟩:=h;exact⟨ok,Y,A5,c5,wd,wt,k6,i6,m6,s6,A6,B6,n6,c6,o6,d6,fc,cv⟩
   | 8,h=>
    obtain⟨bx,Y7,ce,ca,bv,bu,c2,c3,c1,bw,cd,cc,c0,c9,bz,c8,bo,a7⟩:=h;exact⟨bx,Y7,ce,ca,bv,bu,c2,c3,c1,bw,cd,cc,c0,c9,bz,c8,bo,a7⟩
   | 9,h=>
    obtain⟨ok,Y,A5,c5,wd,wt,k6,i6,m6,s6,A6,B6,n6,c6,o6,d6,cy,cv⟩:=h;exact⟨ok,Y,A5,c5,wd,wt,k6,i6,m6,s6,A6,B6,n6,c6,o6,d6,cy,cv⟩
   | 10,h=>exact h
   | 11,h=>exact h
   | 12,h=>
    obtain⟨bt,d2,a2,a5,cn,cr⟩:=h;exact⟨bt,d2,a2,a5.tr0 q7,cn,cr⟩
   | 13,h=>
    obtain⟨bq,cz,a1,a4,ck,cq⟩:=h;exact⟨bq,cz,a1,a4.tr0 q7,ck,cq⟩
   | _+14,h=>exact trivial
  ·intro ix o hix a3 gg wx lo hi q8 hd ad
   match ix,hix,a3 with
   | 0,_,a3=>
    cases sI a3;refine gdA ?_;refine qQ (uK U42 JY dE rfl rfl rfl) ⟨Same.refl _ _,?_⟩;exact rfl
   | 1,_,a3=>
    cases sI a3;refine gdA (zz 26 _ ((hd 0 (zj kR)).1) nu ?_);refine qQ (qZ U25 rfl rfl (ez.u.sub (n:=2) (xs:=[_,_]) rfl) JY) ⟨Same.refl _ _,?_⟩;exact rfl
   | 2,_,a3=>
    cases sI a3;refine gdA ?_;refine vw kR (G6 wx) rfl (fun e' w2 hr=>?_);obtain⟨⟨Gp,Sp,Bp,gp,sp,bp,rfl,dy⟩,q9⟩:=hr;exact⟨_,rfl,sB q9,⟨Gp,Sp,Bp,gp,sp,bp,rfl,dy⟩⟩
   | 3,_,a3=>
    cases sI a3;refine gdA ?_;refine qQ (uK U42 sz40 dE rfl rfl rfl) ⟨Same.refl _ _,?_⟩;exact rfl
   | 4,_,a3=>
    cases sI a3;refine gdA (zz 29 _ ((hd 3 (zj kR)).1) nu ?_);refine qQ (qW (v:= .slice _ _ _) U40 rfl rfl (ez.u.cell rfl)) ⟨Same.refl _ _,?_⟩;exact rfl
   | 5,_,a3=>
    cases sI a3;refine gdA (zz 30 _ ((hd 4 (zj kR)).1) nu ?_);refine qQ (xX (i:=3) U40 j6 rfl rfl dE rfl) ⟨Same.refl _ _,?_⟩;exact rfl
   | 6,_,a3=>
    cases sI a3;refine gdA (zz 31 _ ((hd 5 (zj kR)).1) nu ?_);refine qQ (qZ U38 rfl rfl (cx.u.range hlb hlr) j6) ⟨Same.refl _ _,?_⟩;exact rfl
   | 7,_,a3=>
    cases sI a3;obtain⟨Gp,Sp,Bp,gp,sp,bp,fd,dy⟩:=(hd 2 (zj kR)).1;have d6:gg 32= .agg #[.string dogS.lx.word,.slice Gd dogS.lx.gr.length gd,.int .i64 dogS.lx.wt,.int .i64 (dogS.lx.mean).kind,.string (dogS.lx.mean).name,.int .i64 (dogS.lx.mean).index,.string (dogS.lx.mean).type.base,.slice Sd (dogS.lx.mean).type.args.length sd,.slice Bd (dogS.lx.mean).args.length bd]:=(hd 6 (zj kR)).1;have e32:=d6;refine gdA (zz 27 _ ((hd 1 (zj kR)).1) nu (zz 28 _ fd nu (zz 32 _ e32 nu ?_)));refine vw kR (O8 At1 Bf1 ct1 cf1 smallT smallF pluralR dogS.lx Gp Sp Bp Gd Sd Bd gp sp bp gd sd bd wx (c7.mono hB.u) (hU.mono hB.u) plu_ok dog_ok (t1.mono cx.u) (t2.mono cx.u) dy (hGd.mono cx.u) (hSd.mono cx.u) (hTd.mono cx.u)) rfl (fun e' w2 hr=>?_);obtain⟨⟨ok,Y,A5,c5,wd,wt,k6,i6,m6,s6,A6,B6,n6,c6,o6,d6,rfl,_,hLS,_⟩,q10⟩:=hr;exact⟨_,rfl,sB q10,⟨ok,Y,A5,c5,wd,wt,k6,i6,m6,s6,A6,B6,n6,c6,o6,d6,rfl,dog_yes hLS⟩⟩
   | 8,_,a3=>
    cases sI a3;obtain⟨ok,Y,A5,c5,wd,wt,k6,i6,m6,s6,A6,B6,n6,c6,o6,d6,fc,cv⟩:=(hd 7 (zj kR)).1;refine gdA (zz 33 _ fc nu ?_);refine qQ (xz (v:= .tuple _) rfl) ⟨Same.refl _ _,?_⟩;exact⟨ok,Y,A5,c5,wd,wt,k6,i6,m6,s6,A6,B6,n6,c6,o6,d6,rfl,cv⟩
   | 9,_,a3=>
    cases sI a3;obtain⟨bx,Y7,ce,ca,bv,bu,c2,c3,c1,bw,cd,cc,c0,c9,bz,c8,bo,a7⟩:=(hd 8 (zj kR)).1;refine gdA (zz 25 _ bo nu ?_);refine qQ (y8 (v:=_) rfl rfl) ⟨Same.refl _ _,?_⟩;exact⟨bx,Y7,ce,ca,bv,bu,c2,c3,c1,bw,cd,cc,c0,c9,bz,c8,rfl,a7⟩
   | 10,_,a3=>
    cases sI a3;obtain⟨bx,Y7,ce,ca,bv,bu,c2,c3,c1,bw,cd,cc,c0,c9,bz,c8,bo,a7⟩:=(hd 8 (zj kR)).1;refine gdA (zz 25 _ bo nu ?_);refine qQ (y8 (v:=_) rfl rfl) ⟨Same.refl _ _,?_⟩;exact ac a7
   | 11,_,a3=>
    cases sI a3;obtain⟨bx,Y7,ce,ca,bv,bu,c2,c3,c1,bw,cd,cc,c0,c9,bz,c8,bo,a7⟩:=(hd 8 (zj kR)).1;refine gdA (zz 25 _ bo nu ?_);refine qQ (y8 (v:=_) rfl rfl) ⟨Same.refl _ _,?_⟩;exact rfl
   | 12,_,a3=>
    cases sI a3;have eq:=q8;refine gdA ?_;refine jZ (fun ops Q K=>?_);refine qk (cs:=#[.string ⟨#[]⟩,.slice none 0 0,.int .i64 0,.int .i64 0,.string ⟨#[]⟩,.int .i64 0,.string ⟨#[]⟩,.slice none 0 0,.slice none 0 0]) YQ rfl (fun bt w9 a5 q11 hr=>?_);exact K _ _ ⟨q11,⟨_,rfl,nLT eq.size hr,a5,hr,a5.lt⟩⟩
   | 13,_,a3=>
    cases sI a3;have eq:=q8;refine gdA ?_;refine jZ (fun ops Q K=>?_);refine qk (cs:=#[.int .i64 0,.int .i64 0]) qK rfl (fun bq w10 a4 q12 hr=>?_);exact K _ _ ⟨q12,⟨_,rfl,nLT eq.size hr,a4,hr,a4.lt⟩⟩
   | _+14,hix,_=>exact absurd hix oG
  refine⟨?_,?_,?_,?_,trivial⟩
  ·intro x gg w11 lo hi q13 hR ad;obtain⟨bx,Y7,ce,ca,bv,bu,c2,c3,c1,bw,cd,cc,c0,c9,bz,c8,bo,a7⟩:=(hR 8 dE dE).1;obtain⟨ok,Y,A5,c5,wd,wt,k6,i6,m6,s6,A6,B6,n6,c6,o6,d6,cy,cv⟩:=(hR 9 dE dE).1;have fb:gg 35= .bool true:=(hR 10 dE dE).1;have fa:gg 36= .agg #[.int .i64 0,.int .i64 0]:=(hR 11 dE dE).1;obtain⟨bt,d2,a2,a5,cn,cr⟩:=(hR 12 dE dE).1;obtain⟨bq,cz,a1,a4,ck,cq⟩:=(hR 13 dE dE).1;have b8:(hi 7)<=(lo 12)\/(hi 12)<=(lo 7):=ad 7 12 dE dE dE dE dE;have b3:(hi 7)<=(lo 13)\/(hi 13)<=(lo 7):=ad 7 13 dE dE dE dE dE;have d7:bt≠bq:=fun h=>absurd (vW (h ▸ a5) a4) dE
   have:=nLL z4 a2;have:=nLL z5 a2;have:=nLL z6 a2;have:=nLL z7 a2;have:=nLL z4 a1;have:=nLL z5 a1;have:=nLL z6 a1;have:=nLL z7 a1;replace a2:=nLT hsz a2;replace a1:=nLT hsz a1;refine yY 25 (.tuple #[.agg #[.string bv,.slice ce (List.length Y7) ca,.int .i64 bu,.int .i64 c2,.string c1,.int .i64 c3,.string bw,.slice cd c0 c9,.slice cc bz c8],.bool bx,.agg #[.int .i64 0,.int .i64 0]]) bo nu (yY 34 (.agg #[.string wd,.slice A5 (List.length Y) c5,.int .i64 wt,.int .i64 k6,.string m6,.int .i64 i6,.string s6,.slice A6 n6 c6,.slice B6 o6 d6]) cy nu (yY 35 (.bool true) fb nu (yY 36 (.agg #[.int .i64 0,.int .i64 0]) fa nu (yY 10 (.pointer (some ⟨bt,0,none⟩)) d2 nu (yY 12 (.pointer (some ⟨bq,0,none⟩)) cz nu (O6 (k':=3) kR (Sv (listed':=#[true,true,true,true,true,true,true,true,true,true,true,true,true,true,false,false,false]) kR ?_)))))));refine xJ [14] kR rfl ⟨fun o a3=>?_,trivial⟩;cases sI a3;refine zk a5 rfl rfl j6 rfl zJ (fun w12 hq q14=>?_);replace a5:=hq;refine zQ (e_A (listed':=#[true,true,true,true,true,true,true,true,true,true,true,true,true,true,true,false,false]) (by rfl) (C7 15 rfl (fun _=>gk (v:= .bool _) rfl) ?_));refine xJ [16] kR rfl ⟨fun o a3=>?_,trivial⟩;cases sI a3;refine zk a4.u rfl rfl zq rfl zJ (fun w13 hq q15=>?_);replace a4:=hq;refine zQ (e_A (listed':=#[true,true,true,true,true,true,true,true,true,true,true,true,true,true,true,true,true]) (by rfl) (Q1 kR ?_));refine e_R ⟨agA,?_⟩;exact⟨by first|rfl|exact ac a7,hB.u,an.u,b2.u,a6.u,ba.u⟩
  ·intro x gg w14 lo hi q16 hR ad;obtain⟨bx,Y7,ce,ca,bv,bu,c2,c3,c1,bw,cd,cc,c0,c9,bz,c8,bo,a7⟩:=(hR 8 dE dE).1;obtain⟨ok,Y,A5,c5,wd,wt,k6,i6,m6,s6,A6,B6,n6,c6,o6,d6,cy,cv⟩:=(hR 9 dE dE).1;have fb:gg 35= .bool true:=(hR 10 dE dE).1;obtain⟨bt,d2,a2,a5,cn,cr⟩:=(hR 12 dE dE).1;obtain⟨bq,cz,a1,a4,ck,cq⟩:=(hR 13 dE dE).1;have b8:(hi 7)<=(lo 12)\/(hi 12)<=(lo 7):=ad 7 12 dE dE dE dE dE;have b3:(hi 7)<=(lo 13)\/(hi 13)<=(lo 7):=ad 7 13 dE dE dE dE dE;have d7:bt≠bq:=fun h=>absurd (vW (h ▸ a5) a4) dE
   have:=nLL z4 a2;have:=nLL z5 a2;have:=nLL z6 a2;have:=nLL z7 a2;have:=nLL z4 a1;have:=nLL z5 a1;have:=nLL z6 a1;have:=nLL z7 a1;replace a2:=nLT hsz a2;replace a1:=nLT hsz a1;refine yY 25 (.tuple #[.agg #[.string bv,.slice ce (List.length Y7) ca,.int .i64 bu,.int .i64 c2,.string c1,.int .i64 c3,.string bw,.slice cd c0 c9,.slice cc bz c8],.bool bx,.agg #[.int .i64 0,.int .i64 0]]) bo nu (yY 34 (.agg #[.string wd,.slice A5 (List.length Y) c5,.int .i64 wt,.int .i64 k6,.string m6,.int .i64 i6,.string s6,.slice A6 n6 c6,.slice B6 o6 d6]) cy nu (yY 35 (.bool true) fb nu (yY 10 (.pointer (some ⟨bt,0,none⟩)) d2 nu (yY 12 (.pointer (some ⟨bq,0,none⟩)) cz nu (O6 (k':=4) kR (Sv (listed':=#[true,true,true,true,true,true,true,true,true,true,true,false,true,true,false,false,false]) kR (C7 11 rfl (fun _=>y8 (v:=_) rfl rfl) ?_)))))));refine xJ [14] kR rfl ⟨fun o a3=>?_,trivial⟩;cases sI a3;refine zk a5 rfl rfl j6 rfl zJ (fun w15 hq q17=>?_);replace a5:=hq;refine zQ (e_A (listed':=#[true,true,true,true,true,true,true,true,true,true,true,true,true,true,true,false,false]) (by rfl) (C7 15 rfl (fun _=>gk (v:= .bool _) rfl) ?_));refine xJ [16] kR rfl ⟨fun o a3=>?_,trivial⟩;cases sI a3;refine zk a4.u rfl rfl zq rfl zJ (fun w16 hq q18=>?_);replace a4:=hq;refine zQ (e_A (listed':=#[true,true,true,true,true,true,true,true,true,true,true,true,true,true,true,true,true]) (by rfl) (Q1 kR ?_));refine e_R ⟨agA,?_⟩;exact⟨by first|rfl|exact ac a7,hB.u,an.u,b2.u,a6.u,ba.u⟩
  ·intro x gg w17 lo hi q19 hR ad;obtain⟨bx,Y7,ce,ca,bv,bu,c2,c3,c1,bw,cd,cc,c0,c9,bz,c8,bo,a7⟩:=(hR 8 dE dE).1;obtain⟨ok,Y,A5,c5,wd,wt,k6,i6,m6,s6,A6,B6,n6,c6,o6,d6,cy,cv⟩:=(hR 9 dE dE).1;have fa:gg 36= .agg #[.int .i64 0,.int .i64 0]:=(hR 11 dE dE).1;obtain⟨bt,d2,a2,a5,cn,cr⟩:=(hR 12 dE dE).1;obtain⟨bq,cz,a1,a4,ck,cq⟩:=(hR 13 dE dE).1;have b8:(hi 7)<=(lo 12)\/(hi 12)<=(lo 7):=ad 7 12 dE dE dE dE dE;have b3:(hi 7)<=(lo 13)\/(hi 13)<=(lo 7):=ad 7 13 dE dE dE dE dE;have d7:bt≠bq:=fun h=>absurd (vW (h ▸ a5) a4) dE
   have:=nLL z4 a2;have:=nLL z5 a2;have:=nLL z6 a2;have:=nLL z7 a2;have:=nLL z4 a1;have:=nLL z5 a1;have:=nLL z6 a1;have:=nLL z7 a1;replace a2:=nLT hsz a2;replace a1:=nLT hsz a1;refine yY 25 (.tuple #[.agg #[.string bv,.slice ce (List.length Y7) ca,.int .i64 bu,.int .i64 c2,.string c1,.int .i64 c3,.string bw,.slice cd c0 c9,.slice cc bz c8],.bool bx,.agg #[.int .i64 0,.int .i64 0]]) bo nu (yY 34 (.agg #[.string wd,.slice A5 (List.length Y) c5,.int .i64 wt,.int .i64 k6,.string m6,.int .i64 i6,.string s6,.slice A6 n6 c6,.slice B6 o6 d6]) cy nu (yY 36 (.agg #[.int .i64 0,.int .i64 0]) fa nu (yY 10 (.pointer (some ⟨bt,0,none⟩)) d2 nu (yY 12 (.pointer (some ⟨bq,0,none⟩)) cz nu (O6 (k':=4) kR (Sv (listed':=#[true,true,true,true,true,true,true,true,true,true,false,true,true,true,false,false,false]) kR (C7 10 rfl (fun _=>y8 (v:=_) rfl rfl) ?_)))))));refine xJ [14] kR rfl ⟨fun o a3=>?_,trivial⟩;cases sI a3;refine zk a5 rfl rfl j6 rfl zJ (fun w18 hq q20=>?_);replace a5:=hq;refine zQ (e_A (listed':=#[true,true,true,true,true,true,true,true,true,true,true,true,true,true,true,false,false]) (by rfl) (C7 15 rfl (fun _=>gk (v:= .bool _) rfl) ?_));refine xJ [16] kR rfl ⟨fun o a3=>?_,trivial⟩;cases sI a3;refine zk a4.u rfl rfl zq rfl zJ (fun w19 hq q21=>?_);replace a4:=hq;refine zQ (e_A (listed':=#[true,true,true,true,true,true,true,true,true,true,true,true,true,true,true,true,true]) (by rfl) (Q1 kR ?_));refine e_R ⟨agA,?_⟩;exact⟨by first|rfl|exact ac a7,hB.u,an.u,b2.u,a6.u,ba.u⟩
  intro x gg w20 lo hi q22 hR ad;obtain⟨bx,Y7,ce,ca,bv,bu,c2,c3,c1,bw,cd,cc,c0,c9,bz,c8,bo,a7⟩:=(hR 8 dE dE).1;obtain⟨ok,Y,A5,c5,wd,wt,k6,i6,m6,s6,A6,B6,n6,c6,o6,d6,cy,cv⟩:=(hR 9 dE dE).1;obtain⟨bt,d2,a2,a5,cn,cr⟩:=(hR 12 dE dE).1;obtain⟨bq,cz,a1,a4,ck,cq⟩:=(hR 13 dE dE).1;have b8:(hi 7)<=(lo 12)\/(hi 12)<=(lo 7):=ad 7 12 dE dE dE dE dE;have b3:(hi 7)<=(lo 13)\/(hi 13)<=(lo 7):=ad 7 13 dE dE dE dE dE;have d7:bt≠bq:=fun h=>absurd (vW (h ▸ a5) a4) dE
  have:=nLL z4 a2;have:=nLL z5 a2;have:=nLL z6 a2;have:=nLL z7 a2;have:=nLL z4 a1;have:=nLL z5 a1;have:=nLL z6 a1;have:=nLL z7 a1;replace a2:=nLT hsz a2;replace a1:=nLT hsz a1;refine yY 25 (.tuple #[.agg #[.string bv,.slice ce (List.length Y7) ca,.int .i64 bu,.int .i64 c2,.string c1,.int .i64 c3,.string bw,.slice cd c0 c9,.slice cc bz c8],.bool bx,.agg #[.int .i64 0,.int .i64 0]]) bo nu (yY 34 (.agg #[.string wd,.slice A5 (List.length Y) c5,.int .i64 wt,.int .i64 k6,.string m6,.int .i64 i6,.string s6,.slice A6 n6 c6,.slice B6 o6 d6]) cy nu (yY 10 (.pointer (some ⟨bt,0,none⟩)) d2 nu (yY 12 (.pointer (some ⟨bq,0,none⟩)) cz nu (O6 (k':=5) kR (Sv (listed':=#[true,true,true,true,true,true,true,true,true,true,false,false,true,true,false,false,false]) kR (C7 10 rfl (fun _=>y8 (v:=_) rfl rfl) (C7 11 rfl (fun _=>y8 (v:=_) rfl rfl) ?_)))))));refine xJ [14] kR rfl ⟨fun o a3=>?_,trivial⟩;cases sI a3;refine zk a5 rfl rfl j6 rfl zJ (fun w21 hq q23=>?_);replace a5:=hq;refine zQ (e_A (listed':=#[true,true,true,true,true,true,true,true,true,true,true,true,true,true,true,false,false]) (by rfl) (C7 15 rfl (fun _=>gk (v:= .bool _) rfl) ?_));refine xJ [16] kR rfl ⟨fun o a3=>?_,trivial⟩;cases sI a3;refine zk a4.u rfl rfl zq rfl zJ (fun w22 hq q24=>?_);replace a4:=hq;refine zQ (e_A (listed':=#[true,true,true,true,true,true,true,true,true,true,true,true,true,true,true,true,true]) (by rfl) (Q1 kR ?_));refine e_R ⟨agA,?_⟩;exact⟨by first|rfl|exact ac a7,hB.u,an.u,b2.u,a6.u,ba.u⟩
 obtain⟨h11,hB,an,b2,a6,ba⟩:=hI;refine jK 11 _ h11 nu (zn7 ?_);refine ky rfl (fun c38=>?_) (fun c38=>?_)
 ·exact absurd c38 dE
 refine zn4 ?_;refine y7 (rg [] 39 18) (fun g w'=>g 56= .bool (decide (¬(lrV l fs r).1=0\/¬KK l fs x=0\/¬(x7 l fs gm).1=0))/\Bel w w'/\Blk w' b4 25 #[.slice AT l.length ct,.slice AF fs.length cf]/\Blk w' b5 36 #[.string r.name,.string r.cut,.string r.add,.slice G r.gr.length cg,.int .i64 r.wt,.int .i64 (r.mean).kind,.string (r.mean).name,.int .i64 (r.mean).index,.string (r.mean).type.base,.slice SA (r.mean).type.args.length cs,.slice BA (r.mean).args.length cb]/\Blk w' b6 38 #[.string x.word,.slice Gx x.gr.length dj,.int .i64 x.wt,.int .i64 (x.mean).kind,.string (x.mean).name,.int .i64 (x.mean).index,.string (x.mean).type.base,.slice Sx (x.mean).type.args.length df,.slice Bx (x.mean).args.length dg]/\Blk w' b7 28 #[.slice GM (List.length gm) cm]) ?_ (fun g5 w23 hI=>?_)
 ·refine zn3 ?_;refine zW kR (DQ AT AF ct cf l fs r G SA BA cg cs cb _ (c7.mono hB) (hU.mono hB) (db.mono hB) (hF.mono hB) (hP.mono hB)) rfl (fun e' w24 hr=>?_);obtain⟨rfl,bb⟩:=hr;replace bb:=sB bb;refine⟨_,rfl,?_⟩;refine wl (Dj (v:= .int _ _) U45 rfl U3 rfl rfl rfl) (zn2 ?_);refine zw 44 rfl (fun d4=>?_) (fun d4=>?_)
  ·refine oJ ?_;refine e_R ⟨agA,?_⟩;replace hB:=hB.tr0 bb;replace an:=an.tr0 bb;replace b2:=b2.tr0 bb;replace a6:=a6.tr0 bb;replace ba:=ba.tr0 bb
   exact⟨by
     first
     | exact ac (ah (Or.inl d4)).symm
     | exact ac (ah (Or.inr (Or.inl dc))).symm
     | exact ac (ai.2 ⟨fun h=>Or.inr (Or.inr h),fun h=>(h.resolve_left d4).resolve_left dc⟩),hB,an,b2,a6,ba⟩
  refine zn5 ?_;have f8:=(Iz (O0 (am.1 d4)).1).1;have e9:=Qy f8;refine zW kR (lexr_any AT AF Gx Sx Bx ct cf dj df dg l fs x _ (db.mono hB.u) e9.vt e9.le (hF.mono hB.u) (O5 f8) (f7.mono hB.u) (f3.mono hB.u) (f2.mono hB.u) hwx) rfl (fun e' w25 hr=>?_);obtain⟨rfl,cj⟩:=hr;replace cj:=sB cj;refine⟨_,rfl,?_⟩;refine zn4 ?_;refine zw 50 rfl (fun dc=>?_) (fun dc=>?_)
  ·refine zn7 ?_;refine e_R ⟨agA,?_⟩;replace hB:=hB.tr0 (bb.trans cj);replace an:=an.tr0 (bb.trans cj);replace b2:=b2.tr0 (bb.trans cj);replace a6:=a6.tr0 (bb.trans cj);replace ba:=ba.tr0 (bb.trans cj)
   exact⟨by
     first
     | exact ac (ah (Or.inl d4)).symm
     | exact ac (ah (Or.inr (Or.inl dc))).symm
     | exact ac (ai.2 ⟨fun h=>Or.inr (Or.inr h),fun h=>(h.resolve_left d4).resolve_left dc⟩),hB,an,b2,a6,ba⟩
  refine zn5 ?_;refine zW kR (inh_any AT AF GM ct cf cm l fs gm _ (db.mono hB.u) e9.vt e9.le (hF.mono hB.u) (hM.mono hB.u) (O5 f8)) rfl (fun e' w26 hr=>?_);obtain⟨rfl,d5⟩:=hr;replace d5:=sB d5;refine⟨_,rfl,?_⟩;refine zn1 ?_;refine wl (Dj (v:= .int _ _) U45 rfl U3 rfl rfl rfl) (zn4 ?_);refine e_R ⟨agA,?_⟩;replace hB:=hB.tr0 (bb.trans (cj.trans d5));replace an:=an.tr0 (bb.trans (cj.trans d5));replace b2:=b2.tr0 (bb.trans (cj.trans d5));replace a6:=a6.tr0 (bb.trans (cj.trans d5));replace ba:=ba.tr0 (bb.trans (cj.trans d5))
  exact⟨by
    first
    | exact ac (ah (Or.inl d4)).symm
    | exact ac (ah (Or.inr (Or.inl dc))).symm
    | exact ac (ai.2 ⟨fun h=>Or.inr (Or.inr h),fun h=>(h.resolve_left d4).resolve_left dc⟩),hB,an,b2,a6,ba⟩
 obtain⟨h56,hB,an,b2,a6,ba⟩:=hI;refine jK 56 _ h56 nu (e_S ?_);refine zV rfl (fun ea=>?_) (fun ea=>?_)
 ·refine zn8 ?_;exact⟨rfl,hB⟩
 have d8:(lrV l fs r).1=0:=aH (fun h=>ea (.inl h));have hx:KK l fs x=0:=aH (fun h=>ea (.inr (.inl h)));have hmz:(x7 l fs gm).1=0:=aH (fun h=>ea (.inr (.inr h)));obtain⟨hrd,hrf⟩:=O0 d8;have h0:=(Iz hrd).1;have hxi:=(R1 hx).2.2;obtain⟨hgx,ew⟩:=Xq h0 hxi;obtain⟨hgm,ey⟩:=Xq h0 hmz;obtain⟨_,_,hri,hrp,_⟩:=WZ hrf;have hgr:=(Xq h0 hri).1;have hJ:=lxr_jok h0 hri hrp;have hx60:=hgx.gok.le;have hr60:=hgr.gok.le;have htw:(uj l fs x.gr gm).1=0:=tw_mk (by rw[ew]) (by rw[ey]);refine zn6 ?_;refine wl (qZ U28 rfl rfl (a6.sub (n:=1) (xs:=[_]) rfl) M8) (zn1 ?_);obtain⟨l9,eu⟩:∃ z,z=w23.heap.size:=⟨_,rfl⟩
 have l69:b6<l9:=by rw[eu];exact a6.lt
 refine zW kR (unify_any AT AF Gx GM ct cf dj cm l fs x.gr gm _ (c7.mono hB) (db.mono hB) (hF.mono hB) (f7.mono hB) (hM.mono hB)) rfl (fun e' w27 hr=>?_);obtain⟨⟨A9,X9,e8,f9,rfl,f4,hI9⟩,e7⟩:=hr;replace e7:=sB e7;rw[<- eu]at f4;clear eu;have a8:=Hv.fr f4;clear f4;refine⟨_,rfl,?_⟩;refine wmT rfl (wl (y8 (v:=_) rfl rfl) (wl (y8 (v:=_) rfl rfl) (wl (y8 (v:=_) rfl rfl) ?_)));refine qk (cs:=#[.slice none 0 0]) ze28 rfl (fun b13 w28 cp ei hr=>?_);have:=nLL an.u.lt hr;have:=nLL b2.u.lt hr;have:=nLL a6.u.lt hr;have:=nLL ba.u.lt hr;have bg:=(nLT a8.le hr)
 have eo:=nLT (Bel.size hB.u) hr;refine qk (cs:=#[.int .i64 0,.int .i64 0]) qK rfl (fun b15 w29 b1 eh hr=>?_);have:=nLL an.u.lt hr;have:=nLL b2.u.lt hr;have:=nLL a6.u.lt hr;have:=nLL ba.u.lt hr;replace a8:=a8.tr0 ei;have bf:=(nLT a8.le hr)
 have:=nLL cp.lt hr;have en:=nLT (Bel.size hB.u) hr;refine zk cp.u rfl rfl M8 rfl zJ (fun w30 hq eg=>?_);replace a8:=a8.tr0 eh;replace a8:=a8.tr eg (fun g hg=> .inr (.inr (by rw[List.mem_singleton.1 hg];exact bg)));replace cp:=hq;refine waB rfl ?_;refine zk b1.u rfl rfl zq rfl zJ (fun w31 hq ef=>?_);replace a8:=a8.tr ef (fun g hg=> .inr (.inr (by rw[List.mem_singleton.1 hg];exact bf)));replace b1:=hq;refine zn4 ?_;replace hB:=((hB.tr0 (e7.trans (ei.trans eh))).tr1 eg eo).tr1 ef en;refine xk [66,67,68,69,70,71,72] 72 (.bool (decide (¬f9.1=0\/¬e8=true))) nu ?_ (fun gq=>?_)
 ·refine zn5 ?_;refine zw 69 rfl (fun dz=>?_) (fun dz=>?_)
  ·refine zn3 ?_;refine zQ (e_R ⟨rfl,agA,?_⟩);show Value.bool _=Value.bool _
   first
    | exact ac (ah (Or.inl (by first|assumption|exact dz))).symm
    | (cases e8<;>simp[dz])
  refine zn5 ?_;refine zQ (e_R ⟨rfl,agA,?_⟩);show Value.bool _=Value.bool _
  first
   | exact ac (ah (Or.inl (by first|assumption|exact dz))).symm
   | (cases e8<;>simp[dz])
 refine e_S ?_;refine zV rfl (fun c72=>?_) (fun c72=>?_)
 ·refine zn8 ?_;exact⟨rfl,hB⟩
 have er:e8=true:=aH (fun h=>c72 (.inr h));obtain⟨hky,hyz⟩:=unify_yes htw hI9 er;have hyw:(x7 l fs X9).1=0:=by rw[KV h0]at hyz;exact congrArg Prod.fst hyz
 have hyv:=(Xq h0 hyw).1;have hx2:KK l fs ({ x with gr:=X9 }:Lx)=0:=by
   obtain⟨a,b,c⟩:=R1 hx;have e:=hx;rw[Wy a b c]at e;rw[Wy (r:=({ x with gr:=X9 }:Lx)) a b hyw];exact e
 refine jz ?_;refine wl (QZ (c:=((x.gr.length+r.gr.length:Nat):Int)) rfl rfl oG oG) (zn9 ?_);replace a6:=((a6.tr0 (e7.trans (ei.trans eh))).tr1 eg oG).tr1 ef oG;have y6:=a6.lt;have y15:=b1.lt;refine zW kR (O8 AT AF ct cf l fs r x G SA BA Gx Sx Bx cg cs cb dj df dg _ (c7.mono hB) (hU.mono hB) d8 hx (db.mono hB) (hF.mono hB) (hP.mono hB) (f7.mono hB) (f3.mono hB) (f2.mono hB)) rfl (fun e' w32 hr=>?_);obtain⟨⟨dq,Y1,A51,c51,wd1,wt1,k61,i61,m61,s61,A61,B61,n61,c61,o61,d61,rfl,a9,f6,du⟩,dh⟩:=hr;replace dh:=sB dh;refine⟨_,rfl,?_⟩;refine wmT rfl (wl (y8 (v:=_) rfl rfl) (wl (y8 (v:=_) rfl rfl) (wl (y8 (v:=_) rfl rfl) ?_)));refine qk (cs:=#[.string ⟨#[]⟩,.slice none 0 0,.int .i64 0,.int .i64 0,.string ⟨#[]⟩,.int .i64 0,.string ⟨#[]⟩,.slice none 0 0,.slice none 0 0]) YQ rfl (fun b17 w33 c4 dp hr=>?_);have:=nLL an.u.lt hr;have:=nLL b2.u.lt hr;have:=nLL a6.u.lt hr;have:=nLL ba.u.lt hr;replace a8:=a8.tr0 dh;have be:=(nLT a8.le hr)
 have:=nLL cp.u.lt hr;have:=nLL b1.u.lt hr;have bn:=(nLT a9.le hr)
 have em:=nLT (Bel.size hB.u) hr;refine qk (cs:=#[.int .i64 0,.int .i64 0]) qK rfl (fun b19 w34 dx dn hr=>?_);have:=nLL an.u.lt hr;have:=nLL b2.u.lt hr;have:=nLL a6.u.lt hr;have:=nLL ba.u.lt hr;replace a8:=a8.tr0 dp;have bc:=(nLT a8.le hr)
 have:=nLL cp.u.lt hr;have:=nLL b1.u.lt hr;replace a9:=a9.tr0 dp;have bm:=(nLT a9.le hr)
 have:=nLL c4.lt hr;have el:=nLT (Bel.size hB.u) hr;refine zk c4.u rfl rfl j6 rfl zJ (fun w35 hq dm=>?_);replace a8:=a8.tr0 dn;replace a8:=a8.tr dm (fun g hg=> .inr (.inr (by rw[List.mem_singleton.1 hg];exact be)));replace a9:=a9.tr0 dn;replace a9:=a9.tr dm (fun g hg=> .inr (.inr (by rw[List.mem_singleton.1 hg];exact bn)));replace c4:=hq;refine waB rfl ?_;refine zk dx.u rfl rfl zq rfl zJ (fun w36 hq dk=>?_);replace a8:=a8.tr dk (fun g hg=> .inr (.inr (by rw[List.mem_singleton.1 hg];exact bc)));replace a9:=a9.tr dk (fun g hg=> .inr (.inr (by rw[List.mem_singleton.1 hg];exact bm)));replace dx:=hq;refine zn6 ?_;replace a6:=((a6.tr0 (dh.trans (dp.trans dn))).tr1 dm oG).tr1 dk oG;refine Vq a6 rfl rfl M8 (by first|decide|simp) zJ rfl (fun w37 hq e6=>?_);replace a8:=a8.lo1 e6 l69;replace a9:=a9.lo1 e6 y6;replace a6:=hq;replace a6:Blk w37 b6 38 #[.string x.word,.slice A9 (List.length X9) X9.length,.int .i64 x.wt,.int .i64 (x.mean).kind,.string (x.mean).name,.int .i64 (x.mean).index,.string (x.mean).type.base,.slice Sx (x.mean).type.args.length df,.slice Bx (x.mean).args.length dg]:=a6;refine zn7 ?_;replace b1:=(((b1.tr0 (dh.trans (dp.trans dn))).tr1 dm oG).tr1 dk oG).tr1 e6 oG;have x15:=b1.lt;refine zW kR (O8 AT AF ct cf l fs r ({ x with gr:=X9 }:Lx) G SA BA A9 Sx Bx cg cs cb X9.length df dg _ (c7.mono hB.u) (hU.mono hB.u) d8 hx2 (db.mono hB.u) (hF.mono hB.u) (hP.mono hB.u) a8.now (f3.mono hB.u) (f2.mono hB.u)) rfl (fun e' w38 hr=>?_);obtain⟨⟨di,Y2,A52,c52,wd2,wt2,k62,i62,m62,s62,A62,B62,n62,c62,o62,d62,rfl,co,f5,dr⟩,e5⟩:=hr;replace e5:=sB e5;refine⟨_,rfl,?_⟩;refine wmT rfl (wl (y8 (v:=_) rfl rfl) (wl (y8 (v:=_) rfl rfl) (wl (y8 (v:=_) rfl rfl) ?_)));refine qk (cs:=#[.string ⟨#[]⟩,.slice none 0 0,.int .i64 0,.int .i64 0,.string ⟨#[]⟩,.int .i64 0,.string ⟨#[]⟩,.slice none 0 0,.slice none 0 0]) YQ rfl (fun b20 w39 cw ee hr=>?_);have:=nLL an.u.lt hr;have:=nLL b1.u.lt hr;replace a9:=a9.tr0 e5;have bk:=(nLT a9.le hr)
 have:=nLL c4.u.lt hr;have bi:=(nLT co.le hr)
 have ek:=nLT (Bel.size hB.u) hr;refine qk (cs:=#[.int .i64 0,.int .i64 0]) qK rfl (fun b22 w40 dw ed hr=>?_);have:=nLL an.u.lt hr;have:=nLL b1.u.lt hr;replace a9:=a9.tr0 ee;have bj:=(nLT a9.le hr)
 have:=nLL c4.u.lt hr;replace co:=co.tr0 ee;have bh:=(nLT co.le hr)
 have:=nLL cw.lt hr;have ej:=nLT (Bel.size hB.u) hr;refine zk cw.u rfl rfl j6 rfl zJ (fun w41 hq ec=>?_);replace a9:=a9.tr0 ed;replace a9:=a9.tr ec (fun g hg=> .inr (.inr (by rw[List.mem_singleton.1 hg];exact bk)));replace co:=co.tr0 ed;replace co:=co.tr ec (fun g hg=> .inr (.inr (by rw[List.mem_singleton.1 hg];exact bi)));replace cw:=hq;refine waB rfl ?_;refine zk dw.u rfl rfl zq rfl zJ (fun w42 hq eb=>?_);replace a9:=a9.tr eb (fun g hg=> .inr (.inr (by rw[List.mem_singleton.1 hg];exact bj)));replace co:=co.tr eb (fun g hg=> .inr (.inr (by rw[List.mem_singleton.1 hg];exact bh)));replace dw:=hq;refine zn4 ?_;obtain⟨et,es⟩:=lxr_mono hJ hgx hyv hky f6 f5;replace hB:=((((((hB.tr0 (dh.trans (dp.trans dn))).tr1 dm em).tr1 dk el).tr1 e6 lo6).tr0 (e5.trans (ee.trans ed))).tr1 ec ek).tr1 eb ej;refine xk [101,102,103,104,105,106] 106 (.bool (decide (dq=false\/di=false))) nu ?_ (fun gq=>?_)
 ·refine zn4 ?_;refine Qk 103 rfl (fun cu=>?_) (fun cu=>?_)
  ·refine zn3 ?_;refine zQ (e_R ⟨rfl,agA,?_⟩);show Value.bool _=Value.bool _
   first
    | exact ac (ah (Or.inl (by simpa using cu))).symm
    | (have h5:dq=true:=by simpa using cu
       cases di<;>simp[h5])
  refine zn5 ?_;refine zQ (e_R ⟨rfl,agA,?_⟩);show Value.bool _=Value.bool _
  first
   | exact ac (ah (Or.inl (by simpa using cu))).symm
   | (have h5:dq=true:=by simpa using cu
      cases di<;>simp[h5])
 refine e_S ?_;refine zV rfl (fun d3=>?_) (fun d3=>?_)
 ·refine xy ?_;have dv:di=true->60<r.gr.length+x.gr.length:=fun h=>et h (by rcases d3 with h2|h2;exact h2;rw[h]at h2;cases h2)
  refine xk [8,107,108,109,110,111] 8 (.bool (decide (True))) nu ?_ (fun gq=>?_)
  ·refine zn4 ?_;refine Qk 109 rfl (fun de=>?_) (fun de=>?_)
   ·refine zn3 ?_;refine zQ (e_R ⟨rfl,agA,?_⟩);show Value.bool _=Value.bool _
    first
     | exact ac (ah True.intro).symm
     | (have h5:=dv (by simpa using de);exact ac (ai.2 ⟨fun _=>trivial,fun _=>by omega⟩))
   refine zn4 ?_;refine zQ (e_R ⟨rfl,agA,?_⟩);show Value.bool _=Value.bool _
   first
    | exact ac (ah True.intro).symm
    | (have h5:=dv (by simpa using de);exact ac (ai.2 ⟨fun _=>trivial,fun _=>by omega⟩))
  refine zn4 ?_;exact⟨rfl,hB⟩
 have da:dq=true:=by cases h:dq with
   | true=>rfl
   | false=>exact absurd (.inl h) d3
 have d9:di=true:=by cases h:di with
   | true=>rfl
   | false=>exact absurd (.inr h) d3
 obtain⟨hmm,hv1,hv2⟩:=es da d9;have htz:=tw_mk hv1 hv2;have hsub:Fy l fs Y1 Y2=true:=by rw[Fw htz];exact ah hmm
 have hwq:wd1=wd2:=(du da).1.trans (dr d9).1.symm;have hwr:wt1=wt2:=(du da).2.trans (dr d9).2.symm;refine zn6 ?_;refine wl (qZ U28 rfl rfl (c4.u.sub (n:=1) (xs:=[_]) rfl) M8) (zn1 ?_);refine wl (qZ U28 rfl rfl (cw.u.sub (n:=1) (xs:=[_]) rfl) M8) ?_;refine zW kR (subs_any AT AF A51 A52 ct cf c51 c52 l fs Y1 Y2 _ (c7.mono hB) (db.mono hB) (hF.mono hB) a9.now co.now) rfl (fun e' w43 hr=>?_);obtain⟨rfl,q44⟩:=hr;replace q44:=sB q44;refine⟨_,rfl,?_⟩;refine wmT rfl (wl (y8 (v:= .bool _) rfl rfl) (wl (y8 (v:= .agg _) rfl rfl) (waB rfl ?_)));refine zk b1.u rfl rfl zq rfl zJ (fun w44 hq q45=>?_);replace b1:=hq;refine zn7 ?_;refine wl (xz (v:= .bool true) (ac (ah htz))) (zn3 ?_);refine wl (xz (v:= .bool true) (ac hsub)) (kQ ?_);refine wl (xz (v:= .bool true) (ac (ah hwq))) (kQ ?_);refine wl (gk (v:= .bool true) (ac (ah hwr))) (zn4 ?_);exact⟨rfl,hB.u⟩
section
section
variable {H:Type} {enc:TypeId×Value->H} {P:Program} {w:World} {base:Nat} {spare:Nat->Bool} {held:Bool}
theorem links_open{t e ti:TypeId}{f0 f1:Field}{a1:Nat}{v:Value}{x:DataW H×List MemPlace}(ht:P.underlying t=some (.slice e))(he:P.underlying e=some (.struct #[f0,f1]))(hsz:P.cellsOf e=2)(o0:f0.offset=0)(o1:f1.offset=1)(e0:f0.type=ti)(e1:f1.type=ti)
  (hi:P.underlying ti=some (.int .i64)) (hc1:P.cellsOf ti=1) (h:DataW.trod enc P w base spare held a1 t [v]=some x):
  ∃ A xs c,v= .slice A (List.length xs) c/\xs.length<=c/\LinksIn w A xs:=by
 obtain⟨A,len,c,rfl,hl,hm,hx⟩:=Nz ht hsz dE h;by_cases h0:len=0
 ·subst h0
  exact⟨A,[],c,rfl,ag _,ag _,fun h=>absurd rfl h⟩
 ·obtain⟨b,o,rfl,hlt,hc⟩:=hx h0
  obtain⟨xs,hxl,hxs⟩:=oZ (p:=fun i (z:Int×Int)=>w.rangeAt b (o+i*2) [.int .i64 z.1,.int .i64 z.2]) (n:=len) (fun i hi'=>by
   obtain⟨cs,k,y,h1,h2,h3⟩:=hc i hi';obtain⟨v0,v1,n,y0,y1,rfl,g0,g1⟩:=Eq he h1 o0 o1 (by rw[e0];exact hc1) (by rw[e1];exact hc1) h3;rw[e0]at g0;rw[e1]at g1;obtain⟨z1,h5,_,_⟩:=DataW.trod_int hi g0;obtain⟨z2,h6,_,_⟩:=DataW.trod_int hi g1;rw[kV h5,kV h6]at h2
   exact⟨(z1,z2),h2⟩)
  subst hxl;exact⟨_,xs,c,rfl,hl,nLT hl hm,fun _=>⟨b,o,rfl,hlt,hxs⟩⟩
theorem DZ{t e ti tl te:TypeId}{f0 f1 g0 g1:Field}{a1:Nat}{v:Value}{x:DataW H×List MemPlace}(ht:P.underlying t=some (.slice e))(he:P.underlying e=some (.struct #[f0,f1]))(hsz:P.cellsOf e=2)(o0:f0.offset=0)(o1:f1.offset=1)(e0:f0.type=ti)(e1:f1.type=tl)
  (htl:P.underlying tl=some (.slice te)) (hte:P.underlying te=some (.struct #[g0,g1])) (hst:P.cellsOf te=2) (p0:g0.offset=0) (p1:g1.offset=1) (d0:g0.type=ti) (d1:g1.type=ti) (hcl:P.cellsOf tl=1)
  (hi:P.underlying ti=some (.int .i64)) (hc1:P.cellsOf ti=1) (h:DataW.trod enc P w base spare held a1 t [v]=some x):
  ∃ A gr c,v= .slice A (List.length gr) c/\gr.length<=c/\NodesIn w A gr:=by
 obtain⟨A,len,c,rfl,hl,hm,hx⟩:=Nz ht hsz dE h;by_cases h0:len=0
 ·subst h0
  exact⟨A,[],c,rfl,ag _,ag _,fun h=>absurd rfl h⟩
 ·obtain⟨b,o,rfl,hlt,hc⟩:=hx h0
  obtain⟨gr,hxl,hxs⟩:=oZ (p:=fun i (z:Nd)=>NdIn w b (o+i*2) z) (n:=len) (fun i hi'=>by
   obtain⟨cs,k,y,h1,h2,h3⟩:=hc i hi';obtain⟨v0,v1,n,y0,y1,rfl,q0,q1⟩:=Eq he h1 o0 o1 (by rw[e0];exact hc1) (by rw[e1];exact hcl) h3;rw[e0]at q0;rw[e1]at q1;obtain⟨z1,h5,_,_⟩:=DataW.trod_int hi q0;obtain⟨A',xs,c',rfl,_,hin⟩:=links_open htl hte hst p0 p1 d0 d1 hi hc1 q1;rw[kV h5]at h2
   exact⟨⟨z1,xs⟩,A',c',h2,hin⟩)
  subst hxl;exact⟨_,gr,c,rfl,hl,nLT hl hm,fun _=>⟨b,o,rfl,hlt,hxs⟩⟩
theorem one_cell{e:TypeId}{f0:Field}{a1:Nat}{cs:List Value}{x:DataW H×List MemPlace}(he:P.underlying e=some (.struct #[f0]))(hl:cs.length=1)(o0:f0.offset=0)(c0:P.cellsOf f0.type=1)(h:DataW.trod enc P w base spare held a1 e cs=some x):
  ∃ v0 n y0,cs= [v0]/\DataW.trod enc P w base spare held n f0.type [v0]=some y0:=by
 obtain⟨y0,n,_,_,h0⟩:=trod_struct1 he h
 match cs,hl with
 | [v0],_=>
  simp[o0,c0]at h0;exact⟨v0,n,y0,rfl,h0⟩
end
end
section
section
variable {H:Type} {enc:TypeId×Value->H} {P:Program} {w:World} {base:Nat} {spare:Nat->Bool} {held:Bool}
def Lw(P:Program)(t:TypeId)(d:DataW H):Prop:=∀ n∈d.weights P t,n<=reachBytes
theorem Oz{e:TypeId}:∀ {l:List (DataW H)} {d:DataW H},d∈l->∀ n∈d.weights P e,n∈DataW.weightsAll P e l
 | [],_,h,_,_=>nomatch h
 | a::r,d,h,n,hn=>by
  simp only[DataW.weightsAll,List.mem_append]
  rcases ap.1 h with rfl|h
  ·exact .inl hn
  ·exact .inr (Oz h n hn)
theorem flds{t:TypeId}{fs:Array Field}{a1:Nat}{cs:List Value}{x:DataW H×List MemPlace}(ht:P.underlying t=some (.struct fs))(h:DataW.trod enc P w base spare held a1 t cs=some x):
  ∃ n,n<a1/\cs.length=P.cellsOf t/\∀(i:Nat) (f:Field),fs[i]? =some f->∃ y,DataW.trod enc P w base spare held n f.type ((cs.drop f.offset).take (P.cellsOf f.type))=some y/\(Lw P t x.1->Lw P f.type y.1):=by
 obtain⟨xs,n,rfl,rfl,hl,a2,hf⟩:=DataW.trod_struct ht h;refine⟨n,aG n,hl,fun i f hi=>?_⟩;have hil:i<xs.length:=by rw[a2];exact(Array.getElem?_eq_some_iff.1 hi).1
 have h1:=hf i f hi;rw[List.getElem?_eq_getElem hil]at h1;refine⟨xs[i],h1,fun hw m hm=>hw m ?_⟩;show m∈DataW.weights P t (.agg (xs.map (·.1)));simp only[DataW.weights,ht];refine DataW.weights_mem_each (j:=i) (t:=f.type) (d:=(xs[i]).1) ?_ ?_ m hm
 ·rw[List.getElem?_map,Array.getElem?_toList,hi];rfl
 ·rw[List.getElem?_map,List.getElem?_eq_getElem hil];rfl
theorem slF{t e:TypeId}{sz a1:Nat}{v:Value}{x:DataW H×List MemPlace}(ht:P.underlying t=some (.slice e))(hsz:P.cellsOf e=sz)(a2:0<sz)(h:DataW.trod enc P w base spare held a1 t [v]=some x):
  ∃ A len c,v= .slice A len c/\len<=c/\c<=jx/\(len≠0->∃ b o,A=some ⟨b,o,none⟩/\b<w.heap.size/\∀ i,i<len->∃ cs k y,k<a1/\cs.length=sz/\w.rangeAt b (o+i*sz) cs/\DataW.trod enc P w base spare held k e cs=some y/\(Lw P t x.1->Lw P e y.1)):=by
 rcases DataW.trod_slice ht h with ⟨hc,_⟩|⟨a,len,cap,elems,rest,n,rfl,hc,rfl,hb,hl,hm,hlen,hel,_⟩
 ·rw[kV hc]
  exact⟨none,0,0,rfl,ae _,ag _,fun h=>absurd rfl h⟩
 ·rw[kV hc]
  rw[hsz]at hel;have hi:∀ i (hi:i<len),∃ cs',w.cells? base (a.add (i*sz)) sz=some cs'/\DataW.trod enc P w base spare held n e cs'=some (elems[i]'oG):=fun i hi=>by
   have key:=hel i hi;rw[List.getElem?_eq_getElem oG]at key;exact Option.bind_eq_some_iff.1 key
  refine⟨some a,len,cap,rfl,hl,hm,fun h0=>?_⟩;obtain⟨b,o,s⟩:=a;have hsp:s=none/\b<w.heap.size:=by
   obtain⟨cs,h1,_⟩:=hi 0 oG;obtain⟨_,h3,h4⟩:=World.cells?_some h1;have h5:=h4 0 a2;have h6:cs[0]? =some (cs[0]'oG):=aJ oG;have h7:(Addr.add (Addr.add ⟨b,o,s⟩ (0*sz)) 0)=⟨b,o,s⟩:=by simp[Addr.add]
   rw[h7,h6]at h5;exact⟨World.cell?_spot h5,Go.Clock.block_lt h5⟩
  obtain⟨rfl,hlt⟩:=hsp;refine⟨b,o,rfl,hlt,fun i hil=>?_⟩;obtain⟨cs,h1,h2⟩:=hi i oG;obtain⟨_,h3,h4⟩:=World.cells?_some h1;refine⟨cs,n,_,aG n,h3,fun j v hj=>?_,h2,fun hw m hm=>hw m ?_⟩
  ·have hjl:=(av.1 hj).1
   have h5:=h4 j oG;rw[Addr.add_mid,Addr.add_mid]at h5;rw[h5];exact hj
  ·show m∈DataW.weights P t (.slice (elems.map (·.1)) (rest.map (·.1)))
   simp only[DataW.weights,ht,List.mem_cons,List.mem_append];exact .inr (.inl (Oz (au.2 ⟨_,ar oG,rfl⟩) m hm))
theorem Xk{t:TypeId}{a1:Nat}{v:Value}{x:DataW H×List MemPlace}(ht:P.underlying t=some .string)(h:DataW.trod enc P w base spare held a1 t [v]=some x):∃ s:ByteArray,v= .string s/\(Lw P t x.1->s.size<9223372036854775807):=by
 obtain⟨s,h1,rfl,_⟩:=DataW.trod_string ht h;refine⟨s,kV h1,fun hw=>?_⟩;have:=hw s.data.toList.length (by simp[DataW.weights]);have h2:s.data.toList.length=s.size:=Array.length_toList;unfold reachBytes at this;omega
structure SmT(P:Program)(e ts tstr:TypeId)(f0 f1:Field):Prop where
 he:P.underlying e=some (.struct #[f0,f1])
 hsz:P.cellsOf e=2
 o0:f0.offset=0
 o1:f1.offset=1
 e0:f0.type=tstr
 e1:f1.type=ts
 hts:P.underlying ts=some (.slice e)
 hs:P.underlying tstr=some .string
 cs:P.cellsOf tstr=1
 ct:P.cellsOf ts=1
theorem sims_open{e ts a2:TypeId}{f0 f1:Field}(T:SmT P e ts a2 f0 f1):∀(a1:Nat) (v:Value) (x:DataW H×List MemPlace),DataW.trod enc P w base spare held a1 ts [v]=some x->∃ A l c,v= .slice A (List.length l) c/\l.length<=c/\SimsIn w A l:=by
 intro a1
 induction a1 using Nat.strongRecOn with
 | ind a1 ih=>
  intro v x h;obtain⟨A,len,c,rfl,hl,hm,hx⟩:=slF T.hts T.hsz dE h;by_cases h0:len=0
  ·subst h0
   exact⟨A,[],c,rfl,ag _,.nil⟩
  ·obtain⟨b,o,rfl,hlt,hc⟩:=hx h0
   obtain⟨l,hxl,hxs⟩:=oZ (p:=fun i (z:Sm)=>SimAt w b (o+i*2) z) (n:=len) (fun i hi=>by
    obtain⟨cs,k,y,hk,h1,h2,h3,_⟩:=hc i hi;obtain⟨n,hn,hlc,hf⟩:=flds T.he h3;obtain⟨y0,g0,_⟩:=hf 0 f0 rfl;obtain⟨y1,g1,_⟩:=hf 1 f1 rfl
    match cs,h1 with
    | [v0,v1],_=>
     rw[T.e0,T.o0,T.cs]at g0;rw[T.e1,T.o1,T.ct]at g1;obtain⟨s,rfl,_⟩:=Xk T.hs (show DataW.trod enc P w base spare held n a2 [v0]=some y0 from g0);obtain⟨A',l',c',rfl,_,hin⟩:=ih n oG v1 y1 g1
     exact⟨.mk s l',.mk hlt h2 hin⟩)
   subst hxl;exact⟨_,l,c,rfl,hl,.more (nLT hl hm) hlt hxs⟩
theorem sim_open{e ts a1:TypeId}{f0 f1:Field}(T:SmT P e ts a1 f0 f1){a2:Nat}{v0 v1:Value}{x:DataW H×List MemPlace}(h:DataW.trod enc P w base spare held a2 e [v0,v1]=some x):∃(s:Sm) (A:Option Addr) (c:Nat),v0= .string s.base/\v1= .slice A s.args.length c/\SimsIn w A s.args:=by
 obtain⟨n,hn,hlc,hf⟩:=flds T.he h;obtain⟨y0,g0,_⟩:=hf 0 f0 rfl;obtain⟨y1,g1,_⟩:=hf 1 f1 rfl;rw[T.e0,T.o0,T.cs]at g0;rw[T.e1,T.o1,T.ct]at g1;obtain⟨s,rfl,_⟩:=Xk T.hs (show DataW.trod enc P w base spare held n a1 [v0]=some y0 from g0);obtain⟨A',l',c',rfl,_,hin⟩:=sims_open T n v1 y1 g1;exact⟨.mk s l',A',c',rfl,rfl,hin⟩
structure TmT(P:Program)(m tm ti tstr e ts:TypeId)(f0 f1:Field)(g0 g1 g2 g3 g4:Field):Prop where
 S:SmT P e ts tstr f0 f1
 he:P.underlying m=some (.struct #[g0,g1,g2,g3,g4])
 hsz:P.cellsOf m=6
 o0:g0.offset=0
 o1:g1.offset=1
 o2:g2.offset=2
 o3:g3.offset=3
 o4:g4.offset=5
 e0:g0.type=ti
 e1:g1.type=tstr
 e2:g2.type=ti
 e3:g3.type=e
 e4:g4.type=tm
 htm:P.underlying tm=some (.slice m)
 hi:P.underlying ti=some (.int .i64)
 ci:P.cellsOf ti=1
 ct:P.cellsOf tm=1
section tm
variable {m tm ti tstr e ts:TypeId} {f0 f1 g0 g1 g2 g3 g4:Field}
theorem RY(T:TmT P m tm ti tstr e ts f0 f1 g0 g1 g2 g3 g4){a1:Nat}{cs:List Value}{x:DataW H×List MemPlace}(hl:cs.length=6)(h:DataW.trod enc P w base spare held a1 m cs=some x):
  ∃(k i:Int) (nm:ByteArray) (s:Sm) (A:Option Addr) (c:Nat) (v:Value) (n:Nat) (y:DataW H×List MemPlace),n<a1/\cs= [.int .i64 k,.string nm,.int .i64 i,.string s.base,.slice A s.args.length c,v]/\SimsIn w A s.args/\DataW.trod enc P w base spare held n tm [v]=some y:=by
 obtain⟨n,hn,hlc,hf⟩:=flds T.he h;obtain⟨y0,q0,_⟩:=hf 0 g0 rfl;obtain⟨y1,q1,_⟩:=hf 1 g1 rfl;obtain⟨y2,q2,_⟩:=hf 2 g2 rfl;obtain⟨y3,q3,_⟩:=hf 3 g3 rfl;obtain⟨y4,q4,_⟩:=hf 4 g4 rfl
 match cs,hl with
 | [v0,v1,v2,v3,v4,v5],_=>
  rw[T.e0,T.o0,T.ci]at q0;rw[T.e1,T.o1,T.S.cs]at q1;rw[T.e2,T.o2,T.ci]at q2;rw[T.e3,T.o3,T.S.hsz]at q3;rw[T.e4,T.o4,T.ct]at q4;obtain⟨k,h5,_,_⟩:=DataW.trod_int T.hi (show DataW.trod enc P w base spare held n ti [v0]=some y0 from q0);obtain⟨nm,rfl,_⟩:=Xk T.S.hs (show DataW.trod enc P w base spare held n tstr [v1]=some y1 from q1);obtain⟨i,h6,_,_⟩:=DataW.trod_int T.hi (show DataW.trod enc P w base spare held n ti [v2]=some y2 from q2);obtain⟨s,A,c,rfl,rfl,hS⟩:=sim_open T.S (show DataW.trod enc P w base spare held n e [v3,v4]=some y3 from q3);rw[kV h5,kV h6];exact⟨k,i,nm,s,A,c,v5,n,y4,hn,rfl,hS,q4⟩
theorem tms_open(T:TmT P m tm ti tstr e ts f0 f1 g0 g1 g2 g3 g4):∀(a1:Nat) (v:Value) (x:DataW H×List MemPlace),DataW.trod enc P w base spare held a1 tm [v]=some x->∃ A l c,v= .slice A (List.length l) c/\l.length<=c/\TmsIn w A l:=by
 intro a1
 induction a1 using Nat.strongRecOn with
 | ind a1 ih=>
  intro v x h;obtain⟨A,len,c,rfl,hl,hm,hx⟩:=slF T.htm T.hsz dE h;by_cases h0:len=0
  ·subst h0
   exact⟨A,[],c,rfl,ag _,.nil⟩
  ·obtain⟨b,o,rfl,hlt,hc⟩:=hx h0
   obtain⟨l,hxl,hxs⟩:=oZ (p:=fun i (z:Tm)=>TmAt w b (o+i*6) z) (n:=len) (fun i hi=>by
    obtain⟨cs,k,y,hk,h1,h2,h3,_⟩:=hc i hi;obtain⟨kd,ix,nm,s,A1,c1,v',n,y',hn,rfl,hS,h4⟩:=RY T h1 h3;obtain⟨A',l',c',rfl,_,hin⟩:=ih n oG v' y' h4
    exact⟨.mk kd nm ix s l',.mk hlt h2 hS hin⟩)
   subst hxl;exact⟨_,l,c,rfl,hl,.more (nLT hl hm) hlt hxs⟩
theorem tm_open(T:TmT P m tm ti tstr e ts f0 f1 g0 g1 g2 g3 g4){a1:Nat}{cs:List Value}{x:DataW H×List MemPlace}(hl:cs.length=6)(h:DataW.trod enc P w base spare held a1 m cs=some x):
  ∃(t:Tm) (A:Option Addr) (c:Nat) (B:Option Addr) (d:Nat),cs= [.int .i64 t.kind,.string t.name,.int .i64 t.index,.string t.type.base,.slice A t.type.args.length c,.slice B t.args.length d]/\SimsIn w A t.type.args/\TmsIn w B t.args:=by
 obtain⟨kd,ix,nm,s,A1,c1,v',n,y',hn,rfl,hS,h4⟩:=RY T hl h;obtain⟨A',l',c',rfl,_,hin⟩:=tms_open T n v' y' h4;exact⟨.mk kd nm ix s l',A1,c1,A',c',rfl,hS,hin⟩
end tm
structure GrfT(P:Program)(tg tn e ti tl te:TypeId)(q0 f0 f1 g0 g1:Field):Prop where
 hg:P.underlying tg=some (.struct #[q0])
 hgz:P.cellsOf tg=1
 r0:q0.offset=0
 s0:q0.type=tn
 hcn:P.cellsOf tn=1
 htn:P.underlying tn=some (.slice e)
 he:P.underlying e=some (.struct #[f0,f1])
 hsz:P.cellsOf e=2
 o0:f0.offset=0
 o1:f1.offset=1
 e0:f0.type=ti
 e1:f1.type=tl
 htl:P.underlying tl=some (.slice te)
 hte:P.underlying te=some (.struct #[g0,g1])
 hst:P.cellsOf te=2
 p0:g0.offset=0
 p1:g1.offset=1
 d0:g0.type=ti
 d1:g1.type=ti
 hcl:P.cellsOf tl=1
 hi:P.underlying ti=some (.int .i64)
 hc1:P.cellsOf ti=1
theorem gr_open{tg tn e ti tl te:TypeId}{q0 f0 f1 g0 g1:Field}(T:GrfT P tg tn e ti tl te q0 f0 f1 g0 g1){a1:Nat}{v:Value}{x:DataW H×List MemPlace}(h:DataW.trod enc P w base spare held a1 tg [v]=some x):∃ A gr c,v= .slice A (List.length gr) c/\NodesIn w A gr:=by
 obtain⟨v0,n,y0,h1,h2⟩:=one_cell T.hg rfl T.r0 (by rw[T.s0];exact T.hcn) h;rw[T.s0]at h2;obtain⟨A,gr,c,rfl,_,hin⟩:=DZ T.htn T.he T.hsz T.o0 T.o1 T.e0 T.e1 T.htl T.hte T.hst T.p0 T.p1 T.d0 T.d1 T.hcl T.hi T.hc1 h2;exact⟨A,gr,c,kV h1,hin⟩
section rl
variable {m tm ti tstr e ts:TypeId} {f0 f1 g0 g1 g2 g3 g4:Field} {tg tn te' tl tk:TypeId} {q0 a0 a1 b0 b1:Field}
end rl
theorem lw_arg{ts:List TypeId}{ds:List (DataW H)}(h:(DataW.weightsEach P ts ds).all (·<=reachBytes)=true){j:Nat}{t:TypeId}{d:DataW H}(ht:ts[j]? =some t)(hd:ds[j]? =some d):Lw P t d:=fun n hn=>by
 have:=aD.1 h _ (DataW.weights_mem_each ht hd n hn)
 simpa using this
end
end
section
section
variable {H:Type} {enc:TypeId×Value->H} {P:Program} {w:World} {base:Nat} {spare:Nat->Bool} {held:Bool}
variable {m tm ti tstr e ts:TypeId} {f0 f1 g0 g1 g2 g3 g4:Field} {tg tn te' tl tk:TypeId} {q0 a0 a1 b0 b1:Field}
theorem lr_open{r:TypeId}{x0 x1 x2 x3 x4 x5:Field}(T:TmT P m tm ti tstr e ts f0 f1 g0 g1 g2 g3 g4)(G:GrfT P tg tn te' ti tl tk q0 a0 a1 b0 b1)(hr:P.underlying r=some (.struct #[x0,x1,x2,x3,x4,x5]))
  (o0:x0.offset=0) (o1:x1.offset=1) (o2:x2.offset=2) (o3:x3.offset=3) (o4:x4.offset=4) (o5:x5.offset=5) (t0:x0.type=tstr) (t1:x1.type=tstr) (t2:x2.type=tstr) (t3:x3.type=tg) (t4:x4.type=ti) (t5:x5.type=m) {a3:Nat} {v0 v1 v2 v3 v4 v5 v6 v7 v8 v9 a2:Value} {x:DataW H×List MemPlace} (hw:Lw P r x.1) (h:DataW.trod enc P w base spare held a3 r [v0,v1,v2,v3,v4,v5,v6,v7,v8,v9,a2]=some x):
  ∃(z:Lr) (B A2 B2:Option Addr) (d c2 d2:Nat),[v0,v1,v2,v3,v4,v5,v6,v7,v8,v9,a2]= [.string z.name,.string z.cut,.string z.add,.slice B z.gr.length d,.int .i64 z.wt,.int .i64 z.mean.kind,.string z.mean.name,.int .i64 z.mean.index,.string z.mean.type.base,.slice A2 z.mean.type.args.length c2,.slice B2 z.mean.args.length d2]/\LrP w z B A2 B2:=by
 obtain⟨n,hn,hlc,hf⟩:=flds hr h;obtain⟨y0,p0,_⟩:=hf 0 x0 rfl;obtain⟨y1,p1,w1⟩:=hf 1 x1 rfl;obtain⟨y2,p2,w2⟩:=hf 2 x2 rfl;obtain⟨y3,p3,_⟩:=hf 3 x3 rfl;obtain⟨y4,p4,_⟩:=hf 4 x4 rfl;obtain⟨y5,p5,_⟩:=hf 5 x5 rfl;rw[t0,o0,T.S.cs]at p0;rw[t1,o1,T.S.cs]at p1;rw[t2,o2,T.S.cs]at p2;rw[t1]at w1;rw[t2]at w2;rw[t3,o3,G.hgz]at p3;rw[t4,o4,T.ci]at p4;rw[t5,o5,T.hsz]at p5;obtain⟨nm,rfl,_⟩:=Xk T.S.hs (show DataW.trod enc P w base spare held n tstr [v0]=some y0 from p0);obtain⟨ct,rfl,hc⟩:=Xk T.S.hs (show DataW.trod enc P w base spare held n tstr [v1]=some y1 from p1);obtain⟨ad,rfl,ha⟩:=Xk T.S.hs (show DataW.trod enc P w base spare held n tstr [v2]=some y2 from p2);obtain⟨B,gr,d,rfl,hG⟩:=gr_open G (show DataW.trod enc P w base spare held n tg [v3]=some y3 from p3);obtain⟨wt,h6,_,_⟩:=DataW.trod_int T.hi (show DataW.trod enc P w base spare held n ti [v4]=some y4 from p4);obtain⟨tt,A2,c2,B2,d2,h7,hS,hT⟩:=tm_open T rfl (show DataW.trod enc P w base spare held n m [v5,v6,v7,v8,v9,a2]=some y5 from p5);rw[kV h6,h7];exact⟨⟨nm,ct,ad,gr,wt,tt⟩,B,A2,B2,d,c2,d2,rfl,⟨hG,hS,hT,hc (w1 hw),ha (w2 hw)⟩⟩
theorem lx_open{r:TypeId}{x0 x1 x2 x3:Field}(T:TmT P m tm ti tstr e ts f0 f1 g0 g1 g2 g3 g4)(G:GrfT P tg tn te' ti tl tk q0 a0 a1 b0 b1)(hr:P.underlying r=some (.struct #[x0,x1,x2,x3]))
  (o0:x0.offset=0) (o1:x1.offset=1) (o2:x2.offset=2) (o3:x3.offset=3) (t0:x0.type=tstr) (t1:x1.type=tg) (t2:x2.type=ti) (t3:x3.type=m) {a2:Nat} {v0 v1 v2 v3 v4 v5 v6 v7 v8:Value} {x:DataW H×List MemPlace} (hw:Lw P r x.1) (h:DataW.trod enc P w base spare held a2 r [v0,v1,v2,v3,v4,v5,v6,v7,v8]=some x):
  ∃(z:Lx) (B A2 B2:Option Addr) (d c2 d2:Nat),[v0,v1,v2,v3,v4,v5,v6,v7,v8]= [.string z.word,.slice B z.gr.length d,.int .i64 z.wt,.int .i64 z.mean.kind,.string z.mean.name,.int .i64 z.mean.index,.string z.mean.type.base,.slice A2 z.mean.type.args.length c2,.slice B2 z.mean.args.length d2]/\z.word.size<9223372036854775807/\NodesIn w B z.gr/\SimsIn w A2 z.mean.type.args/\TmsIn w B2 z.mean.args:=by
 obtain⟨n,hn,hlc,hf⟩:=flds hr h;obtain⟨y0,p0,hw0⟩:=hf 0 x0 rfl;obtain⟨y1,p1,_⟩:=hf 1 x1 rfl;obtain⟨y2,p2,_⟩:=hf 2 x2 rfl;obtain⟨y3,p3,_⟩:=hf 3 x3 rfl;rw[t0,o0,T.S.cs]at p0;rw[t0]at hw0;rw[t1,o1,G.hgz]at p1;rw[t2,o2,T.ci]at p2;rw[t3,o3,T.hsz]at p3;obtain⟨nm,rfl,hws⟩:=Xk T.S.hs (show DataW.trod enc P w base spare held n tstr [v0]=some y0 from p0);obtain⟨B,gr,d,rfl,hG⟩:=gr_open G (show DataW.trod enc P w base spare held n tg [v1]=some y1 from p1);obtain⟨wt,h6,_,_⟩:=DataW.trod_int T.hi (show DataW.trod enc P w base spare held n ti [v2]=some y2 from p2);obtain⟨tt,A2,c2,B2,d2,h7,hS,hT⟩:=tm_open T rfl (show DataW.trod enc P w base spare held n m [v3,v4,v5,v6,v7,v8]=some y3 from p3);rw[kV h6,h7];exact⟨⟨nm,gr,wt,tt⟩,B,A2,B2,d,c2,d2,rfl,hws (hw0 hw),hG,hS,hT⟩
end
end
end Go.Proofs.YtiofaflajkgiaaaGreatDoor
