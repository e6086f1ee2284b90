/- What these functions compute, at every world: law3.LexruleApplyMatchesSpec; and plain laws. -/
import Derived.Test.YtndbjnkilegebaaGreatDoorU
import Derived.Test.YtndbjnkilegebaaGreatDoorZst
import Derived.Test.YtndbjnkilegebaaGreatDoorSml
import Derived.Test.YtndbjnkilegebaaGreatDoorLPl
import Derived.Test.YtndbjnkilegebaaGreatDoorGro
import Derived.Test.YtndbjnkilegebaaGreatDoorGLoose
import Derived.Test.YtndbjnkilegebaaGreatDoorGSearch
import Derived.SizedLaws
import Derived.Test.YtndbjnkilegebaaGreatDoorWRc
namespace Go.Proofs.YtndbjnkilegebaaGreatDoor
open Go.RowKit Go.Proofs.Tryz Go.ChangeShapes Go.WideShapes Go.Deep Go.Joins
variable {a1:Nat}{cs:List Value}{e t ti:TypeId}{v:Value}
theorem lxR_K{r:Lr}{x:Lx}{ok:Bool}{Y:List Nd}(h1:(tmF r.mean).1=0)(h2:(tmF x.mean).1=0):TmK (lxR r x ok Y).mean:=by
 unfold lxR;cases ok
 ·exact .mk smZ_K (ah _) (fun z h=>by cases h)
 ·exact app_K (tmF_K h1) (tmF_K h2)
theorem dogs_of{w:World}{A:Option Addr}(h:LexesIn w A smallX):∃(b o:Nat) (G S' B G4:Option Addr) (cg cs cb c4:Nat),A=some ⟨b,o,none⟩/\b<w.heap.size/\w.rangeAt b (o+3*9) [.string dogS.lx.word,.slice G dogS.lx.gr.length cg,.int .i64 dogS.lx.wt,.int .i64 (dogS.lx.mean).kind,.string (dogS.lx.mean).name,.int .i64 (dogS.lx.mean).index,.string (dogS.lx.mean).type.base,.slice S' (dogS.lx.mean).type.args.length cs,.slice B (dogS.lx.mean).args.length cb]/\NodesIn w G dogS.lx.gr/\SimsIn w S' dogS.lx.mean.type.args/\TmsIn w B dogS.lx.mean.args/\w.rangeAt b (o+4*9+1) [.slice G4 dgX.gr.length c4]/\NodesIn w G4 dgX.gr:=by
 have h3:3<smallX.length:=by decide +kernel
 have h4:4<smallX.length:=by decide +kernel
 obtain⟨b,o,e,hl,hc⟩:=h.2 (fun e=>by rw[e]at h3;cases h3);obtain⟨_,G,cg,S',cs,B,m,h1,h2,h5,h6⟩:=hc 3 h3;obtain⟨_,G4,c4,_,_,_,_,k1,k2,_⟩:=hc 4 h4;rw[dog_at h3]at h1 h2 h5 h6;rw[dgx_at h4]at k1 k2;exact⟨b,o,G,S',B,G4,cg,cs,m,c4,e,hl,h1,h2,h5,h6,(fun j v hj=>by match j,hj with|0,hj=>cases hj;exact k1 1 _ rfl|_+1,hj=>cases hj),k2⟩
theorem fd45:(prog.fieldsOf 45).toList.map (fun f=>(f.name == "_",f.type,f.offset))= [(false,3,0),(false,3,1)]:=by kernel_rfl
theorem ft45:prog.underlying 45=some (.struct (prog.fieldsOf 45)):=by kernel_rfl
set_option maxRecDepth 100000 in
set_option maxHeartbeats 8000000 in
theorem law45_any(AT AF:Option Addr)(ct cf:Nat)(l:List Ty)(fs:List Ft)(r:Lr)(x:Lx)(G SA BA Gx Sx Bx:Option Addr)(cg cs cb cy cx cz:Nat)(w:World)(di:TabIn w)(hU:U8In w)(hwx:x.word.size<9223372036854775807)(hct:l.length<=ct)(hcf:fs.length<=cf)(dq:TypesIn w AT l)(hF:FeatsIn w AF fs)(hP:LrP w r G SA BA)(f6:NodesIn w Gx x.gr)(f3:SimsIn w Sx x.mean.type.args)(f2:TmsIn w Bx x.mean.args):Calls prog 3 #[.agg #[.slice AT l.length ct,.slice AF fs.length cf],.agg (cF r G cg (r.mean) SA cs BA cb),.agg (cA x Gx cy (x.mean) Sx cx Bx cz)] w fun e w'=>e= .returned (.bool true)/\Bel w w':=by
 refine enT func3 ntmps3 rfl rfl fun hB=>?_;refine zn2 ?_;refine qv (cs:=#[_,_]) rfl (fun b3 w1 ac s1 hr=>?_);have lo3:=hB.ob hr;refine qv (cs:=#[_,_,_,_,_,_,_,_,_,_,_]) rfl (fun b4 w2 ad s2 hr=>?_);have:=ac.ob hr;have lo4:=hB.u.ob hr;refine qv (cs:=#[_,_,_,_,_,_,_,_,_]) rfl (fun b5 w3 an s3 hr=>?_);have:=ac.u.ob hr;have:=ad.ob hr;have lo5:=hB.u.ob hr;refine zn5 ?_;refine zW kR (small_d _) rfl (fun e' w4 hr=>?_);obtain⟨⟨_,rfl,ep,ei,eo,ej,br,cells,A1,dm,AS1,fd,n1,rfl,lor,hcp,hbr,hD⟩,s4⟩:=hr;replace s4:=sB s4;have t1:=hD.now.1;have t2:=hD.now.2.1;have t4:=hD.now.2.2.2.1;obtain⟨lb,lq,Gd,Sd,Bd,Ge,gd,sd,bd,ge,rfl,ez,hlr,hGd,hSd,hTd,dx,hGe⟩:=dogs_of t4;clear hD hbr;obtain⟨wS,eu⟩:∃ z,z=w4:=⟨_,rfl⟩
 have bq:Bel wS w4:=by rw[eu];exact Below.refl _ _
 rw[<- eu]at t1 t2 ez hlr hGd hSd hTd dx hGe;clear eu;refine⟨_,rfl,?_⟩;refine y8 (cs:=cO) ze42 rfl (fun _=>rfl) (fun _=>rfl) sz42 rfl xW (fun b7 w6 dc s5 hr=>?_);have:=ac.u.ob hr;have:=ad.u.ob hr;have:=an.u.ob hr;have lo7:=hB.u.ob hr;have dp:=bq.ob hr;refine zn4 ?_;replace hB:=hB.tr0 (s1.t (s2.t (s3.t (s4.t s5))));have hsz:=Bel.size hB;replace bq:=bq.tr0 s5;have bo:=Bel.size bq;replace ac:=ac.tr0 (s2.t (s3.t (s4.t s5)));have z3:=ac.lt;replace ad:=ad.tr0 (s3.t (s4.t s5));have z4:=ad.lt;replace an:=an.tr0 (s4.t s5);have z5:=an.lt;have z7:=dc.lt;refine xv (rg [8,9,10] 21 12) (fun g w'=>∃(b8 bi:Nat) (A5 A6 B6:Option Addr) (c5 c6 d6 lz hz:Nat),g 8= .pointer (some ⟨b8,0,none⟩)/\g 9= .bool true/\g 10= .pointer (some ⟨bi,0,none⟩)/\Bel w w'/\Blk w' b3 25 #[.slice AT l.length ct,.slice AF fs.length cf]/\Blk w' b4 36 (cF r G cg (r.mean) SA cs BA cb)/\Blk w' b5 38 (cA x Gx cy (x.mean) Sx cx Bx cz)/\Bel wS w'/\Blk w' b7 42 #[.slice ep smallT.length ei,.slice eo smallF.length ej,.slice (some ⟨br,0,none⟩) smallR.length smallR.length,.slice (some ⟨lb,lq,none⟩) smallX.length dm,.slice AS1 smallS.length fd]/\Blk w' b8 38 (cA (dgL) A5 c5 ((dgL).mean) A6 c6 B6 d6)/\Blk w' bi 45 #[.int .i64 0,.int .i64 0]/\Kept lz hz w' (fun wq=>NodesIn wq A5 dgL.gr)) ?_ (fun g2 w7 hI=>?_)
 ·refine SW 14 [22,23,24,25,26,27,28,29,21,30,31,32,8,10] [10,11] (fun ix=>bif Nat.beq ix 8 then 7 else bif Nat.beq ix 9 then 7 else ix) (fun ix v la ha wv=>match ix with|0=>v= .pointer (some ⟨b7,0,none⟩)|1=>v= .agg #[.slice ep smallT.length ei,.slice eo smallF.length ej]|2=>∃(G SA BA:Option Addr) (cg cs cb:Nat),v= .agg (cI G cg (pluralR.mean) SA cs BA cb)/\LrP wv pluralR G SA BA|3=>v= .pointer (some ⟨b7,3,none⟩)|4=>v= .slice (some ⟨lb,lq,none⟩) smallX.length dm|5=>v= .pointer (some ⟨lb,lq+3*9,none⟩)|6=>v= .agg #[.string dogS.lx.word,.slice Gd dogS.lx.gr.length gd,.int .i64 dogS.lx.wt,.int .i64 (dogS.lx.mean).kind,.string (dogS.lx.mean).name,.int .i64 (dogS.lx.mean).index,.string (dogS.lx.mean).type.base,.slice Sd (dogS.lx.mean).type.args.length sd,.slice Bd (dogS.lx.mean).args.length bd]|7=>∃(A5 A6 B6:Option Addr) (c5 c6 d6:Nat),v= .tuple #[.agg (cA (dgL) A5 c5 ((dgL).mean) A6 c6 B6 d6),.bool true,.agg #[.int .i64 0,.int .i64 0]]/\Kept la ha wv (fun wq=>NodesIn wq A5 dgL.gr)/\w6.heap.size<=la|8=>∃(A5 A6 B6:Option Addr) (c5 c6 d6:Nat),v= .tuple #[.agg (cA (dgL) A5 c5 ((dgL).mean) A6 c6 B6 d6),.bool true,.agg #[.int .i64 0,.int .i64 0]]/\Kept la ha wv (fun wq=>NodesIn wq A5 dgL.gr)/\w6.heap.size<=la|9=>∃(A5 A6 B6:Option Addr) (c5 c6 d6:Nat),v= .agg (cA (dgL) A5 c5 ((dgL).mean) A6 c6 B6 d6)/\Kept la ha wv (fun wq=>NodesIn wq A5 dgL.gr)/\w6.heap.size<=la|10=>v= .bool true|11=>v= .agg #[.int .i64 0,.int .i64 0]|12=>∃ b,v= .pointer (some ⟨b,0,none⟩)/\w6.heap.size<=b/\Blk wv b 38 cE/\la<=b/\b<ha|13=>∃ b,v= .pointer (some ⟨b,0,none⟩)/\w6.heap.size<=b/\Blk wv b 45 #[.int .i64 0,.int .i64 0]/\la<=b/\b<ha|_=>True) kR kR kR kR ?_ ?_ ?_
  ·intro ix v la ha wv wv2 h hle s6
   match ix,h with
   | 0,h=>exact h
   | 1,h=>exact h
   | 2,h=>
    obtain⟨Gp,Sp,Bp,gp,sp,bp,fa,e7⟩:=(show ∃(G SA BA:Option Addr) (cg cs cb:Nat),v= .agg (cI G cg (pluralR.mean) SA cs BA cb)/\LrP wv pluralR G SA BA from h)
    exact⟨Gp,Sp,Bp,gp,sp,bp,fa,e7.mono s6.bel⟩
   | 3,h=>exact h
   | 4,h=>exact h
   | 5,h=>exact h
   | 6,h=>exact h
   | 7,h=>
    obtain⟨A5,A6,B6,c5,c6,d6,f9,bb,cu⟩:=(show ∃(A5 A6 B6:Option Addr) (c5 c6 d6:Nat),v= .tuple #[.agg (cA (dgL) A5 c5 ((dgL).mean) A6 c6 B6 d6),.bool true,.agg #[.int .i64 0,.int .i64 0]]/\Kept la ha wv (fun wq=>NodesIn wq A5 dgL.gr)/\w6.heap.size<=la from h)
    exact⟨A5,A6,B6,c5,c6,d6,f9,bb.tr0 s6,cu⟩
   | 8,h=>
    obtain⟨cj,ce,cd,cc,ca,c9,c3,bm,bk⟩:=(show ∃(A5 A6 B6:Option Addr) (c5 c6 d6:Nat),v= .tuple #[.agg (cA (dgL) A5 c5 ((dgL).mean) A6 c6 B6 d6),.bool true,.agg #[.int .i64 0,.int .i64 0]]/\Kept la ha wv (fun wq=>NodesIn wq A5 dgL.gr)/\w6.heap.size<=la from h)
    exact⟨cj,ce,cd,cc,ca,c9,c3,bm.tr0 s6,bk⟩
   | 9,h=>
    obtain⟨A5,A6,B6,c5,c6,d6,cv,bb,cu⟩:=(show ∃(A5 A6 B6:Option Addr) (c5 c6 d6:Nat),v= .agg (cA (dgL) A5 c5 ((dgL).mean) A6 c6 B6 d6)/\Kept la ha wv (fun wq=>NodesIn wq A5 dgL.gr)/\w6.heap.size<=la from h)
    exact⟨A5,A6,B6,c5,c6,d6,cv,bb.tr0 s6,cu⟩
   | 10,h=>exact h
   | 11,h=>exact h
   | 12,h=>
    obtain⟨b8,e8,ao,b9,dr,e5⟩:=(show ∃ b,v= .pointer (some ⟨b,0,none⟩)/\w6.heap.size<=b/\Blk wv b 38 cE/\la<=b/\b<ha from h)
    exact⟨b8,e8,ao,b9.tr0 s6,dr,e5⟩
   | 13,h=>
    obtain⟨bi,cw,a1,a8,cm,cn⟩:=(show ∃ b,v= .pointer (some ⟨b,0,none⟩)/\w6.heap.size<=b/\Blk wv b 45 #[.int .i64 0,.int .i64 0]/\la<=b/\b<ha from h)
    exact⟨bi,cw,a1,a8.tr0 s6,cm,cn⟩
   | _+14,h=>exact trivial
  ·intro ix o hix ab gg wx lo hi s7 hd ba
   match ix,hix,ab with
   | 0,_,ab=>
    cases sI ab;refine gdA ?_;refine qk (jX U42 E1 dE rfl rfl rfl) ⟨Same.refl _ _,?_⟩;exact rfl
   | 1,_,ab=>
    cases sI ab;have d0:gg 22= .pointer (some ⟨b7,0,none⟩):=(hd 0 (zj kR)).1;have e22:=d0;refine gdA (zq 22 _ e22 nu ?_);refine qk (qw U25 rfl rfl (dc.u.sub (n:=2) (xs:=[_,_]) rfl) E1) ⟨Same.refl _ _,?_⟩;exact rfl
   | 2,_,ab=>
    cases sI ab;refine gdA ?_;refine vw kR (plural_any wx) rfl (fun e' w2 hr=>?_);obtain⟨⟨Gp,Sp,Bp,gp,sp,bp,rfl,e7⟩,s8⟩:=hr;exact⟨_,rfl,sB s8,⟨Gp,Sp,Bp,gp,sp,bp,rfl,e7⟩⟩
   | 3,_,ab=>
    cases sI ab;refine gdA ?_;refine qk (jX U42 sz40 dE rfl rfl rfl) ⟨Same.refl _ _,?_⟩;exact rfl
   | 4,_,ab=>
    cases sI ab;have d3:gg 25= .pointer (some ⟨b7,3,none⟩):=(hd 3 (zj kR)).1;have e25:=d3;refine gdA (zq 25 _ e25 nu ?_);refine qk (qj (v:= .slice _ _ _) U40 rfl rfl (dc.u.cell rfl)) ⟨Same.refl _ _,?_⟩;exact rfl
   | 5,_,ab=>
    cases sI ab;have d4:gg 26= .slice (some ⟨lb,lq,none⟩) smallX.length dm:=(hd 4 (zj kR)).1;have e26:=d4;refine gdA (zq 26 _ e26 nu ?_);refine qk (x7 (i:=3) U40 u7 rfl rfl dE rfl) ⟨Same.refl _ _,?_⟩;exact rfl
   | 6,_,ab=>
    cases sI ab;have d5:gg 27= .pointer (some ⟨lb,lq+3*9,none⟩):=(hd 5 (zj kR)).1;have e27:=d5;refine gdA (zq 27 _ e27 nu ?_);refine qk (qw U38 rfl rfl (bq.u.range ez hlr) u7) ⟨Same.refl _ _,?_⟩;exact rfl
   | 7,_,ab=>
    cases sI ab;have dw:=s7;have d1:gg 23= .agg #[.slice ep smallT.length ei,.slice eo smallF.length ej]:=(hd 1 (zj kR)).1;have e23:=d1;have d2:∃(G SA BA:Option Addr) (cg cs cb:Nat),gg 24= .agg (cI G cg (pluralR.mean) SA cs BA cb)/\LrP wx pluralR G SA BA:=(hd 2 (zj kR)).1;obtain⟨Gp,Sp,Bp,gp,sp,bp,fa,e7⟩:=d2;have d6:gg 28= .agg #[.string dogS.lx.word,.slice Gd dogS.lx.gr.length gd,.int .i64 dogS.lx.wt,.int .i64 (dogS.lx.mean).kind,.string (dogS.lx.mean).name,.int .i64 (dogS.lx.mean).index,.string (dogS.lx.mean).type.base,.slice Sd (dogS.lx.mean).type.args.length sd,.slice Bd (dogS.lx.mean).args.length bd]:=(hd 6 (zj kR)).1;have e28:=d6;refine gdA (zq 23 _ e23 nu (zq 24 _ fa nu (zq 28 _ e28 nu ?_)));refine vw kR (T6 ep eo ei ej smallT smallF pluralR dogS.lx Gp Sp Bp Gd Sd Bd gp sp bp gd sd bd wx (di.mono hB.u) (hU.mono hB.u) dog_wz (t1.mono bq.u) (t2.mono bq.u) e7 (hGd.mono bq.u) (hSd.mono bq.u) (hTd.mono bq.u)) rfl (fun e' w2 hr=>?_);obtain⟨⟨okD,YD,zD,A5,A6,B6,c5,c6,d6,rfl,hzD,hyD,_⟩,s9⟩:=hr
    exact⟨_,rfl,sB s9,(by
      obtain⟨e1,e2⟩:=hyD (by rw[ap_dog]);obtain⟨e3,e4⟩:=dog_res e2;subst e3 e4;obtain rfl:zD=dgL:=e1
      exact⟨A5,A6,B6,c5,c6,d6,by rw[ap_dog],Iy ((hzD.imp (fun _ h=>h.1)).toFr),dw.size⟩)⟩
   | 8,_,ab=>
    cases sI ab;have d7:∃(A5 A6 B6:Option Addr) (c5 c6 d6:Nat),gg 29= .tuple #[.agg (cA (dgL) A5 c5 ((dgL).mean) A6 c6 B6 d6),.bool true,.agg #[.int .i64 0,.int .i64 0]]/\Kept (lo 7) (hi 7) wx (fun wq=>NodesIn wq A5 dgL.gr)/\w6.heap.size<=(lo 7):=(hd 7 (zj kR)).1;obtain⟨A5,A6,B6,c5,c6,d6,f9,bb,cu⟩:=d7;refine gdA (zq 29 _ f9 nu ?_);refine qk (x6 (v:= .tuple _) rfl) ⟨Same.refl _ _,?_⟩;exact⟨_,_,_,_,_,_,rfl,bb,cu⟩
   | 9,_,ab=>
    cases sI ab;have d8:∃(A5 A6 B6:Option Addr) (c5 c6 d6:Nat),gg 21= .tuple #[.agg (cA (dgL) A5 c5 ((dgL).mean) A6 c6 B6 d6),.bool true,.agg #[.int .i64 0,.int .i64 0]]/\Kept (lo 7) (hi 7) wx (fun wq=>NodesIn wq A5 dgL.gr)/\w6.heap.size<=(lo 7):=(hd 8 (zj kR)).1;obtain⟨cj,ce,cd,cc,ca,c9,c3,bm,bk⟩:=d8;refine gdA (zq 21 _ c3 nu ?_);refine qk (yW (v:=_) rfl rfl) ⟨Same.refl _ _,?_⟩;exact⟨_,_,_,_,_,_,rfl,bm,bk⟩
   | 10,_,ab=>
    cases sI ab;have d8:∃(A5 A6 B6:Option Addr) (c5 c6 d6:Nat),gg 21= .tuple #[.agg (cA (dgL) A5 c5 ((dgL).mean) A6 c6 B6 d6),.bool true,.agg #[.int .i64 0,.int .i64 0]]/\Kept (lo 7) (hi 7) wx (fun wq=>NodesIn wq A5 dgL.gr)/\w6.heap.size<=(lo 7):=(hd 8 (zj kR)).1;obtain⟨cj,ce,cd,cc,ca,c9,c3,bm,bk⟩:=d8;refine gdA (zq 21 _ c3 nu ?_);refine qk (yW (v:=_) rfl rfl) ⟨Same.refl _ _,?_⟩;exact rfl
   | 11,_,ab=>
    cases sI ab;have d8:∃(A5 A6 B6:Option Addr) (c5 c6 d6:Nat),gg 21= .tuple #[.agg (cA (dgL) A5 c5 ((dgL).mean) A6 c6 B6 d6),.bool true,.agg #[.int .i64 0,.int .i64 0]]/\Kept (lo 7) (hi 7) wx (fun wq=>NodesIn wq A5 dgL.gr)/\w6.heap.size<=(lo 7):=(hd 8 (zj kR)).1;obtain⟨cj,ce,cd,cc,ca,c9,c3,bm,bk⟩:=d8;refine gdA (zq 21 _ c3 nu ?_);refine qk (yW (v:=_) rfl rfl) ⟨Same.refl _ _,?_⟩;exact rfl
   | 12,_,ab=>
    cases sI ab;have dw:=s7;refine gdA ?_;refine jq (fun ops Q K=>?_);refine qQ (cs:=cE) X0 rfl (fun b8 w8 b9 s10 hr=>?_);exact K _ _ ⟨s10,⟨_,rfl,nLT dw.size hr,b9,hr,b9.lt⟩⟩
   | 13,_,ab=>
    cases sI ab;have dw:=s7;refine gdA ?_;refine jq (fun ops Q K=>?_);refine qQ (cs:=#[.int .i64 0,.int .i64 0]) qV rfl (fun bi w9 a8 s11 hr=>?_);exact K _ _ ⟨s11,⟨_,rfl,nLT dw.size hr,a8,hr,a8.lt⟩⟩
   | _+14,hix,_=>exact absurd hix oG
  refine⟨?_,?_,?_,?_,trivial⟩
  ·intro _ gg eg lo hi s12 hR ba;have d8:∃(A5 A6 B6:Option Addr) (c5 c6 d6:Nat),gg 21= .tuple #[.agg (cA (dgL) A5 c5 ((dgL).mean) A6 c6 B6 d6),.bool true,.agg #[.int .i64 0,.int .i64 0]]/\Kept (lo 7) (hi 7) eg (fun wq=>NodesIn wq A5 dgL.gr)/\w6.heap.size<=(lo 7):=(hR 8 dE dE).1;obtain⟨cj,ce,cd,cc,ca,c9,c3,bm,bk⟩:=d8;have d9:∃(A5 A6 B6:Option Addr) (c5 c6 d6:Nat),gg 30= .agg (cA (dgL) A5 c5 ((dgL).mean) A6 c6 B6 d6)/\Kept (lo 7) (hi 7) eg (fun wq=>NodesIn wq A5 dgL.gr)/\w6.heap.size<=(lo 7):=(hR 9 dE dE).1;obtain⟨A5,A6,B6,c5,c6,d6,cv,bb,cu⟩:=d9;have fc:gg 31= .bool true:=(hR 10 dE dE).1;have f8:=fc;have fb:gg 32= .agg #[.int .i64 0,.int .i64 0]:=(hR 11 dE dE).1;have f7:=fb;have dk:∃ b,gg 8= .pointer (some ⟨b,0,none⟩)/\w6.heap.size<=b/\Blk eg b 38 cE/\(lo 12)<=b/\b<(hi 12):=(hR 12 dE dE).1;obtain⟨b8,e8,ao,b9,dr,e5⟩:=dk;have dj:∃ b,gg 10= .pointer (some ⟨b,0,none⟩)/\w6.heap.size<=b/\Blk eg b 45 #[.int .i64 0,.int .i64 0]/\(lo 13)<=b/\b<(hi 13):=(hR 13 dE dE).1;obtain⟨bi,cw,a1,a8,cm,cn⟩:=dj;have be:(hi 7)<=(lo 12)\/(hi 12)<=(lo 7):=ba 7 12 dE dE dE dE dE;have bc:(hi 7)<=(lo 13)\/(hi 13)<=(lo 7):=ba 7 13 dE dE dE dE dE;have es:b8≠bi:=fun h=>absurd (jz (h ▸ b9) a8) dE
   have:=nLL z3 ao;have:=nLL z4 ao;have:=nLL z5 ao;have:=nLL z7 ao;have:=nLL z3 a1;have:=nLL z4 a1;have:=nLL z5 a1;have:=nLL z7 a1;have b6:=nLT bo ao;have b2:=nLT bo a1;replace ao:=nLT hsz ao;replace a1:=nLT hsz a1;refine yz 21 (.tuple #[.agg (cA (dgL) cj cc ((dgL).mean) ce ca cd c9),.bool true,.agg #[.int .i64 0,.int .i64 0]]) c3 nu (yz 30 (.agg (cA (dgL) A5 c5 ((dgL).mean) A6 c6 B6 d6)) cv nu (yz 31 (.bool true) f8 nu (yz 32 (.agg #[.int .i64 0,.int .i64 0]) f7 nu (yz 8 (.pointer (some ⟨b8,0,none⟩)) e8 nu (yz 10 (.pointer (some ⟨bi,0,none⟩)) cw nu (IZ (k':=3) kR (Dz (listed':=#[true,true,true,true,true,true,true,true,true,true,true,true,true,true,false,false,false]) kR ?_)))))));refine X8 [14] kR rfl ⟨fun o ab=>?_,trivial⟩;cases sI ab;refine zV b9 (fun w11 hq s13=>?_);replace b9:=hq;refine qY (e_A (listed':=#[true,true,true,true,true,true,true,true,true,true,true,true,true,true,true,false,false]) (by rfl) (Ov 15 rfl (fun _=>oz (v:= .bool _) rfl) ?_));refine X8 [16] kR rfl ⟨fun o ab=>?_,trivial⟩;cases sI ab;refine zV a8.u (fun w12 hq s14=>?_);replace a8:=hq;refine qY (e_A (listed':=#[true,true,true,true,true,true,true,true,true,true,true,true,true,true,true,true,true]) (by rfl) (Dj kR ?_));refine e_R ⟨agA,?_⟩;replace bb:=(bb.tr1 s13 oG).tr1 s14 oG;exact⟨b8,bi,A5,A6,B6,c5,c6,d6,_,_,rfl,rfl,rfl,hB.u,ac.u,ad.u,an.u,bq.u,dc.u,b9.u,a8,bb⟩
  ·intro _ gg ef lo hi s15 hR ba;have d8:∃(A5 A6 B6:Option Addr) (c5 c6 d6:Nat),gg 21= .tuple #[.agg (cA (dgL) A5 c5 ((dgL).mean) A6 c6 B6 d6),.bool true,.agg #[.int .i64 0,.int .i64 0]]/\Kept (lo 7) (hi 7) ef (fun wq=>NodesIn wq A5 dgL.gr)/\w6.heap.size<=(lo 7):=(hR 8 dE dE).1;obtain⟨cj,ce,cd,cc,ca,c9,c3,bm,bk⟩:=d8;have d9:∃(A5 A6 B6:Option Addr) (c5 c6 d6:Nat),gg 30= .agg (cA (dgL) A5 c5 ((dgL).mean) A6 c6 B6 d6)/\Kept (lo 7) (hi 7) ef (fun wq=>NodesIn wq A5 dgL.gr)/\w6.heap.size<=(lo 7):=(hR 9 dE dE).1;obtain⟨A5,A6,B6,c5,c6,d6,cv,bb,cu⟩:=d9;have fc:gg 31= .bool true:=(hR 10 dE dE).1;have f8:=fc;have dk:∃ b,gg 8= .pointer (some ⟨b,0,none⟩)/\w6.heap.size<=b/\Blk ef b 38 cE/\(lo 12)<=b/\b<(hi 12):=(hR 12 dE dE).1;obtain⟨b8,e8,ao,b9,dr,e5⟩:=dk;have dj:∃ b,gg 10= .pointer (some ⟨b,0,none⟩)/\w6.heap.size<=b/\Blk ef b 45 #[.int .i64 0,.int .i64 0]/\(lo 13)<=b/\b<(hi 13):=(hR 13 dE dE).1;obtain⟨bi,cw,a1,a8,cm,cn⟩:=dj;have be:(hi 7)<=(lo 12)\/(hi 12)<=(lo 7):=ba 7 12 dE dE dE dE dE;have bc:(hi 7)<=(lo 13)\/(hi 13)<=(lo 7):=ba 7 13 dE dE dE dE dE;have es:b8≠bi:=fun h=>absurd (jz (h ▸ b9) a8) dE
   have:=nLL z3 ao;have:=nLL z4 ao;have:=nLL z5 ao;have:=nLL z7 ao;have:=nLL z3 a1;have:=nLL z4 a1;have:=nLL z5 a1;have:=nLL z7 a1;have b6:=nLT bo ao;have b2:=nLT bo a1;replace ao:=nLT hsz ao;replace a1:=nLT hsz a1;refine yz 21 (.tuple #[.agg (cA (dgL) cj cc ((dgL).mean) ce ca cd c9),.bool true,.agg #[.int .i64 0,.int .i64 0]]) c3 nu (yz 30 (.agg (cA (dgL) A5 c5 ((dgL).mean) A6 c6 B6 d6)) cv nu (yz 31 (.bool true) f8 nu (yz 8 (.pointer (some ⟨b8,0,none⟩)) e8 nu (yz 10 (.pointer (some ⟨bi,0,none⟩)) cw nu (IZ (k':=4) kR (Dz (listed':=#[true,true,true,true,true,true,true,true,true,true,true,false,true,true,false,false,false]) kR (Ov 11 rfl (fun _=>yW (v:=_) rfl rfl) ?_)))))));refine X8 [14] kR rfl ⟨fun o ab=>?_,trivial⟩;cases sI ab;refine zV b9 (fun w14 hq s16=>?_);replace b9:=hq;refine qY (e_A (listed':=#[true,true,true,true,true,true,true,true,true,true,true,true,true,true,true,false,false]) (by rfl) (Ov 15 rfl (fun _=>oz (v:= .bool _) rfl) ?_));refine X8 [16] kR rfl ⟨fun o ab=>?_,trivial⟩;cases sI ab;refine zV a8.u (fun w15 hq s17=>?_);replace a8:=hq;refine qY (e_A (listed':=#[true,true,true,true,true,true,true,true,true,true,true,true,true,true,true,true,true]) (by rfl) (Dj kR ?_));refine e_R ⟨agA,?_⟩;replace bb:=(bb.tr1 s16 oG).tr1 s17 oG;exact⟨b8,bi,A5,A6,B6,c5,c6,d6,_,_,rfl,rfl,rfl,hB.u,ac.u,ad.u,an.u,bq.u,dc.u,b9.u,a8,bb⟩
  ·intro _ gg ee lo hi s18 hR ba;have d8:∃(A5 A6 B6:Option Addr) (c5 c6 d6:Nat),gg 21= .tuple #[.agg (cA (dgL) A5 c5 ((dgL).mean) A6 c6 B6 d6),.bool true,.agg #[.int .i64 0,.int .i64 0]]/\Kept (lo 7) (hi 7) ee (fun wq=>NodesIn wq A5 dgL.gr)/\w6.heap.size<=(lo 7):=(hR 8 dE dE).1;obtain⟨cj,ce,cd,cc,ca,c9,c3,bm,bk⟩:=d8;have d9:∃(A5 A6 B6:Option Addr) (c5 c6 d6:Nat),gg 30= .agg (cA (dgL) A5 c5 ((dgL).mean) A6 c6 B6 d6)/\Kept (lo 7) (hi 7) ee (fun wq=>NodesIn wq A5 dgL.gr)/\w6.heap.size<=(lo 7):=(hR 9 dE dE).1;obtain⟨A5,A6,B6,c5,c6,d6,cv,bb,cu⟩:=d9;have fb:gg 32= .agg #[.int .i64 0,.int .i64 0]:=(hR 11 dE dE).1;have f7:=fb;have dk:∃ b,gg 8= .pointer (some ⟨b,0,none⟩)/\w6.heap.size<=b/\Blk ee b 38 cE/\(lo 12)<=b/\b<(hi 12):=(hR 12 dE dE).1;obtain⟨b8,e8,ao,b9,dr,e5⟩:=dk;have dj:∃ b,gg 10= .pointer (some ⟨b,0,none⟩)/\w6.heap.size<=b/\Blk ee b 45 #[.int .i64 0,.int .i64 0]/\(lo 13)<=b/\b<(hi 13):=(hR 13 dE dE).1;obtain⟨bi,cw,a1,a8,cm,cn⟩:=dj;have be:(hi 7)<=(lo 12)\/(hi 12)<=(lo 7):=ba 7 12 dE dE dE dE dE;have bc:(hi 7)<=(lo 13)\/(hi 13)<=(lo 7):=ba 7 13 dE dE dE dE dE;have es:b8≠bi:=fun h=>absurd (jz (h ▸ b9) a8) dE
   have:=nLL z3 ao;have:=nLL z4 ao;have:=nLL z5 ao;have:=nLL z7 ao;have:=nLL z3 a1;have:=nLL z4 a1;have:=nLL z5 a1;have:=nLL z7 a1;have b6:=nLT bo ao;have b2:=nLT bo a1;replace ao:=nLT hsz ao;replace a1:=nLT hsz a1;refine yz 21 (.tuple #[.agg (cA (dgL) cj cc ((dgL).mean) ce ca cd c9),.bool true,.agg #[.int .i64 0,.int .i64 0]]) c3 nu (yz 30 (.agg (cA (dgL) A5 c5 ((dgL).mean) A6 c6 B6 d6)) cv nu (yz 32 (.agg #[.int .i64 0,.int .i64 0]) f7 nu (yz 8 (.pointer (some ⟨b8,0,none⟩)) e8 nu (yz 10 (.pointer (some ⟨bi,0,none⟩)) cw nu (IZ (k':=4) kR (Dz (listed':=#[true,true,true,true,true,true,true,true,true,true,false,true,true,true,false,false,false]) kR (Ov 10 rfl (fun _=>yW (v:=_) rfl rfl) ?_)))))));refine X8 [14] kR rfl ⟨fun o ab=>?_,trivial⟩;cases sI ab;refine zV b9 (fun w17 hq s19=>?_);replace b9:=hq;refine qY (e_A (listed':=#[true,true,true,true,true,true,true,true,true,true,true,true,true,true,true,false,false]) (by rfl) (Ov 15 rfl (fun _=>oz (v:= .bool _) rfl) ?_));refine X8 [16] kR rfl ⟨fun o ab=>?_,trivial⟩;cases sI ab;refine zV a8.u (fun w18 hq s20=>?_);replace a8:=hq;refine qY (e_A (listed':=#[true,true,true,true,true,true,true,true,true,true,true,true,true,true,true,true,true]) (by rfl) (Dj kR ?_));refine e_R ⟨agA,?_⟩;replace bb:=(bb.tr1 s19 oG).tr1 s20 oG;exact⟨b8,bi,A5,A6,B6,c5,c6,d6,_,_,rfl,rfl,rfl,hB.u,ac.u,ad.u,an.u,bq.u,dc.u,b9.u,a8,bb⟩
  intro _ gg ed lo hi s21 hR ba;have d8:∃(A5 A6 B6:Option Addr) (c5 c6 d6:Nat),gg 21= .tuple #[.agg (cA (dgL) A5 c5 ((dgL).mean) A6 c6 B6 d6),.bool true,.agg #[.int .i64 0,.int .i64 0]]/\Kept (lo 7) (hi 7) ed (fun wq=>NodesIn wq A5 dgL.gr)/\w6.heap.size<=(lo 7):=(hR 8 dE dE).1;obtain⟨cj,ce,cd,cc,ca,c9,c3,bm,bk⟩:=d8;have d9:∃(A5 A6 B6:Option Addr) (c5 c6 d6:Nat),gg 30= .agg (cA (dgL) A5 c5 ((dgL).mean) A6 c6 B6 d6)/\Kept (lo 7) (hi 7) ed (fun wq=>NodesIn wq A5 dgL.gr)/\w6.heap.size<=(lo 7):=(hR 9 dE dE).1;obtain⟨A5,A6,B6,c5,c6,d6,cv,bb,cu⟩:=d9;have dk:∃ b,gg 8= .pointer (some ⟨b,0,none⟩)/\w6.heap.size<=b/\Blk ed b 38 cE/\(lo 12)<=b/\b<(hi 12):=(hR 12 dE dE).1;obtain⟨b8,e8,ao,b9,dr,e5⟩:=dk;have dj:∃ b,gg 10= .pointer (some ⟨b,0,none⟩)/\w6.heap.size<=b/\Blk ed b 45 #[.int .i64 0,.int .i64 0]/\(lo 13)<=b/\b<(hi 13):=(hR 13 dE dE).1;obtain⟨bi,cw,a1,a8,cm,cn⟩:=dj;have be:(hi 7)<=(lo 12)\/(hi 12)<=(lo 7):=ba 7 12 dE dE dE dE dE;have bc:(hi 7)<=(lo 13)\/(hi 13)<=(lo 7):=ba 7 13 dE dE dE dE dE;have es:b8≠bi:=fun h=>absurd (jz (h ▸ b9) a8) dE
  have:=nLL z3 ao;have:=nLL z4 ao;have:=nLL z5 ao;have:=nLL z7 ao;have:=nLL z3 a1;have:=nLL z4 a1;have:=nLL z5 a1;have:=nLL z7 a1;have b6:=nLT bo ao;have b2:=nLT bo a1;replace ao:=nLT hsz ao;replace a1:=nLT hsz a1;refine yz 21 (.tuple #[.agg (cA (dgL) cj cc ((dgL).mean) ce ca cd c9),.bool true,.agg #[.int .i64 0,.int .i64 0]]) c3 nu (yz 30 (.agg (cA (dgL) A5 c5 ((dgL).mean) A6 c6 B6 d6)) cv nu (yz 8 (.pointer (some ⟨b8,0,none⟩)) e8 nu (yz 10 (.pointer (some ⟨bi,0,none⟩)) cw nu (IZ (k':=5) kR (Dz (listed':=#[true,true,true,true,true,true,true,true,true,true,false,false,true,true,false,false,false]) kR (Ov 10 rfl (fun _=>yW (v:=_) rfl rfl) (Ov 11 rfl (fun _=>yW (v:=_) rfl rfl) ?_)))))));refine X8 [14] kR rfl ⟨fun o ab=>?_,trivial⟩;cases sI ab;refine zV b9 (fun w20 hq s22=>?_);replace b9:=hq;refine qY (e_A (listed':=#[true,true,true,true,true,true,true,true,true,true,true,true,true,true,true,false,false]) (by rfl) (Ov 15 rfl (fun _=>oz (v:= .bool _) rfl) ?_));refine X8 [16] kR rfl ⟨fun o ab=>?_,trivial⟩;cases sI ab;refine zV a8.u (fun w21 hq s23=>?_);replace a8:=hq;refine qY (e_A (listed':=#[true,true,true,true,true,true,true,true,true,true,true,true,true,true,true,true,true]) (by rfl) (Dj kR ?_));refine e_R ⟨agA,?_⟩;replace bb:=(bb.tr1 s22 oG).tr1 s23 oG;exact⟨b8,bi,A5,A6,B6,c5,c6,d6,_,_,rfl,rfl,rfl,hB.u,ac.u,ad.u,an.u,bq.u,dc.u,b9.u,a8,bb⟩
 obtain⟨b8,bi,A5,A6,B6,c5,c6,d6,lz,hz,h8,h9,h10,hB,ac,ad,an,bq,dc,b9,a8,bb⟩:=hI;refine vZ 8 _ h8 nu (vZ 9 _ h9 nu (vZ 10 _ h10 nu (e_S (xQ ?_))));refine jY [] [0,1,2,3,4,5,6,7,8,9,10,11,12,13,14,15,16,17,18,19,20,21,22,23,24,25,26,27] rfl (fun w22 c4=>?_);refine zn2 ?_;refine hle rfl (fun _=>BV rfl rfl) (ag (ap (fun h=>h rfl))) (zn7 ?_);refine hge 40 rfl rfl rfl (fun _ _=>WW rfl rfl) (ag (ap (fun h=>h dgL_wd))) (zn4 ?_);refine hge 45 rfl rfl rfl (fun _ _=>BV rfl rfl) (ag (ap (fun h=>h dgL_wt))) (zn3 ?_);refine hgS 50 rfl rfl rfl U28 rfl rfl (b9.u.sub (n:=1) (xs:=[_]) rfl) Y6 (zn2 ?_);refine hg 50 rfl rfl rfl (fun _ _=>x7 (i:=4) U40 u7 rfl rfl dE rfl) (zn1 ?_);refine hgS 50 rfl rfl rfl U28 rfl rfl (bq.u.range ez dx) Y6 (h1 rfl (zn1 ?_));replace bb:=bb.tr0 c4;refine zW kR (Sq A5 Ge _ _ c5 ge dgL.gr dgX.gr true w22 bb.now (hGe.mono bq.u) rfl rfl (aj dgL_gr)) rfl (fun e' w23 hr=>?_);obtain⟨rfl,bz⟩:=hr;replace bz:=sB bz;have dv:=bz;refine⟨_,rfl,?_⟩;refine qY (KQ dv (vJ ?_));refine a7 kR (Sj AT AF ct cf l fs r G SA BA cg cs cb _ (di.mono hB.u) (hU.mono hB.u) (dq.mono hB.u) (hF.mono hB.u) (hP.mono hB.u)) rfl (fun w24 c8=>?_);refine y8 (cs:=#[.int .i64 0,.int .i64 0]) qV rfl (fun _=>rfl) (fun _=>rfl) zK rfl xW (fun en w26 a5 c7 hr=>?_);have:=ac.u.ob hr;have:=ad.u.ob hr;have:=an.u.ob hr;have lo11:=hB.u.ob hr;refine zn7 ?_;obtain⟨l1,hl1⟩:∃ z,z=w26.heap.size:=⟨_,rfl⟩
 refine zW kR (T6 AT AF ct cf l fs r x G SA BA Gx Sx Bx cg cs cb cy cx cz _ (di.mono hB.u) (hU.mono hB.u) hwx (dq.mono hB.u) (hF.mono hB.u) (hP.mono hB.u) (f6.mono hB.u) (f3.mono hB.u) (f2.mono hB.u)) rfl (fun e' w27 hr=>?_);obtain⟨⟨ok1,Y1,z1,cr,cq,cp,ec,eb,e9,rfl,a9,hy1,hn1⟩,bn⟩:=hr;replace bn:=sB bn;rw[<- hl1]at a9;clear hl1;obtain⟨n1,a9⟩:∃ n,Hv l1 [] n w27 (fun w=>NodesIn w cr z1.gr/\SimsIn w cq z1.mean.type.args/\TmsIn w cp z1.mean.args):=⟨_,a9⟩
 refine⟨_,rfl,?_⟩;refine wmT rfl (wl (yW (v:=_) rfl rfl) (wl (yW (v:=_) rfl rfl) (wl (yW (v:=_) rfl rfl) ?_)));refine qQ (cs:=cE) X0 rfl (fun em w28 a3 bx hr=>?_);have:=ac.u.ob hr;have:=ad.u.ob hr;have:=an.u.ob hr;have:=a5.u.ob hr;have c2:=(nLT a9.le hr)
 have dg:=hB.u.ob hr;refine qQ (cs:=#[.int .i64 0,.int .i64 0]) qV rfl (fun el w29 a4 bw hr=>?_);have:=ac.u.ob hr;have:=ad.u.ob hr;have:=an.u.ob hr;have:=a5.u.ob hr;replace a9:=a9.tr0 bx;have c1:=(nLT a9.le hr)
 have:=a3.ob hr;have df:=hB.u.ob hr;refine zV a3.u (fun w30 hq bv=>?_);replace a9:=a9.tr0 bw;replace a9:=a9.tr bv (fun g hg=> .inr (.inr (by rw[List.mem_singleton.1 hg];exact c2)));replace a3:=hq;refine wl (oz (v:= .bool _) rfl) ?_;refine zV a4.u (fun w31 hq bj=>?_);replace a9:=a9.tr bj (fun g hg=> .inr (.inr (by rw[List.mem_singleton.1 hg];exact c1)));replace a4:=hq;refine zn5 ?_;refine a7 kR (rlready_any AT AF ct cf l fs _ hct hcf (dq.mono hB.u) (hF.mono hB.u)) rfl (fun w32 bh=>?_);refine qQ (cs:=#[.int .i64 0,.int .i64 0]) qV rfl (fun ek w33 a2 bg hr=>?_);have:=ac.u.ob hr;have:=ad.u.ob hr;have:=an.u.ob hr;have:=a5.u.ob hr;replace a9:=a9.tr0 bh;have b1:=(nLT a9.le hr)
 have:=a3.u.ob hr;have:=a4.u.ob hr;have ck:=hB.u.ob hr;refine zV a2 (fun w34 hq bf=>?_);replace a9:=a9.tr0 bg;replace a9:=a9.tr bf (fun g hg=> .inr (.inr (by rw[List.mem_singleton.1 hg];exact b1)));replace a2:=hq;refine yj ?_;refine xv (rg [16] 77 7) (fun g w'=>Bel w w'/\Blk w' b3 25 #[.slice AT l.length ct,.slice AF fs.length cf]/\Blk w' b4 36 (cF r G cg (r.mean) SA cs BA cb)/\Blk w' b5 38 (cA x Gx cy (x.mean) Sx cx Bx cz)/\Blk w' en 45 #[.int .i64 (lrV l fs r).1,.int .i64 (lrV l fs r).2]/\Blk w' em 38 (cA (z1) cr ec ((z1).mean) cq eb cp e9)/\Blk w' el 45 #[.int .i64 (apF l fs r x).1,.int .i64 (apF l fs r x).2]/\Blk w' ek 45 #[.int .i64 (lrV l fs r).1,.int .i64 (lrV l fs r).2]/\Hv l1 [] n1 w' (fun w=>NodesIn w cr z1.gr/\SimsIn w cq z1.mean.type.args/\TmsIn w cp z1.mean.args)) ?_ (fun gx1 w35 hI=>?_)
 ·refine zZ rfl (fun ea=>?_) (fun ea=>?_)
  ·obtain⟨co,hf3⟩:=J6 ea;have e6:=Q0 co;refine zn4 ?_;refine a7 kR (lxcode_any AT AF ct cf l fs r G SA BA cg cs cb _ (dq.mono hB.u) e6.vt e6.le (hF.mono hB.u) (SK co) (hP.mono hB.u)) rfl (fun w36 bu=>?_);refine zn9 ?_;refine xv [82,83] (fun g w'=>Bel w w'/\Blk w' b3 25 #[.slice AT l.length ct,.slice AF fs.length cf]/\Blk w' b4 36 (cF r G cg (r.mean) SA cs BA cb)/\Blk w' b5 38 (cA x Gx cy (x.mean) Sx cx Bx cz)/\Blk w' en 45 #[.int .i64 (lrV l fs r).1,.int .i64 (lrV l fs r).2]/\Blk w' em 38 (cA (z1) cr ec ((z1).mean) cq eb cp e9)/\Blk w' el 45 #[.int .i64 (apF l fs r x).1,.int .i64 (apF l fs r x).2]/\Blk w' ek 45 #[.int .i64 (lrV l fs r).1,.int .i64 (lrV l fs r).2]/\Hv l1 [] n1 w' (fun w=>NodesIn w cr z1.gr/\SimsIn w cq z1.mean.type.args/\TmsIn w cp z1.mean.args)) ?_ (fun gx2 w37 hI=>?_)
   ·replace a9:=a9.tr0 bu;refine zZ rfl (fun fg=>?_) (fun fg=>?_)
    ·have dh:lrV l fs r=(lrF l fs r,-2):=Hz ea fg;refine zn2 ?_;refine vy ?_;refine zV a2.u (fun w38 hq db=>?_);replace a9:=a9.tr db (fun g hg=> .inr (.inr (by rw[List.mem_singleton.1 hg];exact b1)));replace a2:=hq;refine qY ?_;refine e_R ⟨agA,?_⟩;replace hB:=((((((hB.tr0 (c4.t (bz.t (c8.t (c7.t (bn.t (bx.t bw))))))).tr1 bv dg).tr1 bj df).tr0 (bh.t bg)).tr1 bf ck).tr0 bu).tr1 db ck;replace ac:=((((((ac.tr0 (c4.t (bz.t (c8.t (c7.t (bn.t (bx.t bw))))))).tr1 bv oG).tr1 bj oG).tr0 (bh.t bg)).tr1 bf oG).tr0 bu).tr1 db oG;replace ad:=((((((ad.tr0 (c4.t (bz.t (c8.t (c7.t (bn.t (bx.t bw))))))).tr1 bv oG).tr1 bj oG).tr0 (bh.t bg)).tr1 bf oG).tr0 bu).tr1 db oG;replace an:=((((((an.tr0 (c4.t (bz.t (c8.t (c7.t (bn.t (bx.t bw))))))).tr1 bv oG).tr1 bj oG).tr0 (bh.t bg)).tr1 bf oG).tr0 bu).tr1 db oG;replace a5:=((((((a5.tr0 (bn.t (bx.t bw))).tr1 bv oG).tr1 bj oG).tr0 (bh.t bg)).tr1 bf oG).tr0 bu).tr1 db oG;replace a3:=((((a3.tr1 bj oG).tr0 (bh.t bg)).tr1 bf oG).tr0 bu).tr1 db oG;replace a4:=(((a4.tr0 (bh.t bg)).tr1 bf oG).tr0 bu).tr1 db oG;exact⟨hB,ac,ad,an,a5,a3,a4,(by rw[dh];exact a2),a9⟩
    have dh:lrV l fs r=ZK l fs:=(H9 ea (ak.1 fg)).trans (N8 co oG).symm;refine QK ?_;refine e_R ⟨agA,?_⟩;replace hB:=(((((hB.tr0 (c4.t (bz.t (c8.t (c7.t (bn.t (bx.t bw))))))).tr1 bv dg).tr1 bj df).tr0 (bh.t bg)).tr1 bf ck).tr0 bu;replace ac:=(((((ac.tr0 (c4.t (bz.t (c8.t (c7.t (bn.t (bx.t bw))))))).tr1 bv oG).tr1 bj oG).tr0 (bh.t bg)).tr1 bf oG).tr0 bu;replace ad:=(((((ad.tr0 (c4.t (bz.t (c8.t (c7.t (bn.t (bx.t bw))))))).tr1 bv oG).tr1 bj oG).tr0 (bh.t bg)).tr1 bf oG).tr0 bu;replace an:=(((((an.tr0 (c4.t (bz.t (c8.t (c7.t (bn.t (bx.t bw))))))).tr1 bv oG).tr1 bj oG).tr0 (bh.t bg)).tr1 bf oG).tr0 bu;replace a5:=(((((a5.tr0 (bn.t (bx.t bw))).tr1 bv oG).tr1 bj oG).tr0 (bh.t bg)).tr1 bf oG).tr0 bu;replace a3:=(((a3.tr1 bj oG).tr0 (bh.t bg)).tr1 bf oG).tr0 bu;replace a4:=((a4.tr0 (bh.t bg)).tr1 bf oG).tr0 bu;replace a2:=a2.tr0 bu;exact⟨hB,ac,ad,an,a5,a3,a4,(by rw[dh];exact a2),a9⟩
   obtain⟨hB,ac,ad,an,a5,a3,a4,a2,a9⟩:=hI;refine e_R ⟨agA,?_⟩;exact⟨hB,ac,ad,an,a5,a3,a4,(by first|exact a2|(rw[dy];exact a2)),a9⟩
  have dy:lrV l fs r=ZK l fs:=lrv_rd ea;refine QK ?_;refine e_R ⟨agA,?_⟩;replace hB:=((((hB.tr0 (c4.t (bz.t (c8.t (c7.t (bn.t (bx.t bw))))))).tr1 bv dg).tr1 bj df).tr0 (bh.t bg)).tr1 bf ck;replace ac:=((((ac.tr0 (c4.t (bz.t (c8.t (c7.t (bn.t (bx.t bw))))))).tr1 bv oG).tr1 bj oG).tr0 (bh.t bg)).tr1 bf oG;replace ad:=((((ad.tr0 (c4.t (bz.t (c8.t (c7.t (bn.t (bx.t bw))))))).tr1 bv oG).tr1 bj oG).tr0 (bh.t bg)).tr1 bf oG;replace an:=((((an.tr0 (c4.t (bz.t (c8.t (c7.t (bn.t (bx.t bw))))))).tr1 bv oG).tr1 bj oG).tr0 (bh.t bg)).tr1 bf oG;replace a5:=((((a5.tr0 (bn.t (bx.t bw))).tr1 bv oG).tr1 bj oG).tr0 (bh.t bg)).tr1 bf oG;replace a3:=((a3.tr1 bj oG).tr0 (bh.t bg)).tr1 bf oG;replace a4:=(a4.tr0 (bh.t bg)).tr1 bf oG;exact⟨hB,ac,ad,an,a5,a3,a4,(by first|exact a2|(rw[dy];exact a2)),a9⟩
 obtain⟨hB,ac,ad,an,a5,a3,a4,a2,a9⟩:=hI;refine zn6 ?_;refine wl (r_neF Tryz.eqGuardType45 ft45 Tryz.stoodInHeld45 fd45 U3 rfl rfl) (qY (e_S ?_));refine zZ rfl (fun c86=>?_) (fun c86=>?_)
 ·exact absurd ⟨rfl,rfl⟩ c86
 refine yj ?_;refine xv (rg [17] 90 7) (fun g w'=>Bel w w'/\Blk w' b3 25 #[.slice AT l.length ct,.slice AF fs.length cf]/\Blk w' b4 36 (cF r G cg (r.mean) SA cs BA cb)/\Blk w' b5 38 (cA x Gx cy (x.mean) Sx cx Bx cz)/\Blk w' en 45 #[.int .i64 (lrV l fs r).1,.int .i64 (lrV l fs r).2]/\Blk w' em 38 (cA (z1) cr ec ((z1).mean) cq eb cp e9)/\Blk w' el 45 #[.int .i64 (apF l fs r x).1,.int .i64 (apF l fs r x).2]/\Blk w' ek 45 #[.int .i64 (apF l fs r x).1,.int .i64 (apF l fs r x).2]/\Hv l1 [] n1 w' (fun w=>NodesIn w cr z1.gr/\SimsIn w cq z1.mean.type.args/\TmsIn w cp z1.mean.args)) ?_ (fun gx3 w39 hI=>?_)
 ·refine zZ rfl (fun dn=>?_) (fun dn=>?_)
  ·have co:=(J6 (XW dn).1).1;have e6:=Q0 co;refine zn4 ?_;refine a7 kR (lexr_any AT AF Gx Sx Bx ct cf cy cx cz l fs x _ (dq.mono hB) e6.vt e6.le (hF.mono hB) (SK co) (f6.mono hB) (f3.mono hB) (f2.mono hB) hwx) rfl (fun w40 bt=>?_);refine zn9 ?_;refine xv [95,96] (fun g w'=>Bel w w'/\Blk w' b3 25 #[.slice AT l.length ct,.slice AF fs.length cf]/\Blk w' b4 36 (cF r G cg (r.mean) SA cs BA cb)/\Blk w' b5 38 (cA x Gx cy (x.mean) Sx cx Bx cz)/\Blk w' en 45 #[.int .i64 (lrV l fs r).1,.int .i64 (lrV l fs r).2]/\Blk w' em 38 (cA (z1) cr ec ((z1).mean) cq eb cp e9)/\Blk w' el 45 #[.int .i64 (apF l fs r x).1,.int .i64 (apF l fs r x).2]/\Blk w' ek 45 #[.int .i64 (apF l fs r x).1,.int .i64 (apF l fs r x).2]/\Hv l1 [] n1 w' (fun w=>NodesIn w cr z1.gr/\SimsIn w cq z1.mean.type.args/\TmsIn w cp z1.mean.args)) ?_ (fun gx4 w41 hI=>?_)
   ·replace a9:=a9.tr0 bt;refine zZ rfl (fun ff=>?_) (fun ff=>?_)
    ·have dh:apF l fs r x=(Yy l fs x,-3):=ap_lx dn ff;refine zn2 ?_;refine vy ?_;refine zV a2.u (fun w42 hq da=>?_);replace a9:=a9.tr da (fun g hg=> .inr (.inr (by rw[List.mem_singleton.1 hg];exact b1)));replace a2:=hq;refine qY ?_;refine e_R ⟨agA,?_⟩;replace hB:=(hB.tr0 bt).tr1 da ck;replace ac:=(ac.tr0 bt).tr1 da oG;replace ad:=(ad.tr0 bt).tr1 da oG;replace an:=(an.tr0 bt).tr1 da oG;replace a5:=(a5.tr0 bt).tr1 da oG;replace a3:=(a3.tr0 bt).tr1 da oG;replace a4:=(a4.tr0 bt).tr1 da oG;exact⟨hB,ac,ad,an,a5,a3,a4,(by rw[dh];exact a2),a9⟩
    have dh:apF l fs r x=lrV l fs r:=(ap_ok dn (ak.1 ff)).trans (H9 (XW dn).1 (XW dn).2).symm;refine QK ?_;refine e_R ⟨agA,?_⟩;replace hB:=hB.tr0 bt;replace ac:=ac.tr0 bt;replace ad:=ad.tr0 bt;replace an:=an.tr0 bt;replace a5:=a5.tr0 bt;replace a3:=a3.tr0 bt;replace a4:=a4.tr0 bt;replace a2:=a2.tr0 bt;exact⟨hB,ac,ad,an,a5,a3,a4,(by rw[dh];exact a2),a9⟩
   obtain⟨hB,ac,ad,an,a5,a3,a4,a2,a9⟩:=hI;refine e_R ⟨agA,?_⟩;exact⟨hB,ac,ad,an,a5,a3,a4,(by first|exact a2|(rw[dy];exact a2)),a9⟩
  have dy:apF l fs r x=lrV l fs r:=ap_lr dn;refine QK ?_;refine e_R ⟨agA,?_⟩;exact⟨hB,ac,ad,an,a5,a3,a4,(by first|exact a2|(rw[dy];exact a2)),a9⟩
 obtain⟨hB,ac,ad,an,a5,a3,a4,a2,a9⟩:=hI;refine zn9 ?_;refine zZ rfl (fun fe=>?_) (fun fe=>?_)
 ·have hno:=hn1 fe;refine zn4 ?_;refine wl (r_eqF Tryz.eqGuardType45 ft45 Tryz.stoodInHeld45 fd45 U3 rfl rfl) (wl (x6 (v:= .bool true) (ag (aj ⟨rfl,rfl⟩))) (zn5 ?_));refine wl (x6 (v:= .bool true) (ag (by rw[hno.2];rfl))) (vJ ?_);refine wl (oz (v:= .bool true) (ag (aj (by rw[hno.1];rfl)))) (zn5 ?_);exact⟨rfl,hB⟩
 have hz:=ak.1 fe;obtain⟨ey,hx⟩:=ap_parts hz;obtain⟨du,f5⟩:=hy1 hz;obtain⟨hrd,hrf⟩:=XW ey;have co:=(J6 hrd).1;obtain⟨_,_,hri,hrp,hrm⟩:=O2 hrf;obtain⟨hxw,hxb,hxi⟩:=lex_of hx;have hgx:=(J7 co hxi).1;have hJ:=C5 co hri hrp;have hxm:(tmF x.mean).1=0:=by
   have e:=hx;rw[lx_ok hxw hxb hxi]at e;exact e
 have hK:TmK z1.mean:=by rw[du];exact lxR_K hrm hxm
 refine zn7 ?_;refine zW kR (applied_any AT AF ct cf l fs r x G SA BA Gx Sx Bx cg cs cb cy cx cz _ co hrf hx (dq.mono hB) (hF.mono hB) (hP.mono hB) (f6.mono hB) (f3.mono hB) (f2.mono hB)) rfl (fun e' w43 hr=>?_);obtain⟨⟨ok2,Y2,z2,A52,A62,B62,c52,c62,d62,rfl,et,hD2,f4⟩,er⟩:=hr;replace er:=sB er;obtain⟨hok,hze⟩:=lrs_det hJ hgx f5 f4;obtain rfl:z1=z2:=du.trans (hze.trans et.symm);obtain⟨wR,ew⟩:∃ z,z=w43:=⟨_,rfl⟩
 have eh:Bel wR w43:=by rw[ew];exact Below.refl _ _
 rw[<- ew]at hD2;clear ew;obtain⟨hG2,hS2,hT2⟩:=hD2;refine⟨_,rfl,?_⟩;refine wmT rfl (wl (yW (v:=_) rfl rfl) (wl (yW (v:=_) rfl rfl) ?_));refine qQ (cs:=cE) X0 rfl (fun b18 w44 dz s41 hr=>?_);have:=ac.u.ob hr;have:=ad.u.ob hr;have:=an.u.ob hr;have:=a5.u.ob hr;replace a9:=a9.tr0 er;have c0:=(nLT a9.le hr)
 have:=a3.u.ob hr;have:=a4.u.ob hr;have:=a2.u.ob hr;have lo18:=hB.u.ob hr;have de:=eh.ob hr;refine zV dz (fun w45 hq s42=>?_);replace a9:=a9.tr0 s41;replace a9:=a9.tr s42 (fun g hg=> .inr (.inr (by rw[List.mem_singleton.1 hg];exact c0)));replace dz:=hq;refine zn8 ?_;refine wl (x6 (v:= .bool true) (ag (aj hz))) (zn5 ?_);refine wl (r_eqlB U4 rfl rfl) (zn1 ?_);refine wl (x6 (v:= .bool true) (ag (by rw[hok];exact beq_self_eq_true ok2))) (zn5 ?_);refine a7 kR (lexq_any z1 cr A52 cq A62 cp B62 ec c52 eb c62 e9 d62 _ hK a9.now.1 a9.now.2.1 a9.now.2.2 (hG2.mono eh.u) (hS2.mono eh.u) (hT2.mono eh.u)) rfl (fun w46 s43=>?_);refine zn6 ?_;exact⟨rfl,hB.u⟩
section
section
variable {H:Type} {enc:TypeId×Value->H} {P:Program} {w:World} {base:Nat} {spare:Nat->Bool} {held:Bool}
theorem links_open{f0 f1:Field}{x:DataW H×List MemPlace}(ht:P.underlying t=some (.slice e))(he:P.underlying e=some (.struct #[f0,f1]))(hsz:P.cellsOf e=2)(o0:f0.offset=0)(o1:f1.offset=1)(e0:f0.type=ti)(e1:f1.type=ti)
  (hi:P.underlying ti=some (.int .i64)) (hc1:P.cellsOf ti=1) (h:DataW.trod enc P w base spare held a1 t [v]=some x):
  ∃ A xs c,v= .slice A (List.length xs) c/\xs.length<=c/\LinksIn w A xs:=by
 obtain⟨A,len,c,rfl,hl,hm,hx⟩:=Ex ht hsz dE h;by_cases h0:len=0
 ·subst h0
  exact⟨A,[],c,rfl,ah _,ah _,fun h=>absurd rfl h⟩
 ·obtain⟨b,o,rfl,hlt,hc⟩:=hx h0
  obtain⟨xs,hxl,hxs⟩:=gv (p:=fun i (z:Int×Int)=>w.rangeAt b (o+i*2) [.int .i64 z.1,.int .i64 z.2]) (n:=len) (fun i hi'=>by
   obtain⟨cs,k,y,h1,h2,h3⟩:=hc i hi';obtain⟨v0,v1,n,y0,y1,rfl,g0,g1⟩:=OK he h1 o0 o1 (by rw[e0];exact hc1) (by rw[e1];exact hc1) h3;rw[e0]at g0;rw[e1]at g1;obtain⟨z1,h5,_,_⟩:=DataW.trod_int hi g0;obtain⟨z2,h6,_,_⟩:=DataW.trod_int hi g1;rw[uq h5,uq h6]at h2
   exact⟨(z1,z2),h2⟩)
  subst hxl;exact⟨_,xs,c,rfl,hl,nLT hl hm,fun _=>⟨b,o,rfl,hlt,hxs⟩⟩
theorem nodes_open{tl te:TypeId}{f0 f1 g0 g1:Field}{x:DataW H×List MemPlace}(ht:P.underlying t=some (.slice e))(he:P.underlying e=some (.struct #[f0,f1]))(hsz:P.cellsOf e=2)(o0:f0.offset=0)(o1:f1.offset=1)(e0:f0.type=ti)(e1:f1.type=tl)
  (htl:P.underlying tl=some (.slice te)) (hte:P.underlying te=some (.struct #[g0,g1])) (hst:P.cellsOf te=2) (p0:g0.offset=0) (p1:g1.offset=1) (d0:g0.type=ti) (d1:g1.type=ti) (hcl:P.cellsOf tl=1)
  (hi:P.underlying ti=some (.int .i64)) (hc1:P.cellsOf ti=1) (h:DataW.trod enc P w base spare held a1 t [v]=some x):
  ∃ A gr c,v= .slice A (List.length gr) c/\gr.length<=c/\NodesIn w A gr:=by
 obtain⟨A,len,c,rfl,hl,hm,hx⟩:=Ex ht hsz dE h;by_cases h0:len=0
 ·subst h0
  exact⟨A,[],c,rfl,ah _,ah _,fun h=>absurd rfl h⟩
 ·obtain⟨b,o,rfl,hlt,hc⟩:=hx h0
  obtain⟨gr,hxl,hxs⟩:=gv (p:=fun i (z:Nd)=>NdIn w b (o+i*2) z) (n:=len) (fun i hi'=>by
   obtain⟨cs,k,y,h1,h2,h3⟩:=hc i hi';obtain⟨v0,v1,n,y0,y1,rfl,q0,q1⟩:=OK he h1 o0 o1 (by rw[e0];exact hc1) (by rw[e1];exact hcl) h3;rw[e0]at q0;rw[e1]at q1;obtain⟨z1,h5,_,_⟩:=DataW.trod_int hi q0;obtain⟨A',xs,c',rfl,_,hin⟩:=links_open htl hte hst p0 p1 d0 d1 hi hc1 q1;rw[uq h5]at h2
   exact⟨⟨z1,xs⟩,A',c',h2,hin⟩)
  subst hxl;exact⟨_,gr,c,rfl,hl,nLT hl hm,fun _=>⟨b,o,rfl,hlt,hxs⟩⟩
theorem one_cell{f0:Field}{x:DataW H×List MemPlace}(he:P.underlying e=some (.struct #[f0]))(hl:cs.length=1)(o0:f0.offset=0)(c0:P.cellsOf f0.type=1)(h:DataW.trod enc P w base spare held a1 e cs=some x):
  ∃ v0 n y0,cs= [v0]/\DataW.trod enc P w base spare held n f0.type [v0]=some y0:=by
 obtain⟨y0,n,_,_,h0⟩:=trod_struct1 he h
 match cs,hl with
 | [v0],_=>
  simp[o0,c0]at h0;exact⟨v0,n,y0,rfl,h0⟩
end
end
section
section
variable {H:Type} {enc:TypeId×Value->H} {P:Program} {w:World} {base:Nat} {spare:Nat->Bool} {held:Bool}
def Lw(P:Program)(t:TypeId)(d:DataW H):Prop:=∀ n∈d.weights P t,n<=reachBytes
theorem D0{e:TypeId}:∀ {l:List (DataW H)} {d:DataW H},d∈l->∀ n∈d.weights P e,n∈DataW.weightsAll P e l
 | [],_,h,_,_=>nomatch h
 | a::r,d,h,n,hn=>by
  simp only[DataW.weightsAll,List.mem_append]
  rcases av.1 h with rfl|h
  ·exact .inl hn
  ·exact .inr (D0 h n hn)
theorem flds{fs:Array Field}{x:DataW H×List MemPlace}(ht:P.underlying t=some (.struct fs))(h:DataW.trod enc P w base spare held a1 t cs=some x):
  ∃ n,n<a1/\cs.length=P.cellsOf t/\∀(i:Nat) (f:Field),fs[i]? =some f->∃ y,DataW.trod enc P w base spare held n f.type ((cs.drop f.offset).take (P.cellsOf f.type))=some y/\(Lw P t x.1->Lw P f.type y.1):=by
 obtain⟨xs,n,rfl,rfl,hl,a2,hf⟩:=DataW.trod_struct ht h;refine⟨n,aH n,hl,fun i f hi=>?_⟩;have hil:i<xs.length:=by rw[a2];exact(Array.getElem?_eq_some_iff.1 hi).1
 have h1:=hf i f hi;rw[List.getElem?_eq_getElem hil]at h1;refine⟨xs[i],h1,fun hw m hm=>hw m ?_⟩;show m∈DataW.weights P t (.agg (xs.map (·.1)));simp only[DataW.weights,ht];refine DataW.weights_mem_each (j:=i) (t:=f.type) (d:=(xs[i]).1) ?_ ?_ m hm
 ·rw[List.getElem?_map,Array.getElem?_toList,hi];rfl
 ·rw[List.getElem?_map,List.getElem?_eq_getElem hil];rfl
theorem slF{sz:Nat}{x:DataW H×List MemPlace}(ht:P.underlying t=some (.slice e))(hsz:P.cellsOf e=sz)(a2:0<sz)(h:DataW.trod enc P w base spare held a1 t [v]=some x):
  ∃ A len c,v= .slice A len c/\len<=c/\c<=vX/\(len≠0->∃ b o,A=some ⟨b,o,none⟩/\b<w.heap.size/\∀ i,i<len->∃ cs k y,k<a1/\cs.length=sz/\w.rangeAt b (o+i*sz) cs/\DataW.trod enc P w base spare held k e cs=some y/\(Lw P t x.1->Lw P e y.1)):=by
 rcases DataW.trod_slice ht h with ⟨hc,_⟩|⟨a,len,cap,elems,rest,n,rfl,hc,rfl,hb,hl,hm,hlen,hel,_⟩
 ·rw[uq hc]
  exact⟨none,0,0,rfl,ai _,ah _,fun h=>absurd rfl h⟩
 ·rw[uq hc]
  rw[hsz]at hel;have hi:∀ i (hi:i<len),∃ cs',w.cells? base (a.add (i*sz)) sz=some cs'/\DataW.trod enc P w base spare held n e cs'=some (elems[i]'oG):=fun i hi=>by
   have key:=hel i hi;rw[List.getElem?_eq_getElem oG]at key;exact Option.bind_eq_some_iff.1 key
  refine⟨some a,len,cap,rfl,hl,hm,fun h0=>?_⟩;obtain⟨b,o,s⟩:=a;have hsp:s=none/\b<w.heap.size:=by
   obtain⟨cs,h1,_⟩:=hi 0 oG;obtain⟨_,h3,h4⟩:=World.cells?_some h1;have h5:=h4 0 a2;have h6:cs[0]? =some (cs[0]'oG):=aN oG;have h7:(Addr.add (Addr.add ⟨b,o,s⟩ (0*sz)) 0)=⟨b,o,s⟩:=by simp[Addr.add]
   rw[h7,h6]at h5;exact⟨World.cell?_spot h5,Go.Clock.block_lt h5⟩
  obtain⟨rfl,hlt⟩:=hsp;refine⟨b,o,rfl,hlt,fun i hil=>?_⟩;obtain⟨cs,h1,h2⟩:=hi i oG;obtain⟨_,h3,h4⟩:=World.cells?_some h1;refine⟨cs,n,_,aH n,h3,fun j v hj=>?_,h2,fun hw m hm=>hw m ?_⟩
  ·have hjl:=(aC.1 hj).1
   have h5:=h4 j oG;rw[Addr.add_mid,Addr.add_mid]at h5;rw[h5];exact hj
  ·show m∈DataW.weights P t (.slice (elems.map (·.1)) (rest.map (·.1)))
   simp only[DataW.weights,ht,List.mem_cons,List.mem_append];exact .inr (.inl (D0 (ax.2 ⟨_,aq oG,rfl⟩) m hm))
theorem Y9{x:DataW H×List MemPlace}(ht:P.underlying t=some .string)(h:DataW.trod enc P w base spare held a1 t [v]=some x):∃ s:ByteArray,v= .string s/\(Lw P t x.1->s.size<9223372036854775807):=by
 obtain⟨s,h1,rfl,_⟩:=DataW.trod_string ht h;refine⟨s,uq h1,fun hw=>?_⟩;have:=hw s.data.toList.length (by simp[DataW.weights]);have h2:s.data.toList.length=s.size:=Array.length_toList;unfold reachBytes at this;omega
structure SmT(P:Program)(e ts tstr:TypeId)(f0 f1:Field):Prop where
 he:P.underlying e=some (.struct #[f0,f1])
 hsz:P.cellsOf e=2
 o0:f0.offset=0
 o1:f1.offset=1
 e0:f0.type=tstr
 e1:f1.type=ts
 hts:P.underlying ts=some (.slice e)
 hs:P.underlying tstr=some .string
 cs:P.cellsOf tstr=1
 ct:P.cellsOf ts=1
theorem sims_open{ts a2:TypeId}{f0 f1:Field}(T:SmT P e ts a2 f0 f1):∀(a1:Nat) (v:Value) (x:DataW H×List MemPlace),DataW.trod enc P w base spare held a1 ts [v]=some x->∃ A l c,v= .slice A (List.length l) c/\l.length<=c/\SimsIn w A l:=by
 intro a1
 induction a1 using Nat.strongRecOn with
 | ind a1 ih=>
  intro v x h;obtain⟨A,len,c,rfl,hl,hm,hx⟩:=slF T.hts T.hsz dE h;by_cases h0:len=0
  ·subst h0
   exact⟨A,[],c,rfl,ah _,.nil⟩
  ·obtain⟨b,o,rfl,hlt,hc⟩:=hx h0
   obtain⟨l,hxl,hxs⟩:=gv (p:=fun i (z:Sm)=>SimAt w b (o+i*2) z) (n:=len) (fun i hi=>by
    obtain⟨cs,k,y,hk,h1,h2,h3,_⟩:=hc i hi;obtain⟨n,hn,hlc,hf⟩:=flds T.he h3;obtain⟨y0,g0,_⟩:=hf 0 f0 rfl;obtain⟨y1,g1,_⟩:=hf 1 f1 rfl
    match cs,h1 with
    | [v0,v1],_=>
     rw[T.e0,T.o0,T.cs]at g0;rw[T.e1,T.o1,T.ct]at g1;obtain⟨s,rfl,_⟩:=Y9 T.hs (show DataW.trod enc P w base spare held n a2 [v0]=some y0 from g0);obtain⟨A',l',c',rfl,_,hin⟩:=ih n oG v1 y1 g1
     exact⟨.mk s l',.mk hlt h2 hin⟩)
   subst hxl;exact⟨_,l,c,rfl,hl,.more (nLT hl hm) hlt hxs⟩
theorem sim_open{ts a1:TypeId}{f0 f1:Field}(T:SmT P e ts a1 f0 f1){a2:Nat}{v0 v1:Value}{x:DataW H×List MemPlace}(h:DataW.trod enc P w base spare held a2 e [v0,v1]=some x):∃(s:Sm) (A:Option Addr) (c:Nat),v0= .string s.base/\v1= .slice A s.args.length c/\SimsIn w A s.args:=by
 obtain⟨n,hn,hlc,hf⟩:=flds T.he h;obtain⟨y0,g0,_⟩:=hf 0 f0 rfl;obtain⟨y1,g1,_⟩:=hf 1 f1 rfl;rw[T.e0,T.o0,T.cs]at g0;rw[T.e1,T.o1,T.ct]at g1;obtain⟨s,rfl,_⟩:=Y9 T.hs (show DataW.trod enc P w base spare held n a1 [v0]=some y0 from g0);obtain⟨A',l',c',rfl,_,hin⟩:=sims_open T n v1 y1 g1;exact⟨.mk s l',A',c',rfl,rfl,hin⟩
structure TmT(P:Program)(m tm ti tstr e ts:TypeId)(f0 f1:Field)(g0 g1 g2 g3 g4:Field):Prop where
 S:SmT P e ts tstr f0 f1
 he:P.underlying m=some (.struct #[g0,g1,g2,g3,g4])
 hsz:P.cellsOf m=6
 o0:g0.offset=0
 o1:g1.offset=1
 o2:g2.offset=2
 o3:g3.offset=3
 o4:g4.offset=5
 e0:g0.type=ti
 e1:g1.type=tstr
 e2:g2.type=ti
 e3:g3.type=e
 e4:g4.type=tm
 htm:P.underlying tm=some (.slice m)
 hi:P.underlying ti=some (.int .i64)
 ci:P.cellsOf ti=1
 ct:P.cellsOf tm=1
section tm
variable {m tm ti tstr e ts:TypeId} {f0 f1 g0 g1 g2 g3 g4:Field}
theorem LV(T:TmT P m tm ti tstr e ts f0 f1 g0 g1 g2 g3 g4){x:DataW H×List MemPlace}(hl:cs.length=6)(h:DataW.trod enc P w base spare held a1 m cs=some x):
  ∃(k i:Int) (nm:ByteArray) (s:Sm) (A:Option Addr) (c:Nat) (v:Value) (n:Nat) (y:DataW H×List MemPlace),n<a1/\cs= [.int .i64 k,.string nm,.int .i64 i,.string s.base,.slice A s.args.length c,v]/\SimsIn w A s.args/\DataW.trod enc P w base spare held n tm [v]=some y:=by
 obtain⟨n,hn,hlc,hf⟩:=flds T.he h;obtain⟨y0,q0,_⟩:=hf 0 g0 rfl;obtain⟨y1,q1,_⟩:=hf 1 g1 rfl;obtain⟨y2,q2,_⟩:=hf 2 g2 rfl;obtain⟨y3,q3,_⟩:=hf 3 g3 rfl;obtain⟨y4,q4,_⟩:=hf 4 g4 rfl
 match cs,hl with
 | [v0,v1,v2,v3,v4,v5],_=>
  rw[T.e0,T.o0,T.ci]at q0;rw[T.e1,T.o1,T.S.cs]at q1;rw[T.e2,T.o2,T.ci]at q2;rw[T.e3,T.o3,T.S.hsz]at q3;rw[T.e4,T.o4,T.ct]at q4;obtain⟨k,h5,_,_⟩:=DataW.trod_int T.hi (show DataW.trod enc P w base spare held n ti [v0]=some y0 from q0);obtain⟨nm,rfl,_⟩:=Y9 T.S.hs (show DataW.trod enc P w base spare held n tstr [v1]=some y1 from q1);obtain⟨i,h6,_,_⟩:=DataW.trod_int T.hi (show DataW.trod enc P w base spare held n ti [v2]=some y2 from q2);obtain⟨s,A,c,rfl,rfl,hS⟩:=sim_open T.S (show DataW.trod enc P w base spare held n e [v3,v4]=some y3 from q3);rw[uq h5,uq h6];exact⟨k,i,nm,s,A,c,v5,n,y4,hn,rfl,hS,q4⟩
theorem tms_open(T:TmT P m tm ti tstr e ts f0 f1 g0 g1 g2 g3 g4):∀(a1:Nat) (v:Value) (x:DataW H×List MemPlace),DataW.trod enc P w base spare held a1 tm [v]=some x->∃ A l c,v= .slice A (List.length l) c/\l.length<=c/\TmsIn w A l:=by
 intro a1
 induction a1 using Nat.strongRecOn with
 | ind a1 ih=>
  intro v x h;obtain⟨A,len,c,rfl,hl,hm,hx⟩:=slF T.htm T.hsz dE h;by_cases h0:len=0
  ·subst h0
   exact⟨A,[],c,rfl,ah _,.nil⟩
  ·obtain⟨b,o,rfl,hlt,hc⟩:=hx h0
   obtain⟨l,hxl,hxs⟩:=gv (p:=fun i (z:Tm)=>TmAt w b (o+i*6) z) (n:=len) (fun i hi=>by
    obtain⟨cs,k,y,hk,h1,h2,h3,_⟩:=hc i hi;obtain⟨kd,ix,nm,s,A1,c1,v',n,y',hn,rfl,hS,h4⟩:=LV T h1 h3;obtain⟨A',l',c',rfl,_,hin⟩:=ih n oG v' y' h4
    exact⟨.mk kd nm ix s l',.mk hlt h2 hS hin⟩)
   subst hxl;exact⟨_,l,c,rfl,hl,.more (nLT hl hm) hlt hxs⟩
theorem tm_open(T:TmT P m tm ti tstr e ts f0 f1 g0 g1 g2 g3 g4){x:DataW H×List MemPlace}(hl:cs.length=6)(h:DataW.trod enc P w base spare held a1 m cs=some x):
  ∃(t:Tm) (A:Option Addr) (c:Nat) (B:Option Addr) (d:Nat),cs= [.int .i64 t.kind,.string t.name,.int .i64 t.index,.string t.type.base,.slice A t.type.args.length c,.slice B t.args.length d]/\SimsIn w A t.type.args/\TmsIn w B t.args:=by
 obtain⟨kd,ix,nm,s,A1,c1,v',n,y',hn,rfl,hS,h4⟩:=LV T hl h;obtain⟨A',l',c',rfl,_,hin⟩:=tms_open T n v' y' h4;exact⟨.mk kd nm ix s l',A1,c1,A',c',rfl,hS,hin⟩
end tm
structure GrfT(P:Program)(tg tn e ti tl te:TypeId)(q0 f0 f1 g0 g1:Field):Prop where
 hg:P.underlying tg=some (.struct #[q0])
 hgz:P.cellsOf tg=1
 r0:q0.offset=0
 s0:q0.type=tn
 hcn:P.cellsOf tn=1
 htn:P.underlying tn=some (.slice e)
 he:P.underlying e=some (.struct #[f0,f1])
 hsz:P.cellsOf e=2
 o0:f0.offset=0
 o1:f1.offset=1
 e0:f0.type=ti
 e1:f1.type=tl
 htl:P.underlying tl=some (.slice te)
 hte:P.underlying te=some (.struct #[g0,g1])
 hst:P.cellsOf te=2
 p0:g0.offset=0
 p1:g1.offset=1
 d0:g0.type=ti
 d1:g1.type=ti
 hcl:P.cellsOf tl=1
 hi:P.underlying ti=some (.int .i64)
 hc1:P.cellsOf ti=1
theorem gr_open{tg tn tl te:TypeId}{q0 f0 f1 g0 g1:Field}(T:GrfT P tg tn e ti tl te q0 f0 f1 g0 g1){x:DataW H×List MemPlace}(h:DataW.trod enc P w base spare held a1 tg [v]=some x):∃ A gr c,v= .slice A (List.length gr) c/\NodesIn w A gr:=by
 obtain⟨v0,n,y0,h1,h2⟩:=one_cell T.hg rfl T.r0 (by rw[T.s0];exact T.hcn) h;rw[T.s0]at h2;obtain⟨A,gr,c,rfl,_,hin⟩:=nodes_open T.htn T.he T.hsz T.o0 T.o1 T.e0 T.e1 T.htl T.hte T.hst T.p0 T.p1 T.d0 T.d1 T.hcl T.hi T.hc1 h2;exact⟨A,gr,c,uq h1,hin⟩
section rl
variable {m tm ti tstr e ts:TypeId} {f0 f1 g0 g1 g2 g3 g4:Field} {tg tn te' tl tk:TypeId} {q0 a0 a1 b0 b1:Field}
end rl
theorem lw_arg{ts:List TypeId}{ds:List (DataW H)}(h:(DataW.weightsEach P ts ds).all (·<=reachBytes)=true){j:Nat}{d:DataW H}(ht:ts[j]? =some t)(hd:ds[j]? =some d):Lw P t d:=fun n hn=>by
 have:=aF.1 h _ (DataW.weights_mem_each ht hd n hn)
 simpa using this
end
end
section
section
variable {H:Type} {enc:TypeId×Value->H} {P:Program} {w:World} {base:Nat} {spare:Nat->Bool} {held:Bool}
variable {m tm ti tstr e ts:TypeId} {f0 f1 g0 g1 g2 g3 g4:Field} {tg tn te' tl tk:TypeId} {q0 a0 a1 b0 b1:Field}
theorem lr_open{r:TypeId}{x0 x1 x2 x3 x4 x5:Field}(T:TmT P m tm ti tstr e ts f0 f1 g0 g1 g2 g3 g4)(G:GrfT P tg tn te' ti tl tk q0 a0 a1 b0 b1)(hr:P.underlying r=some (.struct #[x0,x1,x2,x3,x4,x5]))
  (o0:x0.offset=0) (o1:x1.offset=1) (o2:x2.offset=2) (o3:x3.offset=3) (o4:x4.offset=4) (o5:x5.offset=5) (t0:x0.type=tstr) (t1:x1.type=tstr) (t2:x2.type=tstr) (t3:x3.type=tg) (t4:x4.type=ti) (t5:x5.type=m) {a3:Nat} {v0 v1 v2 v3 v4 v5 v6 v7 v8 v9 a2:Value} {x:DataW H×List MemPlace} (hw:Lw P r x.1) (h:DataW.trod enc P w base spare held a3 r [v0,v1,v2,v3,v4,v5,v6,v7,v8,v9,a2]=some x):
  ∃(z:Lr) (B A2 B2:Option Addr) (d c2 d2:Nat),[v0,v1,v2,v3,v4,v5,v6,v7,v8,v9,a2]= [.string z.name,.string z.cut,.string z.add,.slice B z.gr.length d,.int .i64 z.wt,.int .i64 z.mean.kind,.string z.mean.name,.int .i64 z.mean.index,.string z.mean.type.base,.slice A2 z.mean.type.args.length c2,.slice B2 z.mean.args.length d2]/\LrP w z B A2 B2:=by
 obtain⟨n,hn,hlc,hf⟩:=flds hr h;obtain⟨y0,p0,_⟩:=hf 0 x0 rfl;obtain⟨y1,p1,w1⟩:=hf 1 x1 rfl;obtain⟨y2,p2,w2⟩:=hf 2 x2 rfl;obtain⟨y3,p3,_⟩:=hf 3 x3 rfl;obtain⟨y4,p4,_⟩:=hf 4 x4 rfl;obtain⟨y5,p5,_⟩:=hf 5 x5 rfl;rw[t0,o0,T.S.cs]at p0;rw[t1,o1,T.S.cs]at p1;rw[t2,o2,T.S.cs]at p2;rw[t1]at w1;rw[t2]at w2;rw[t3,o3,G.hgz]at p3;rw[t4,o4,T.ci]at p4;rw[t5,o5,T.hsz]at p5;obtain⟨nm,rfl,_⟩:=Y9 T.S.hs (show DataW.trod enc P w base spare held n tstr [v0]=some y0 from p0);obtain⟨ct,rfl,hc⟩:=Y9 T.S.hs (show DataW.trod enc P w base spare held n tstr [v1]=some y1 from p1);obtain⟨ad,rfl,ha⟩:=Y9 T.S.hs (show DataW.trod enc P w base spare held n tstr [v2]=some y2 from p2);obtain⟨B,gr,d,rfl,hG⟩:=gr_open G (show DataW.trod enc P w base spare held n tg [v3]=some y3 from p3);obtain⟨wt,h6,_,_⟩:=DataW.trod_int T.hi (show DataW.trod enc P w base spare held n ti [v4]=some y4 from p4);obtain⟨tt,A2,c2,B2,d2,h7,hS,hT⟩:=tm_open T rfl (show DataW.trod enc P w base spare held n m [v5,v6,v7,v8,v9,a2]=some y5 from p5);rw[uq h6,h7];exact⟨⟨nm,ct,ad,gr,wt,tt⟩,B,A2,B2,d,c2,d2,rfl,⟨hG,hS,hT,hc (w1 hw),ha (w2 hw)⟩⟩
theorem lx_open{r:TypeId}{x0 x1 x2 x3:Field}(T:TmT P m tm ti tstr e ts f0 f1 g0 g1 g2 g3 g4)(G:GrfT P tg tn te' ti tl tk q0 a0 a1 b0 b1)(hr:P.underlying r=some (.struct #[x0,x1,x2,x3]))
  (o0:x0.offset=0) (o1:x1.offset=1) (o2:x2.offset=2) (o3:x3.offset=3) (t0:x0.type=tstr) (t1:x1.type=tg) (t2:x2.type=ti) (t3:x3.type=m) {a2:Nat} {v0 v1 v2 v3 v4 v5 v6 v7 v8:Value} {x:DataW H×List MemPlace} (hw:Lw P r x.1) (h:DataW.trod enc P w base spare held a2 r [v0,v1,v2,v3,v4,v5,v6,v7,v8]=some x):
  ∃(z:Lx) (B A2 B2:Option Addr) (d c2 d2:Nat),[v0,v1,v2,v3,v4,v5,v6,v7,v8]= [.string z.word,.slice B z.gr.length d,.int .i64 z.wt,.int .i64 z.mean.kind,.string z.mean.name,.int .i64 z.mean.index,.string z.mean.type.base,.slice A2 z.mean.type.args.length c2,.slice B2 z.mean.args.length d2]/\z.word.size<9223372036854775807/\NodesIn w B z.gr/\SimsIn w A2 z.mean.type.args/\TmsIn w B2 z.mean.args:=by
 obtain⟨n,hn,hlc,hf⟩:=flds hr h;obtain⟨y0,p0,hw0⟩:=hf 0 x0 rfl;obtain⟨y1,p1,_⟩:=hf 1 x1 rfl;obtain⟨y2,p2,_⟩:=hf 2 x2 rfl;obtain⟨y3,p3,_⟩:=hf 3 x3 rfl;rw[t0,o0,T.S.cs]at p0;rw[t0]at hw0;rw[t1,o1,G.hgz]at p1;rw[t2,o2,T.ci]at p2;rw[t3,o3,T.hsz]at p3;obtain⟨nm,rfl,hws⟩:=Y9 T.S.hs (show DataW.trod enc P w base spare held n tstr [v0]=some y0 from p0);obtain⟨B,gr,d,rfl,hG⟩:=gr_open G (show DataW.trod enc P w base spare held n tg [v1]=some y1 from p1);obtain⟨wt,h6,_,_⟩:=DataW.trod_int T.hi (show DataW.trod enc P w base spare held n ti [v2]=some y2 from p2);obtain⟨tt,A2,c2,B2,d2,h7,hS,hT⟩:=tm_open T rfl (show DataW.trod enc P w base spare held n m [v3,v4,v5,v6,v7,v8]=some y3 from p3);rw[uq h6,h7];exact⟨⟨nm,gr,wt,tt⟩,B,A2,B2,d,c2,d2,rfl,hws (hw0 hw),hG,hS,hT⟩
end
end
end Go.Proofs.YtndbjnkilegebaaGreatDoor
