/- Plain laws, and steps of programs, at every world. -/
import Derived.Test.YtiofaflajkgiaaaGreatDoorPInto
import Derived.Test.YtiofaflajkgiaaaGreatDoorComp
import Derived.Test.YtiofaflajkgiaaaGreatDoorRng
import Derived.Test.YtiofaflajkgiaaaGreatDoorPFind
namespace Go.Proofs.YtiofaflajkgiaaaGreatDoor
open Go.RowKit
section
section lub
variable {l:List Ty} {fs:List Ft} {ga gb:List Nd}
theorem pair_adm{c:List Nd}{φ ψ:Nat->Nat}(hφ:Hom l ga c φ)(hψ:Hom l gb c ψ)(hya:GY l ga)(hyb:GY l gb):Adm l (ga++gb.map (shN ga.length)) c (fun i=>if i<ga.length then φ i else ψ (i-ga.length)):=by
 have a2:(ga++gb.map (shN ga.length)).length=ga.length+gb.length:=by simp
 have a1:∀ i,i<ga.length+gb.length->¬i<ga.length->nd (ga++gb.map (shN ga.length)) i=shN ga.length (nd gb (i-ga.length))/\i-ga.length<gb.length:=fun i hi hn=>by
  have hl:i-ga.length<gb.length:=by omega
  have h:=oz (U:=ga) hl;rw[show ga.length+(i-ga.length)=i by omega]at h;exact⟨h,hl⟩
 refine⟨fun i hi=>?_,fun i hi=>?_,fun i hi x hx=>?_⟩<;>rw[a2]at hi<;>by_cases e:i<ga.length
 ·simp only[if_pos e];exact hφ.lt i e
 ·simp only[if_neg e];exact hψ.lt _ (a1 i hi e).2
 ·simp only[if_pos e];rw[uQ e];exact hφ.ty i e
 ·simp only[if_neg e];rw[(a1 i hi e).1];exact hψ.ty _ (a1 i hi e).2
 ·simp only[if_pos e]
  rw[uQ e]at hx;have h1:=hya.lr i e x hx;rw[if_pos h1.2];exact hφ.ln i e x hx
 ·simp only[if_neg e]
  rw[(a1 i hi e).1]at hx;obtain⟨y,hy,rfl⟩:=au.1 hx;have h1:=hyb.lr _ (a1 i hi e).2 y hy;have e1:(y.2+(ga.length:Int)).toNat=y.2.toNat+ga.length:=by omega
  simp only[e1];rw[if_neg oG,show y.2.toNat+ga.length-ga.length=y.2.toNat by omega];exact hψ.ln _ (a1 i hi e).2 y hy
structure Lub(l:List Ty)(ga gb X:List Nd):Prop where
 gx:GX l X
 left:Maps l ga X
 right:Maps l gb X
 least:∀ c,GY l c->Maps l ga c->Maps l gb c->Maps l X c
 can:∃ o,DL X [0] [] o/\yQ X o=X
theorem uni_lub{X:List Nd}(a2:GX l ga)(a5:GX l gb)(h:QV l (ga++gb.map (shN ga.length)) [(0,ga.length)] X):Lub l ga gb X:=by
 obtain⟨P,rep,ρ,T,L,o,a1,hd,rfl⟩:=h;have hlen:(ga++gb.map (shN ga.length)).length=ga.length+gb.length:=by simp
 have hp:=a2.pos;have hpb:=a5.pos;have h0:0<(ga++gb.map (shN ga.length)).length:=by omega
 have hgy:=a1.gy a2.vt h0;have hr:=a1.uf.rl 0 h0;have a3:=a1.uf.two h0;have t:=hgy.trr (r:=rep 0) (by rw[yK];exact hr) hd;have hj:rep 0=rep ga.length:=a1.jcov (0,ga.length) (by simp) rep ⟨fun i hi=>(a1.uf.two hi).symm,fun w hw=>by cases hw⟩;have z0:∀ x:Nd,shN 0 x=x:=fun x=>VW rfl (by simp[shN])
 refine⟨t.gx hgy,?_,?_,fun c hc ha hb=>?_,⟨_,?_,t.can2 t.has t.dl⟩⟩
 ·obtain⟨φ,h1,h2,h3,h4,h5⟩:=a1.into a2.vt hr a3 t (g:=ga) (s:=0) a2 (fun i hi=>by
   rw[Nat.zero_add,z0]
   exact⟨by omega,uQ hi⟩) t.has
  exact⟨φ,by rw[h1];exact t.zero,h3,h4,h5⟩
 ·obtain⟨φ,h1,h2,h3,h4,h5⟩:=a1.into a2.vt hr a3 t (g:=gb) (s:=ga.length) a5 (fun i hi=>⟨by omega,oz hi⟩) (by rw[<- hj];exact t.has)
  exact⟨φ,by rw[h1,<- hj];exact t.zero,h3,h4,h5⟩
 ·obtain⟨φ,hφ⟩:=ha
  obtain⟨ψ,hψ⟩:=hb;have hA:=pair_adm hφ hψ a2.toGY a5.toGY;have hJ:∀ p∈[((0:Nat),ga.length)],(fun i=>if i<ga.length then φ i else ψ (i-ga.length)) p.1=(fun i=>if i<ga.length then φ i else ψ (i-ga.length)) p.2:=fun p hpm=>by
   rw[List.mem_singleton.1 hpm];simp[hp,hφ.zero,hψ.zero]
  have a4:=(a1.only c _ hc.tr hA hJ).1.1 0 h0;refine a1.least hr a3 t hc.tr hA hJ ?_;exact a4.symm.trans (by simp[hp,hφ.zero])
 ·have:=t.dl2 t.has t.dl
  rw[t.zero]at this;exact this
theorem uni_valid{X:List Nd}(ha:GV l fs ga)(hb:GV l fs gb)(h:QV l (ga++gb.map (shN ga.length)) [(0,ga.length)] X)(h60:X.length<=60):yJ l fs X=(0,0):=by
 have hl:=uni_lub ha.gx hb.gx h;obtain⟨P,rep,ρ,T,L,o,a2,hd,rfl⟩:=h;have a4:(ga++gb.map (shN ga.length)).length=ga.length+gb.length:=by simp
 have h0:0<(ga++gb.map (shN ga.length)).length:=by have:=ha.gok.pos;omega
 have hgy:=a2.gy ha.s.vt h0;have hr:=a2.uf.rl 0 h0;have t:=hgy.trr (r:=rep 0) (by rw[yK];exact hr) hd
 have a1:=a2.fit (fs:=fs) ha.s.vt hr (a2.uf.two h0) t (fun i hi x hx=>by
  rw[a4]at hi;by_cases e:i<ga.length
  ·rw[uQ e]at hx ⊢
   have h1:=ha.lt e hx;have h2:=(ha.gx.lr i e x hx).2;rw[uQ h2];exact⟨⟨h1.1,h1.2.1⟩,h1.2.2⟩
  ·have a3:i-ga.length<gb.length:=by omega
   have h3:=oz (U:=ga) a3;rw[show ga.length+(i-ga.length)=i by omega]at h3;rw[h3]at hx ⊢;obtain⟨y,hy,rfl⟩:=au.1 hx;have h1:=hb.lt a3 hy;have h2:=(hb.gx.lr _ a3 y hy).2;have h4:=(hb.gx.lr _ a3 y hy).1;have e1:(y.2+(ga.length:Int)).toNat=ga.length+y.2.toNat:=by omega
   simp only[e1];rw[oz h2]
   exact⟨⟨h1.1,h1.2.1⟩,h1.2.2⟩)
 exact gf_mk ha.h hl.gx h60 a1.1 a1.2
theorem Lub.uniq{X Y:List Nd}(h:Lub l ga gb X)(k:Lub l ga gb Y):X=Y:=by
 obtain⟨o,ho,e⟩:=h.can;obtain⟨p,hp,e2⟩:=k.can;have:=can_eq h.gx k.gx (h.least Y k.gx.toGY k.left k.right) (k.least X h.gx.toGY h.left h.right) ho hp;rw[e,e2]at this;exact this.symm
end lub
end
section
section stp
variable {l:List Ty} {fs:List Ft} {ga gb X Y:List Nd} {j:Nat}
def vQ(ga gb:List Nd):List Nd:=ga++gb.map (shN ga.length)
theorem Qv(ga gb:List Nd):(vQ ga gb).length=ga.length+gb.length:=by simp[vQ]
theorem JK{i:Nat}(h:i<ga.length):nd (vQ ga gb) i=nd ga i:=uQ h
theorem M6{i:Nat}(h:i<ga.length+gb.length)(hn:¬i<ga.length):nd (vQ ga gb) i=shN ga.length (nd gb (i-ga.length))/\i-ga.length<gb.length:=by
 have hl:i-ga.length<gb.length:=by omega
 have h2:=oz (U:=ga) hl;rw[show ga.length+(i-ga.length)=i by omega]at h2;exact⟨h2,hl⟩
theorem Zk(a2:GX l ga)(a4:GX l gb)(hj:j<ga.length){P rep ρ:Nat->Nat}{T:Nat->Int}{L:Nat->List (Int×Int)}{o:List Nat}(a1:US l (vQ ga gb) [(j,ga.length)] P rep ρ T L [])(hd:DL (yy (vQ ga gb).length rep T L) [rep 0] [] o):
  TrR (yy (vQ ga gb).length rep T L) (rep 0) o/\GX l (yQ (yy (vQ ga gb).length rep T L) o)/\Maps l ga (yQ (yy (vQ ga gb).length rep T L) o)/\Adm l (vQ ga gb) (yQ (yy (vQ ga gb).length rep T L) o) (fun i=>o.idxOf (rep i))/\o.idxOf (rep 0)=0/\o.idxOf (rep j)=o.idxOf (rep ga.length):=by
 have a3:=Qv ga gb;have hp:=a2.pos;have hpb:=a4.pos;have h0:0<(vQ ga gb).length:=by omega
 have hgy:=a1.gy a2.vt h0;have hr:=a1.uf.rl 0 h0;have hrr:=a1.uf.two h0;have t:=hgy.trr (r:=rep 0) (by rw[yK];exact hr) hd;have hjr:rep j=rep ga.length:=a1.jcov (j,ga.length) (by simp) rep ⟨fun i hi=>(a1.uf.two hi).symm,fun w hw=>by cases hw⟩;have z0:∀ x:Nd,shN 0 x=x:=fun x=>VW rfl (by simp[shN])
 obtain⟨φ,h1,h2,h3,h4,h5⟩:=a1.into a2.vt hr hrr t (g:=ga) (s:=0) a2 (fun i hi=>by
  rw[Nat.zero_add,z0]
  exact⟨by omega,uQ hi⟩) t.has
 obtain⟨ψ,k1,k2,k3,k4,k5⟩:=a1.into a2.vt hr hrr t (g:=gb) (s:=ga.length) a4 (fun i hi=>⟨by omega,oz hi⟩) (by rw[<- hjr];have:=(h2 j hj).1;rwa[Nat.zero_add]at this);have e1:∀ i,i<ga.length->o.idxOf (rep i)=φ i:=fun i hi=>by have:=(h2 i hi).2;rw[Nat.zero_add]at this;exact this.symm
 have e2:∀ i,i<gb.length->o.idxOf (rep (ga.length+i))=ψ i:=fun i hi=>((k2 i hi).2).symm
 refine⟨t,t.gx hgy,⟨φ,by rw[h1];exact t.zero,h3,h4,h5⟩,⟨fun i hi=>?_,fun i hi=>?_,fun i hi x hx=>?_⟩,t.zero,by rw[hjr]⟩<;>rw[a3]at hi<;>by_cases e:i<ga.length
 ·rw[e1 i e];exact h3 i e
 ·obtain⟨_,hl⟩:=M6 hi e
  have:=e2 _ hl;rw[show ga.length+(i-ga.length)=i by omega]at this;rw[this];exact k3 _ hl
 ·simp only[e1 i e];rw[JK e];exact h4 i e
 ·obtain⟨hn,hl⟩:=M6 hi e
  have:=e2 _ hl;rw[show ga.length+(i-ga.length)=i by omega]at this;simp only[this];rw[hn];exact k4 _ hl
 ·simp only[e1 i e]
  rw[JK e]at hx;have hxr:=a2.lr i e x hx;rw[h5 i e x hx,e1 _ hxr.2]
 ·obtain⟨hn,hl⟩:=M6 hi e
  have he:=e2 _ hl;rw[show ga.length+(i-ga.length)=i by omega]at he;simp only[he];rw[hn]at hx;obtain⟨y,hy,rfl⟩:=au.1 hx;have hyr:=a4.lr _ hl y hy;rw[k5 _ hl y hy];have e3:(y.2+(ga.length:Int)).toNat=ga.length+y.2.toNat:=by omega
  simp only[e3];rw[e2 _ hyr.2]
theorem T5(hga:GX l ga)(hgb:GX l gb)(hj:j<ga.length)(h:QV l (vQ ga gb) [(j,ga.length)] X):GX l X/\Maps l ga X:=by
 obtain⟨P,rep,ρ,T,L,o,hus,hd,rfl⟩:=h;obtain⟨_,a,b,_⟩:=Zk hga hgb hj hus hd;exact⟨a,b⟩
theorem stp_bound(hga:GX l ga)(hgb:GX l gb)(hj:j<ga.length)(h:QV l (vQ ga gb) [(j,ga.length)] X):M1 l (vQ ga gb) [(j,ga.length)]:=by
 obtain⟨P,rep,ρ,T,L,o,hus,hd,rfl⟩:=h;obtain⟨_,a,_,b,_,c⟩:=Zk hga hgb hj hus hd;exact⟨_,_,a.tr,b,fun p hp=>by rw[List.mem_singleton.1 hp];exact c⟩
theorem stp_le(a5:GX l ga)(hgb:GX l gb)(hj:j<ga.length)(h:QV l (vQ ga gb) [(j,ga.length)] X)(k:QV l (vQ ga gb) [(j,ga.length)] Y):Maps l X Y:=by
 obtain⟨P,rep,ρ,T,L,o,a2,hd,rfl⟩:=h;obtain⟨P',a1,ρ',T',L',o',a3,hd',rfl⟩:=k;obtain⟨t,_⟩:=Zk a5 hgb hj a2 hd;obtain⟨_,a,_,b,c,d⟩:=Zk a5 hgb hj a3 hd';have h0:0<(vQ ga gb).length:=by have:=Qv ga gb;have:=a5.pos;omega
 have hJ:∀ p∈[(j,ga.length)],(fun i=>o'.idxOf (a1 i)) p.1=(fun i=>o'.idxOf (a1 i)) p.2:=fun p hp=>by rw[List.mem_singleton.1 hp];exact d
 have a4:=(a2.only _ _ a.tr b hJ).1.1 0 h0;exact a2.least (a2.uf.rl 0 h0) (a2.uf.two h0) t a.tr b hJ (a4.symm.trans c)
theorem stp_uniq(a2:GX l ga)(a1:GX l gb)(hj:j<ga.length)(h:QV l (vQ ga gb) [(j,ga.length)] X)(k:QV l (vQ ga gb) [(j,ga.length)] Y):X=Y:=by
 have m1:=stp_le a2 a1 hj h k;have m2:=stp_le a2 a1 hj k h;have gx:=(T5 a2 a1 hj h).1;have gy:=(T5 a2 a1 hj k).1;have cX:∃ o,DL X [0] [] o/\yQ X o=X:=by
  obtain⟨P,rep,ρ,T,L,o,a3,hd,rfl⟩:=h;obtain⟨t,_⟩:=Zk a2 a1 hj a3 hd;exact⟨_,by have:=t.dl2 t.has t.dl;rw[t.zero]at this;exact this,t.can2 t.has t.dl⟩
 have cY:∃ o,DL Y [0] [] o/\yQ Y o=Y:=by
  obtain⟨P,rep,ρ,T,L,o,a3,hd,rfl⟩:=k;obtain⟨t,_⟩:=Zk a2 a1 hj a3 hd;exact⟨_,by have:=t.dl2 t.has t.dl;rw[t.zero]at this;exact this,t.can2 t.has t.dl⟩
 obtain⟨o,ho,e⟩:=cX;obtain⟨p,hp,e2⟩:=cY;have:=can_eq gx gy m1 m2 ho hp;rw[e,e2]at this;exact this.symm
theorem stp_valid(ha:GV l fs ga)(hb:GV l fs gb)(hj:j<ga.length)(h:QV l (vQ ga gb) [(j,ga.length)] X)(h60:X.length<=60):yJ l fs X=(0,0):=by
 have hl:=(T5 ha.gx hb.gx hj h).1;obtain⟨P,rep,ρ,T,L,o,a2,hd,rfl⟩:=h;have a3:=Qv ga gb;have h0:0<(vQ ga gb).length:=by have:=ha.gok.pos;omega
 obtain⟨t,_⟩:=Zk ha.gx hb.gx hj a2 hd
 have a1:=a2.fit (fs:=fs) ha.s.vt (a2.uf.rl 0 h0) (a2.uf.two h0) t (fun i hi x hx=>by
  rw[a3]at hi;by_cases e:i<ga.length
  ·rw[JK e]at hx ⊢
   have h1:=ha.lt e hx;have h2:=(ha.gx.lr i e x hx).2;rw[JK h2];exact⟨⟨h1.1,h1.2.1⟩,h1.2.2⟩
  ·obtain⟨h3,a4⟩:=M6 hi e
   rw[h3]at hx ⊢;obtain⟨y,hy,rfl⟩:=au.1 hx;have h1:=hb.lt a4 hy;have h2:=(hb.gx.lr _ a4 y hy).2;have h4:=(hb.gx.lr _ a4 y hy).1;have e1:(y.2+(ga.length:Int)).toNat=ga.length+y.2.toNat:=by omega
   simp only[e1];rw[show nd (vQ ga gb) (ga.length+y.2.toNat)=_ from oz h2]
   exact⟨⟨h1.1,h1.2.1⟩,h1.2.2⟩)
 exact gf_mk ha.h hl h60 a1.1 a1.2
def plc(g:List Nd)(f:Int):Int:=tgt (nd g 0).ln f
theorem stp_plc(hga:GX l ga)(hgb:GX l gb)(hj:j<ga.length)(h:QV l (vQ ga gb) [(j,ga.length)] X){f:Int}(hf:0<=plc ga f):0<=plc X f:=by
 obtain⟨φ,hφ⟩:=(T5 hga hgb hj h).2;unfold plc at hf ⊢;rcases T1 (xs:=(nd ga 0).ln) (f:=f)with e|⟨y,hy,e1,_⟩
 ·omega
 ·have:=hφ.ln 0 hga.pos y hy
  rw[hφ.zero,e1]at this;omega
structure Jok(l:List Ty)(fs:List Ft)(m:Int)(g:List Nd):Prop where
 v:GV l fs g
 z:yJ l fs g=(0,0)
 p:∀ f:Int,0<=f->f<=m->0<=plc g f
theorem Jok.lt{m f:Int}{g:List Nd}(h:Jok l fs m g)(h0:0<=f)(hm:f<=m):(plc g f).toNat<g.length:=by
 have hp:=h.p f h0 hm;rcases T1 (xs:=(nd g 0).ln) (f:=f)with e|⟨y,hy,e1,e2⟩
 ·unfold plc at hp;omega
 ·have:=(h.v.gx.lr 0 h.v.gx.pos y hy).2
  unfold plc;rw[e2];exact this
theorem Jok.step{m f:Int}{k:List Nd}(h:Jok l fs m ga)(hk:GV l fs k)(h0:0<=f)(hm:f<=m)(hX:QV l (vQ ga k) [((plc ga f).toNat,ga.length)] X)(h60:X.length<=60):Jok l fs m X:=by
 have z:=stp_valid h.v hk (h.lt h0 hm) hX h60;exact⟨H5 (by rw[z]),z,fun q q0 qm=>stp_plc h.v.gx hk.gx (h.lt h0 hm) hX (h.p q q0 qm)⟩
def BadU(l:List Ty)(U:List Nd)(J:List (Nat×Nat)):Prop:=¬M1 l U J\/∃ X,QV l U J X/\60<X.length
def Yz(l:List Ty):List Nd->Nat->List (List Nd)->Bool->List Nd->Prop
 | x,_,[],ok,Y=>ok=true/\∃ o,DL x [(plc x 0).toNat] [] o/\Y=yQ x o
 | x,i,k::ks,ok,Y=>(∃ X,QV l (vQ x k) [((plc x ((i:Int)+1)).toNat,x.length)] X/\X.length<=60/\Yz l X (i+1) ks ok Y)\/(BadU l (vQ x k) [((plc x ((i:Int)+1)).toNat,x.length)]/\ok=false/\Y= [])
theorem join_no{x k:List Nd}{i:Nat}{ks:List (List Nd)}(h:BadU l (vQ x k) [((plc x ((i:Int)+1)).toNat,x.length)]):Yz l x i (k::ks) false []:= .inr ⟨h,rfl,rfl⟩
theorem Xq{g:List Nd}(h:(zY l fs).1=0)(h2:(x7 l fs g).1=0):GV l fs g/\yJ l fs g=(0,0):=by
 have e:(yJ l fs g).1=0:=by rw[KV h];exact h2
 have hv:=H5 e;exact⟨hv,by rw[KV h,XY hv.lo hv.t hv.u]⟩
theorem jok_rule{r:Rl}(h:(zY l fs).1=0)(h2:(x7 l fs r.gr).1=0)(h3:gj r.gr r.kids=true)(h4:r.kids<=3):Jok l fs r.kids r.gr:=by
 obtain⟨hv,hz⟩:=Xq h h2;refine⟨hv,hz,fun f f0 fm=>?_⟩;obtain⟨n,hn⟩:=Int.eq_ofNat_of_zero_le f0;subst hn;have:=aD.1 h3 n (ax.2 oG);unfold plN at this;have e:decide ((n:Int)<=r.kids)=true:=ah fm;rw[e]at this;have h5:(0:Int)<=tgt (NK r.gr 0).ln (n:Int):=by simpa using this
 exact h5
end stp
end
section
section mon
variable {l:List Ty} {fs:List Ft} {x z k k2 X Z:List Nd} {j:Nat} {φ χ:Nat->Nat}
theorem stp_len{U:List Nd}{J:List (Nat×Nat)}(hl:VT l)(h0:0<U.length)(h:QV l U J X):X.length<=U.length:=by
 obtain⟨P,rep,ρ,T,L,o,hus,hd,rfl⟩:=h;have hgy:=hus.gy hl h0;have t:=hgy.trr (r:=rep 0) (by rw[yK];exact hus.uf.rl 0 h0) hd;have:=t.ok.cnt;rw[yK]at this;rw[oQ];omega
theorem adm_comp(hx:GX l x)(hk:GX l k)(hφ:Hom l x z φ)(hχ:Hom l k k2 χ){c:List Nd}{θ:Nat->Nat}(h:Adm l (vQ z k2) c θ):Adm l (vQ x k) c (fun i=>if i<x.length then θ (φ i)else θ (z.length+χ (i-x.length))):=by
 have a2:=Qv x k;have hlen2:=Qv z k2;have hl:=hx.vt;refine⟨fun i hi=>?_,fun i hi=>?_,fun i hi y hy=>?_⟩<;>rw[a2]at hi<;>by_cases e:i<x.length
 ·simp only[if_pos e];have:=hφ.lt i e;exact h.lt _ oG
 ·simp only[if_neg e]
  obtain⟨_,a1⟩:=M6 hi e;have:=hχ.lt _ a1;exact h.lt _ oG
 ·simp only[if_pos e]
  have hz:=hφ.lt i e;have h1:=h.ty (φ i) oG;rw[JK hz]at h1;rw[JK e];exact QK hl h1 (hφ.ty i e)
 ·simp only[if_neg e]
  obtain⟨hn,a1⟩:=M6 hi e;have hz:=hχ.lt _ a1;have h1:=h.ty (z.length+χ (i-x.length)) oG;rw[show nd (vQ z k2) (z.length+χ (i-x.length))=_ from oz hz]at h1;rw[hn];exact QK hl h1 (hχ.ty _ a1)
 ·simp only[if_pos e]
  rw[JK e]at hy;have hyr:=hx.lr i e y hy;rw[if_pos hyr.2];have hz:=hφ.lt i e;have h1:=hφ.ln i e y hy;have hm:=Y6 (xs:=(nd z (φ i)).ln) (f:=y.1) oG;rw[h1]at hm;have h2:=h.ln (φ i) oG _ (by rw[JK hz];exact hm);rw[Int.toNat_natCast]at h2;exact h2
 ·simp only[if_neg e]
  obtain⟨hn,a1⟩:=M6 hi e;rw[hn]at hy;obtain⟨u,hu,rfl⟩:=au.1 hy;have hur:=hk.lr _ a1 u hu;have hz:=hχ.lt _ a1;have h1:=hχ.ln _ a1 u hu;have hm:=Y6 (xs:=(nd k2 (χ (i-x.length))).ln) (f:=u.1) oG;rw[h1]at hm
  have h2:=h.ln (z.length+χ (i-x.length)) oG (u.1,((χ u.2.toNat:Nat):Int)+(z.length:Int)) (by
   rw[show nd (vQ z k2) (z.length+χ (i-x.length))=_ from oz hz]
   exact au.2 ⟨_,hm,rfl⟩)
  have e1:(u.2+(x.length:Int)).toNat=u.2.toNat+x.length:=by omega
  have e2:(((χ u.2.toNat:Nat):Int)+(z.length:Int)).toNat=z.length+χ u.2.toNat:=by omega
  simp only[e2]at h2;simp only[e1];rw[if_neg oG,show u.2.toNat+x.length-x.length=u.2.toNat by omega];exact h2
theorem step_mono(hx:GX l x)(hz:GX l z)(hk:GX l k)(hk2:GX l k2)(hj:j<x.length)(hφ:Hom l x z φ)(hχ:Hom l k k2 χ)(hZ:QV l (vQ z k2) [(φ j,z.length)] Z):M1 l (vQ x k) [(j,x.length)]/\∀ X,QV l (vQ x k) [(j,x.length)] X->Maps l X Z:=by
 obtain⟨P',a1,ρ',T',L',o',a3,hd',rfl⟩:=hZ;obtain⟨_,a,_,b0,c0,d0⟩:=Zk hz hk2 (hφ.lt j hj) a3 hd';have b:=adm_comp hx hk hφ hχ b0;have hJ:∀ p∈[(j,x.length)],(fun i=>if i<x.length then o'.idxOf (a1 (φ i))else o'.idxOf (a1 (z.length+χ (i-x.length)))) p.1=(fun i=>if i<x.length then o'.idxOf (a1 (φ i))else o'.idxOf (a1 (z.length+χ (i-x.length)))) p.2:=fun p hp=>by
  rw[List.mem_singleton.1 hp];simp[hj,hχ.zero,d0]
 refine⟨⟨_,_,a.tr,b,hJ⟩,fun X hX=>?_⟩;obtain⟨P,rep,ρ,T,L,o,a2,hd,rfl⟩:=hX;obtain⟨t,_⟩:=Zk hx hk hj a2 hd;have hp:=hx.pos;have h0:0<(vQ x k).length:=by have:=Qv x k;omega
 have a4:=(a2.only _ _ a.tr b hJ).1.1 0 h0;refine a2.least (a2.uf.rl 0 h0) (a2.uf.two h0) t a.tr b hJ (a4.symm.trans ?_);simp only[if_pos hp,hφ.zero];exact c0
theorem plc_hom(hx:GX l x)(hφ:Hom l x z φ){f:Int}(hf:0<=plc x f):(plc z f).toNat=φ (plc x f).toNat:=by
 have hm:=Y6 (xs:=(nd x 0).ln) (f:=f) hf;have h:=hφ.ln 0 hx.pos _ hm;rw[hφ.zero]at h;show (tgt (nd z 0).ln f).toNat=_;rw[h];rfl
def suL:List (List Nd)->Nat
 | []=>0
 | k::ks=>k.length+suL ks
theorem S5{m:Int}:∀(ks a1:List (List Nd)) (x z:List Nd) (i:Nat) (ok:Bool) (Y Z:List Nd),Jok l fs m x->Jok l fs m z->Maps l x z->ks.length=a1.length->(∀ p∈ks.zip a1,Maps l p.1 p.2)->(∀ k∈ks,GV l fs k)->(∀ k∈a1,GV l fs k)->(i:Int)+ks.length<=m->0<=m->Yz l x i ks ok Y->Yz l z i a1 true Z->(ok=true->Maps l Y Z)/\(ok=false->60<x.length+suL ks)
 | [],[],x,z,i,ok,Y,Z,hx,hz,hm,_,_,_,_,_,h0,h,h'=>by
  obtain⟨rfl,o,ho,rfl⟩:=h
  obtain⟨_,o',ho',rfl⟩:=h'
  obtain⟨φ,hφ⟩:=hm
  refine⟨fun _=>?_,fun h=>by cases h⟩
  have hj:=hx.lt (aK _) h0
  rw[plc_hom hx.v.gx hφ (hx.p 0 (Int.le_refl _) h0)]at ho'
  exact hφ.part hz.v.gx (hx.v.gx.toGY.trr hj ho) (hz.v.gx.toGY.trr (hφ.lt _ hj) ho')
 | [],_::_,_,_,_,_,_,_,_,_,_,he,_,_,_,_,_,_,_=>by cases he
 | _::_,[],_,_,_,_,_,_,_,_,_,he,_,_,_,_,_,_,_=>by cases he
 | k::ks,k2::a1,x,z,i,ok,Y,Z,hx,hz,hm,he,hp,hv,hv2,hi,h0,h,h'=>by
  rw[List.length_cons]at hi
  have hkv:=hv k (aw ..)
  have a3:=hv2 k2 (aw ..)
  have hlt:=hx.lt (f:=(i:Int)+1) oG oG
  have hlt2:=hz.lt (f:=(i:Int)+1) oG oG
  have hs:suL (k::ks)=k.length+suL ks:=rfl
  obtain⟨φ,hφ⟩:=hm
  obtain⟨χ,hχ⟩:=hp (k,k2) (by simp)
  have hpl:=plc_hom hx.v.gx hφ (hx.p ((i:Int)+1) oG oG)
  rcases h' with ⟨Z',k1,k3,k4⟩|⟨_,h',_⟩
  ·have k1':=k1
   rw[hpl]at k1'
   obtain⟨hb,hmm⟩:=step_mono hx.v.gx hz.v.gx hkv.gx a3.gx hlt hφ hχ k1'
   have h02:0<(vQ x k).length:=by have:=Qv x k;have:=hx.v.gx.pos;omega
   have a2:∀ X,QV l (vQ x k) [((plc x ((i:Int)+1)).toNat,x.length)] X->X.length<=x.length+k.length:=fun X hX=>by
    have:=stp_len hx.v.gx.vt h02 hX
    rwa[Qv]at this
   rcases h with ⟨X',h1,h2,h3⟩|⟨h1,rfl,rfl⟩
   ·obtain⟨a,b⟩:=S5 ks a1 X' Z' (i+1) ok Y Z (hx.step hkv oG oG h1 h2) (hz.step a3 oG oG k1 k3) (hmm _ h1) (by simpa using he) (fun p hq=>hp p (by rw[List.zip_cons_cons];exact aq _ hq)) (fun q hq=>hv q (aq _ hq)) (fun q hq=>hv2 q (aq _ hq)) oG h0 h3 k4
    exact⟨a,fun e=>by have:=b e;have:=a2 _ h1;omega⟩
   ·refine⟨fun h=>(by cases h),fun _=>?_⟩
    rcases h1 with h1|⟨X',hX,h6⟩
    ·exact absurd hb h1
    ·have:=a2 _ hX;omega
  ·cases h'
theorem Mj{m:Int}:∀(ks:List (List Nd)) (x:List Nd) (i:Nat) (Y:List Nd),Jok l fs m x->(∀ k∈ks,GV l fs k)->(i:Int)+ks.length<=m->0<=m->Yz l x i ks true Y->(yJ l fs Y).1=0
 | [],x,i,Y,hx,_,_,h0,h=>by
  obtain⟨_,o,ho,rfl⟩:=h
  exact(hx.v.gx.toGY.trr (hx.lt (aK _) h0) ho).valid hx.v
 | k::ks,x,i,Y,hx,hv,hi,h0,h=>by
  rw[List.length_cons]at hi
  rcases h with ⟨X',h1,h2,h3⟩|⟨_,h',_⟩
  ·exact Mj ks X' (i+1) Y (hx.step (hv k (aw ..)) oG oG h1 h2) (fun q hq=>hv q (aq _ hq)) oG h0 h3
  ·cases h'
end mon
end
section
structure Lr where
 name:ByteArray
 cut:ByteArray
 add:ByteArray
 gr:List Nd
 wt:Int
 mean:Tm
structure LrP(w:World)(r:Lr)(G S B:Option Addr):Prop where
 g:NodesIn w G r.gr
 s:SimsIn w S r.mean.type.args
 t:TmsIn w B r.mean.args
 c:r.cut.size<9223372036854775807
 a:r.add.size<9223372036854775807
theorem LrP.mono{w w':World}{r:Lr}{G S B:Option Addr}(h:LrP w r G S B)(hb:Bel w w'):LrP w' r G S B:=⟨h.g.mono hb,h.s.mono hb,h.t.mono hb,h.c,h.a⟩
def IQ(r:Lr):Prop:=vK r.name=false\/(¬r.cut=⟨#[]⟩/\yX r.cut=false)\/(¬r.add=⟨#[]⟩/\yX r.add=false)
instance(r:Lr):Decidable (IQ r):=by unfold IQ;infer_instance
def Jq(r:Lr):Prop:=r.wt<0\/1000000<r.wt
instance(r:Lr):Decidable (Jq r):=by unfold Jq;infer_instance
noncomputable def lrF(l:List Ty)(fs:List Ft)(r:Lr):Int:=if IQ r then 10 else if Jq r then 3 else if (x7 l fs r.gr).1≠0 then (x7 l fs r.gr).1 else if gj r.gr 1=true then (tmF r.mean).1 else 5
noncomputable def Q8(l:List Ty)(fs:List Ft):Fl:=if (zY l fs).1≠0 then zY l fs else if fs.length<=3 then (9,-1)else (0,0)
noncomputable def lrV(l:List Ty)(fs:List Ft)(r:Lr):Fl:=if (Q8 l fs).1≠0 then Q8 l fs else if lrF l fs r≠0 then (lrF l fs r,-2)else (0,0)
section
variable {l:List Ty} {fs:List Ft} {r:Lr}
theorem lr_nm(h:IQ r):lrF l fs r=10:=if_pos h
theorem lr_bad(h:¬IQ r)(h2:Jq r):lrF l fs r=3:=by unfold lrF;rw[if_neg h,if_pos h2]
theorem lr_gr(h:¬IQ r)(h2:¬Jq r)(h3:¬(x7 l fs r.gr).1=0):lrF l fs r=(x7 l fs r.gr).1:=by unfold lrF;rw[if_neg h,if_neg h2,if_pos h3]
theorem lr_pl(h:¬IQ r)(h2:¬Jq r)(h3:(x7 l fs r.gr).1=0)(h4:gj r.gr 1=false):lrF l fs r=5:=by unfold lrF;rw[if_neg h,if_neg h2,if_neg (fun e=>e h3),if_neg (by rw[h4];decide)]
theorem lr_ok(h:¬IQ r)(h2:¬Jq r)(h3:(x7 l fs r.gr).1=0)(h4:gj r.gr 1=true):lrF l fs r=(tmF r.mean).1:=by unfold lrF;rw[if_neg h,if_neg h2,if_neg (fun e=>e h3),if_pos h4]
theorem DJ(h:¬(zY l fs).1=0):Q8 l fs=zY l fs:=if_pos h
theorem lrd_few(h:(zY l fs).1=0)(h2:fs.length<=3):Q8 l fs=(9,-1):=by unfold Q8;rw[if_neg (fun e=>e h),if_pos h2]
theorem DX(h:(zY l fs).1=0)(h2:¬fs.length<=3):Q8 l fs=(0,0):=by unfold Q8;rw[if_neg (fun e=>e h),if_neg h2]
theorem Iz(h:(Q8 l fs).1=0):(zY l fs).1=0/\3<fs.length:=by
 by_cases h1:(zY l fs).1=0
 ·by_cases h2:fs.length<=3
  ·rw[lrd_few h1 h2]at h;cases h
  ·exact⟨h1,by omega⟩
 ·rw[DJ h1]at h;exact absurd h h1
theorem lrv_rd(h:¬(Q8 l fs).1=0):lrV l fs r=Q8 l fs:=if_pos h
theorem lrv_bad(h:(Q8 l fs).1=0)(h2:¬lrF l fs r=0):lrV l fs r=(lrF l fs r,-2):=by unfold lrV;rw[if_neg (fun e=>e h),if_pos h2]
theorem lrv_ok(h:(Q8 l fs).1=0)(h2:lrF l fs r=0):lrV l fs r=(0,0):=by unfold lrV;rw[if_neg (fun e=>e h),if_neg (fun e=>e h2)]
theorem O0(h:(lrV l fs r).1=0):(Q8 l fs).1=0/\lrF l fs r=0:=by
 by_cases h1:(Q8 l fs).1=0
 ·by_cases h2:lrF l fs r=0
  ·exact⟨h1,h2⟩
  ·rw[lrv_bad h1 h2]at h;exact absurd h h2
 ·rw[lrv_rd h1]at h;exact absurd h h1
theorem WZ(h:lrF l fs r=0):¬IQ r/\¬Jq r/\(x7 l fs r.gr).1=0/\gj r.gr 1=true/\(tmF r.mean).1=0:=by
 by_cases h1:IQ r
 ·rw[lr_nm h1]at h;cases h
 by_cases h2:Jq r
 ·rw[lr_bad h1 h2]at h;cases h
 by_cases h3:(x7 l fs r.gr).1=0
 ·cases h4:gj r.gr 1 with
  | true=>exact⟨h1,h2,h3,rfl,by rw[lr_ok h1 h2 h3 h4]at h;exact h⟩
  | false=>rw[lr_pl h1 h2 h3 h4]at h;cases h
 ·rw[lr_gr h1 h2 h3]at h;exact absurd h h3
end
mutual
def szT:Tm->Nat
 | .mk _ _ _ _ l=>Yx l+1
def Yx:List Tm->Nat
 | []=>0
 | x::r=>szT x+Yx r
end
mutual
def dpT:Tm->Nat
 | .mk _ _ _ _ l=>IX l+1
def IX:List Tm->Nat
 | []=>0
 | x::r=>max (dpT x) (IX r)
end
theorem Ly(t:Tm):szT t=Yx t.args+1:=by cases t;rw[szT];rfl
theorem dpT_eq(t:Tm):dpT t=IX t.args+1:=by cases t;rw[dpT];rfl
theorem Bj:∀(l:List Tm) (j:Nat) (hj:j<l.length),Yx (l.take (j+1))=Yx (l.take j)+szT l[j]/\IX (l.take (j+1))=max (IX (l.take j)) (dpT l[j])
 | x::l,0,_=>by simp[Yx,IX]
 | x::l,j+1,h=>by
  have ih:=Bj l j (by simpa using h)
  simp only[List.take_succ_cons,Yx,IX,List.getElem_cons_succ]
  omega
theorem T2:∀(l:List Tm) (j:Nat),Yx (l.take j)<=Yx l/\IX (l.take j)<=IX l
 | [],j=>by simp
 | x::l,0=>by simp[Yx,IX]
 | x::l,j+1=>by
  have ih:=T2 l j
  simp only[List.take_succ_cons,Yx,IX]
  omega
theorem F4:∀ l:List Tm,l.length<=Yx l
 | []=>ae _
 | x::l=>by
  have:=F4 l
  have:=Ly x
  rw[Yx,List.length_cons];omega
theorem dp_le:∀ t:Tm,dpT t<=szT t:=fun t=>by
 induction t using Tm.rec (motive_2:=fun l=>IX l<=Yx l)with
 | mk k n i s l ih=>rw[dpT,szT];omega
 | nil=>exact ae _
 | cons x r h1 h2=>rw[IX,Yx];omega
theorem F3:∀ v:Tv,szT v.tm=v.size
 | .con nm τ=>by simp[Tv.tm,szT,Yx,Tv.size]
 | .var i=>by simp[Tv.tm,szT,Yx,Tv.size]
 | .abs τ x=>by simp[Tv.tm,szT,Yx,Tv.size,F3 x]
 | .app x y=>by simp[Tv.tm,szT,Yx,Tv.size,F3 x,F3 y]
def M7(f x:Tm):Tm:= .mk 4 ⟨#[]⟩ 0 smZ [f,x]
def Rv(f x:Tm):Prop:=(tmF f).1=0/\(tmF x).1=0/\(∃ v u τ,f=v.tm/\x=u.tm/\tyv [] (.app v u)=some τ)/\szT (M7 f x)<=200/\dpT (M7 f x)<=40
def Jk(s p:ByteArray):Bool:=decide (p.size<=s.size/\sdr (s.size-p.size) s=p)
def Tk(s p:ByteArray):ByteArray:=if Jk s p=true then stk (s.size-p.size) s else s
def wdL(r:Lr)(x:Lx):ByteArray:=Tk x.word r.cut++r.add
def C8(r:Lr)(x:Lx):Prop:=Jk x.word r.cut=true/\yX (wdL r x)=true/\x.wt+r.wt<=1000000
instance(r:Lr)(x:Lx):Decidable (C8 r x):=by unfold C8;infer_instance
def LrS(l:List Ty)(r:Lr)(x:Lx)(ok:Bool)(Y:List Nd):Prop:=
 (ok=true->C8 r x/\Rv r.mean x.mean/\Yz l r.gr 0 [x.gr] true Y)/\(ok=false->¬(C8 r x/\Rv r.mean x.mean)\/Yz l r.gr 0 [x.gr] false [])
theorem GJ{l:List Ty}{r:Lr}{x:Lx}(h:¬(C8 r x/\Rv r.mean x.mean)\/Yz l r.gr 0 [x.gr] false []):LrS l r x false []:=⟨(fun e=>by cases e),fun _=>h⟩
theorem lrs_yes{l:List Ty}{r:Lr}{x:Lx}{Y:List Nd}(h1:C8 r x)(h2:Rv r.mean x.mean)(h3:Yz l r.gr 0 [x.gr] true Y):LrS l r x true Y:=⟨fun _=>⟨h1,h2,h3⟩,(fun e=>by cases e)⟩
theorem lrn1{r:Lr}(h:(!vK r.name)=true):true=decide (IQ r):=(ah (.inl (by simpa using h))).symm
theorem lrn2{r:Lr}(h2:¬r.cut=⟨#[]⟩)(h3:(!yX r.cut)=true):true=decide (IQ r):=(ah (.inr (.inl ⟨h2,by simpa using h3⟩))).symm
theorem P0{r:Lr}(h:(!vK r.name)=false)(h2:r.cut=⟨#[]⟩\/(!yX r.cut)=false)(h4:¬r.add=⟨#[]⟩):(!yX r.add)=decide (IQ r):=by
 cases e:yX r.add with
 | false=>exact(ah (.inr (.inr ⟨h4,e⟩))).symm
 | true=>
  refine(ao (fun k=>?_)).symm;rcases k with k|k|k
  ·rw[k]at h;cases h
  ·rcases h2 with h2|h2
   ·exact k.1 h2
   ·rw[k.2]at h2;cases h2
  ·rw[k.2]at e;cases e
theorem OY{r:Lr}(h:(!vK r.name)=false)(h2:r.cut=⟨#[]⟩\/(!yX r.cut)=false)(h4:r.add=⟨#[]⟩):false=decide (IQ r):=by
 refine(ao (fun k=>?_)).symm;rcases k with k|k|k
 ·rw[k]at h;cases h
 ·rcases h2 with h2|h2
  ·exact k.1 h2
  ·rw[k.2]at h2;cases h2
 ·exact k.1 h4
theorem wdo1{r:Lr}{x:Lx}(h:(!Jk x.word r.cut)=true):true=decide (¬C8 r x):=by
 symm;rw[decide_eq_true_iff];intro k;rw[k.1]at h;cases h
theorem wdo2{r:Lr}{x:Lx}(h:(!yX (wdL r x))=true):true=decide (¬C8 r x):=by
 symm;rw[decide_eq_true_iff];intro k;rw[k.2.1]at h;cases h
theorem wdo3{r:Lr}{x:Lx}(h:(!Jk x.word r.cut)=false)(h2:(!yX (wdL r x))=false):decide (1000000<x.wt+r.wt)=decide (¬C8 r x):=by
 have a:Jk x.word r.cut=true:=by simpa using h
 have b:yX (wdL r x)=true:=by simpa using h2
 exact ai.2 ⟨fun k j=>by have:=j.2.2;omega,fun k=>aH (fun e=>k ⟨a,b,by omega⟩)⟩
theorem wdt4{s:ByteArray}{p:Nat}:wdt s p<=4:=by
 unfold wdt;rw[ZK];unfold Lib.decodeN
 repeat' split
 all_goals first|decide|exact ae _|(simp;done)
theorem ch_size{s:ByteArray}:∀ n p,s.size-p<=n->s.size<=p+4*(ch s p).length
 | 0,p,h=>by omega
 | n+1,p,h=>by
  by_cases e:p<s.size
  ·have h1:=QW e
   have h2:=wdt4 (s:=s) (p:=p)
   have ih:=ch_size (s:=s) n (p+wdt s p) oG
   rw[Ik e,List.length_cons];omega
  ·omega
theorem E9{s:ByteArray}(h:yX s=true):s.size<=120:=by
 unfold yX at h;simp only[Bool.and_eq_true,decide_eq_true_eq]at h;have:=ch_size (s:=s) s.size 0 oG;omega
theorem sfxC_size(s p:ByteArray):(Tk s p).size<=s.size:=by
 unfold Tk
 split
 ·rw[stk_size oG];omega
 ·exact ae _
end
section
section all
variable {l:List Ty} {fs:List Ft} {gs:List (List Nd)}
structure LubL(l:List Ty)(gs:List (List Nd))(X:List Nd):Prop where
 gx:GX l X
 maps:∀ i (hi:i<gs.length),Maps l gs[i] X
 least:∀ c,GY l c->(∀ i (hi:i<gs.length),Maps l gs[i] c)->Maps l X c
 can:∃ o,DL X [0] [] o/\yQ X o=X
theorem LubL.uniq{hs:List (List Nd)}{X Y:List Nd}(h:LubL l gs X)(k:LubL l hs Y)(e1:∀ i (hi:i<gs.length),∃ j,∃ hj:j<hs.length,gs[i]=hs[j])(e2:∀ i (hi:i<hs.length),∃ j,∃ hj:j<gs.length,hs[i]=gs[j]):X=Y:=by
 obtain⟨o,ho,e⟩:=h.can;obtain⟨p,hp,e3⟩:=k.can;have:=can_eq h.gx k.gx (h.least Y k.gx.toGY (fun i hi=>by obtain⟨j,hj,e⟩:=e1 i hi;rw[e];exact k.maps j hj)) (k.least X h.gx.toGY (fun i hi=>by obtain⟨j,hj,e⟩:=e2 i hi;rw[e];exact h.maps j hj)) ho hp;rw[e,e3]at this;exact this.symm
end all
end
section
theorem tw_mk{l:List Ty}{fs:List Ft}{ga gb:List Nd}(h1:(yJ l fs ga).1=0)(h2:(yJ l fs gb).1=0):(uj l fs ga gb).1=0:=by
 have h0:(zY l fs).1=0:=by
  refine aH (fun e=>?_);unfold yJ at h2;rw[if_pos e]at h2;exact e h2
 rw[KV h0]at h1 h2;rw[SW h0 h1];exact h2
theorem unify_yes{l:List Ty}{fs:List Ft}{ga gb X:List Nd}{ok:Bool}{f:Fl}(h0:(uj l fs ga gb).1=0)(h:UnifyS l fs ga gb ok f X)(hok:ok=true):Maps l ga X/\yJ l fs X=(0,0):=by
 obtain⟨⟨hva,hvb⟩,_⟩:=SY h0;rcases h with ⟨h1,_⟩|⟨_,h,_⟩|⟨_,h,_⟩|⟨_,_,_,hX,h60⟩
 ·exact absurd h0 h1
 ·rw[hok]at h;cases h
 ·rw[hok]at h;cases h
 ·exact⟨(uni_lub hva.gx hvb.gx hX).left,uni_valid hva hvb hX h60⟩
section mn
variable {l:List Ty} {fs:List Ft} {ks:List (List Nd)}
theorem NW:∀(kt:List (List Nd)) (p:List Nd×List Nd),p∈kt.zip kt->p.1=p.2/\p.1∈kt
 | [],p,h=>by cases h
 | k::kt,p,h=>by
  rw[List.zip_cons_cons]at h
  rcases ap.1 h with rfl|h
  ·exact⟨rfl,aw ..⟩
  ·obtain⟨a,b⟩:=NW kt p h
   exact⟨a,aq _ b⟩
theorem mono_end{gr y Y1 Y2:List Nd}{m:Int}{a1 a2:Bool}(a3:Jok l fs m gr)(h0:0<=m)(a4:∀ q∈ks,GV l fs q)(hyv:GV l fs y)(hne:0<ks.length)(a7:Maps l (ks[0]'hne) y)(a6:(ks.length:Int)<=m)(hJ1:Yz l gr 0 ks a1 Y1)(a5:Yz l gr 0 (y::ks.drop 1) a2 Y2):(a2=true->a1=false->60<gr.length+suL ks)/\(a1=true->a2=true->Maps l Y1 Y2/\(yJ l fs Y1).1=0/\(yJ l fs Y2).1=0):=by
 obtain⟨k0,kt,rfl⟩:=List.exists_cons_of_length_pos hne;have a7:Maps l k0 y:=a7;have a5:Yz l gr 0 (y::kt) a2 Y2:=a5;have hv2:∀ q∈y::kt,GV l fs q:=fun q hq=>by
  rcases ap.1 hq with rfl|hq
  ·exact hyv
  ·exact a4 q (aq _ hq)
 rw[List.length_cons]at a6;have key:∀(h:a2=true),(a1=true->Maps l Y1 Y2)/\(a1=false->60<gr.length+suL (k0::kt)):=fun h=>by
  subst h;refine S5 (k0::kt) (y::kt) gr gr 0 a1 Y1 Y2 a3 a3 ⟨_,Hom.refl a3.v.gx⟩ rfl (fun p hp=>?_) a4 hv2 (by rw[List.length_cons];omega) h0 hJ1 a5;rw[List.zip_cons_cons]at hp;rcases ap.1 hp with rfl|hp
  ·exact a7
  ·obtain⟨a,b⟩:=NW kt p hp
   rw[<- a];exact⟨_,Hom.refl (a4 _ (aq _ b)).gx⟩
 refine⟨fun h=>(key h).2,fun h h2=>?_⟩;have e:=(key h2).1 h;subst h h2;exact⟨e,Mj (k0::kt) gr 0 Y1 a3 a4 (by rw[List.length_cons];omega) h0 hJ1,Mj (y::kt) gr 0 Y2 a3 hv2 (by rw[List.length_cons];omega) h0 a5⟩
end mn
theorem lxr_jok{l:List Ty}{fs:List Ft}{r:Lr}(h:(zY l fs).1=0)(h2:(x7 l fs r.gr).1=0)(h3:gj r.gr 1=true):Jok l fs 1 r.gr:=
 jok_rule (r:=⟨⟨#[]⟩,r.gr,1,0,r.mean⟩) h h2 h3 (show (1:Int)<=3 by decide)
theorem lxr_mono{l:List Ty}{fs:List Ft}{r:Lr}{x:Lx}{g Y1 Y2:List Nd}{a2 a1:Bool}(hj:Jok l fs 1 r.gr)(hx:GV l fs x.gr)(hg:GV l fs g)(hm:Maps l x.gr g)(h1:LrS l r x a2 Y1)(h2:LrS l r { x with gr:=g } a1 Y2):(a1=true->a2=false->60<r.gr.length+x.gr.length)/\(a2=true->a1=true->Maps l Y1 Y2/\(yJ l fs Y1).1=0/\(yJ l fs Y2).1=0):=by
 have key:∀ {o1 o2:Bool} {Z1 Z2:List Nd},Yz l r.gr 0 [x.gr] o1 Z1->Yz l r.gr 0 [g] o2 Z2->(o2=true->o1=false->60<r.gr.length+suL [x.gr])/\(o1=true->o2=true->Maps l Z1 Z2/\(yJ l fs Z1).1=0/\(yJ l fs Z2).1=0):=fun k1 k2=>
  mono_end (ks:=[x.gr]) hj dE (fun q hq=>by rw[List.mem_singleton.1 hq];exact hx) hg (Nat.zero_lt_succ _) hm (show ((1:Nat):Int)<=1 by decide) k1 k2
 refine⟨fun e2 e1=>?_,fun e1 e2=>(key (h1.1 e1).2.2 (h2.1 e2).2.2).2 rfl rfl⟩;obtain⟨a,b,c⟩:=h2.1 e2;rcases h1.2 e1 with h|h
 ·exact absurd ⟨a,b⟩ h
 ·have h4:=(key h c).1 rfl rfl
  simpa[suL]using h4
end
section
def zSm:Array Value:=#[.string ⟨#[]⟩,.slice none 0 0]
def zTm:Array Value:=#[.int .i64 0,.string ⟨#[]⟩,.int .i64 0,.string ⟨#[]⟩,.slice none 0 0,.slice none 0 0]
def Sp(ts:List Nat)(t:Nat)(cs:Array Value):Prop:=t∈ts\/(t=31/\cs=zSm)\/(t=34/\cs=zTm)
def Kp(X:List Nat)(n:Nat)(ts:List Nat)(w w2:World):Prop:=w.heap.size<=w2.heap.size/\∀ k,k<n->w2.heap[k]? =w.heap[k]?\/k∈X\/∃ t cs,Blk w k t cs/\Sp ts t cs
section kp
variable {X Y:List Nat} {n m:Nat} {ts us:List Nat} {w w1 w2:World} {P Q:World->Prop}
theorem Kp.refl(X:List Nat)(n:Nat)(ts:List Nat)(w:World):Kp X n ts w w:=⟨ae _,fun _ _=> .inl rfl⟩
theorem Kp.trans(h:Kp X n ts w w1)(g:Kp X n ts w1 w2):Kp X n ts w w2:=⟨nLT h.1 g.1,fun k hk=>by
 rcases h.2 k hk with e|e
 ·rcases g.2 k hk with e2|e2|⟨t,cs,e2,hs⟩
  ·exact .inl (e2.trans e)
  ·exact .inr (.inl e2)
  ·exact .inr (.inr ⟨t,cs,e.symm.trans e2,hs⟩)
 ·exact .inr e⟩
theorem Kp.of{Z:List Nat}(hs:Same Z w w1)(hn:n<=w.heap.size)(hx:∀ g∈Z,n<=g\/g∈X\/∃ t cs,Blk w g t cs/\Sp ts t cs):Kp X n ts w w1:=⟨hs.size,fun k hk=>by
 by_cases e:k∈Z
 ·rcases hx k e with h|h
  ·omega
  ·exact .inr h
 ·exact .inl (hs.blk k oG e)⟩
structure Fz(X:List Nat)(n:Nat)(ts:List Nat)(w:World)(P:World->Prop):Prop where
 le:n<=w.heap.size
 all:∀ w2,Kp X n ts w w2->P w2
theorem Fz.step(h:Fz X n ts w P)(hk:Kp X n ts w w1):Fz X n ts w1 P:=⟨nLT h.le hk.1,fun w2 h2=>h.all w2 (hk.trans h2)⟩
theorem Fz.now(h:Fz X n ts w P):P w:=h.all w (Kp.refl _ _ _ _)
theorem Fz.trX{Z:List Nat}(h:Fz X n ts w P)(hs:Same Z w w1)(hx:∀ g∈Z,n<=g\/g∈X\/∃ t cs,Blk w g t cs/\Sp ts t cs):Fz X n ts w1 P:=h.step (Kp.of hs h.le hx)
theorem Fz.tr0(h:Fz X n ts w P)(hs:Same [] w w1):Fz X n ts w1 P:=h.trX hs (by simp)
theorem Fz.bel(h:Fz X n ts w P)(hb:Bel w w1):Fz X n ts w1 P:=h.tr0 (sB hb)
theorem Fz.in1{b:Nat}(h:Fz X n ts w P)(hs:Same [b] w w1)(hb:b∈X):Fz X n ts w1 P:=h.trX hs (fun g hg=> .inr (.inl (by rw[List.mem_singleton.1 hg];exact hb)))
theorem Fz.sp1{b t:Nat}{cs:Array Value}(h:Fz X n ts w P)(hs:Same [b] w w1)(hb:Blk w b t cs)(ht:Sp ts t cs):Fz X n ts w1 P:=h.trX hs (fun g hg=> .inr (.inr ⟨t,cs,by rw[List.mem_singleton.1 hg];exact hb,ht⟩))
theorem sp_tm{ts:List Nat}:Sp ts 34 #[.int .i64 0,.string ⟨#[]⟩,.int .i64 0,.string ⟨#[]⟩,.slice none 0 0,.slice none 0 0]:= .inr (.inr ⟨rfl,rfl⟩)
theorem Fz.free{b t:Nat}{cs:Array Value}(h:Fz X n ts w P)(hs:Same [b] w w1)(hb:Blk w b t cs)(ht:Sp ts t cs):Fz (b::X) n ts w1 P:=⟨nLT h.le hs.size,fun w2 h2=>h.all w2 ⟨nLT hs.size h2.1,fun k hk=>by
 by_cases e:k=b
 ·exact .inr (.inr ⟨t,cs,by rw[e];exact hb,ht⟩)
 have e1:=hs.blk k (nLL hk h.le) (by simpa using e)
 rcases h2.2 k hk with e2|e2|⟨t',cs',e2,hs2⟩
 ·exact .inl (e2.trans e1)
 ·rcases ap.1 e2 with e3|e3
  ·exact absurd e3 e
  ·exact .inr (.inl e3)
 ·exact .inr (.inr ⟨t',cs',e1.symm.trans e2,hs2⟩)⟩⟩
theorem Fz.mono(h:Fz X n ts w P)(hm:n<=m)(hw:m<=w.heap.size):Fz X m ts w P:=⟨hw,fun w2 h2=>h.all w2 ⟨h2.1,fun k hk=>h2.2 k oG⟩⟩
theorem Fz.up(h:Fz X n ts w P):Fz X w.heap.size ts w P:=h.mono h.le (ae _)
theorem Fz.less(h:Fz Y n ts w P)(hs:∀ x∈X,x∈Y):Fz X n ts w P:=⟨h.le,fun w2 h2=>h.all w2 ⟨h2.1,fun k hk=>by
 rcases h2.2 k hk with e|e|e
 ·exact .inl e
 ·exact .inr (.inl (hs k e))
 ·exact .inr (.inr e)⟩⟩
theorem Fz.addX(h:Fz X n ts w P)(hy:∀ y∈Y,y∈X\/n<=y):Fz Y n ts w P:=⟨h.le,fun w2 h2=>h.all w2 ⟨h2.1,fun k hk=>by
 rcases h2.2 k hk with e|e|e
 ·exact .inl e
 ·rcases hy k e with h3|h3
  ·exact .inr (.inl h3)
  ·omega
 ·exact .inr (.inr e)⟩⟩
theorem Fz.nil(h:Fz X n ts w P):Fz [] n ts w P:=h.less (by simp)
theorem Fz.sub(h:Fz X n us w P)(hs:∀ t∈ts,t∈us):Fz X n ts w P:=⟨h.le,fun w2 h2=>h.all w2 ⟨h2.1,fun k hk=>by
 rcases h2.2 k hk with e|e|⟨t,cs,r,q⟩
 ·exact .inl e
 ·exact .inr (.inl e)
 ·refine .inr (.inr ⟨t,cs,r,?_⟩)
  rcases q with q|q
  ·exact .inl (hs t q)
  ·exact .inr q⟩⟩
theorem Fz.imp(h:Fz X n ts w P)(hi:∀ w,P w->Q w):Fz X n ts w Q:=⟨h.le,fun w2 h2=>hi w2 (h.all w2 h2)⟩
theorem Fz.and(h:Fz X n ts w P)(g:Fz X m ts w Q):Fz X w.heap.size ts w (fun w=>P w/\Q w):=⟨ae _,fun w2 h2=>⟨h.up.all w2 h2,g.up.all w2 h2⟩⟩
theorem Fz.triv(X:List Nat)(w:World)(ts:List Nat)(h:∀ w,P w):Fz X w.heap.size ts w P:=⟨ae _,fun w2 _=>h w2⟩
theorem Fz.blk{b t:Nat}{cs:Array Value}(h:Blk w b t cs)(hx:b∉X)(ht:¬Sp ts t cs):Fz X w.heap.size ts w (fun w=>Blk w b t cs):=⟨ae _,fun w2 h2=>by
 rcases h2.2 b h.lt with e|e|⟨t',cs',e,hs⟩
 ·exact e.trans h
 ·exact absurd e hx
 ·have he:(some (Obj.cells cs t (0,0)))=some (.cells cs' t' (0,0)):=h.symm.trans e
  injection he with he
  injection he with e1 e2
  subst e1;subst e2
  exact absurd hs ht⟩
end kp
def TS:List Nat:=[74,38,42]
def SmD(X:List Nat)(τ:Ts)(w:World)(v:Value):Prop:=∃ A c n,v= .agg #[.string τ.sm.base,.slice A τ.sm.args.length c]/\Fz X n TS w (fun w=>SimsIn w A τ.sm.args)
def TmD(X:List Nat)(x:Tv)(w:World)(v:Value):Prop:=∃ S cs B cb n,v= .agg #[.int .i64 x.tm.kind,.string x.tm.name,.int .i64 x.tm.index,.string x.tm.type.base,.slice S x.tm.type.args.length cs,.slice B x.tm.args.length cb]/\Fz X n TS w (fun w=>SimsIn w S x.tm.type.args/\TmsIn w B x.tm.args)
theorem SmD.tr0{X:List Nat}{τ:Ts}{w w1:World}{v:Value}(h:SmD X τ w v)(hs:Same [] w w1):SmD X τ w1 v:=by
 obtain⟨A,c,n,e,hz⟩:=h;exact⟨A,c,n,e,hz.tr0 hs⟩
theorem TmD.tr0{X:List Nat}{x:Tv}{w w1:World}{v:Value}(h:TmD X x w v)(hs:Same [] w w1):TmD X x w1 v:=by
 obtain⟨A,c,B,m,n,e,hz⟩:=h;exact⟨A,c,B,m,n,e,hz.tr0 hs⟩
theorem FX{w:World}{b t:Nat}{s1 s2:Sm}{A1 A2:Option Addr}{c1 c2:Nat}(h:Blk w b t #[.string s1.base,.slice A1 s1.args.length c1,.string s2.base,.slice A2 s2.args.length c2])(h1:SimsIn w A1 s1.args)(h2:SimsIn w A2 s2.args):SimsIn w (some ⟨b,0,none⟩) [s1,s2]:=by
 cases s1 with
 | mk b1 a1=>
  cases s2 with
  | mk b2 a2=>
   refine .more (by show 2<=jx;decide) h.lt (fun k hk=>?_)
   match k,hk with
   | 0,_=>exact SimAt.mk (A:=A1) (c:=c1) h.lt (h.range (fun j v hj=>by match j,hj with|0,hj=>cases hj;rfl|1,hj=>cases hj;rfl|_+2,hj=>cases hj)) h1
   | 1,_=>exact SimAt.mk (A:=A2) (c:=c2) h.lt (h.range (fun j v hj=>by match j,hj with|0,hj=>cases hj;rfl|1,hj=>cases hj;rfl|_+2,hj=>cases hj)) h2
def tmC(t:Tm)(S B:Option Addr)(cs cb:Nat):List Value:=[.int .i64 t.kind,.string t.name,.int .i64 t.index,.string t.type.base,.slice S t.type.args.length cs,.slice B t.args.length cb]
theorem tm_at{w:World}{b o:Nat}{t:Tm}{S B:Option Addr}{cs cb:Nat}(hb:b<w.heap.size)(h:w.rangeAt b o (tmC t S B cs cb))(h1:SimsIn w S t.type.args)(h2:TmsIn w B t.args):TmAt w b o t:=by
 cases t with
 | mk k nm i s a=>exact .mk hb h h1 h2
theorem KY{w:World}{b t o:Nat}{cs:Array Value}{l:List Value}(h:Blk w b t cs)(ho:∀ j v,l[j]? =some v->cs[o+j]? =some v):w.rangeAt b o l:=h.range (fun j v hj=>ho j v hj)
theorem tms_one{w:World}{b t:Nat}{x:Tm}{S B:Option Addr}{cs cb:Nat}(h:Blk w b t (tmC x S B cs cb).toArray)(h1:SimsIn w S x.type.args)(h2:TmsIn w B x.args):TmsIn w (some ⟨b,0,none⟩) [x]:=
 .more (by show 1<=jx;decide) h.lt (fun k hk=>by
  match k,hk with
  | 0,_=>exact tm_at h.lt (KY h (fun j v hj=>by simpa using hj)) h1 h2)
theorem tms_two{w:World}{b t:Nat}{x y:Tm}{S B S' B':Option Addr}{cs cb cs' cb':Nat}(h:Blk w b t (tmC x S B cs cb++tmC y S' B' cs' cb').toArray)(h1:SimsIn w S x.type.args)(h2:TmsIn w B x.args)(h3:SimsIn w S' y.type.args)(h4:TmsIn w B' y.args):TmsIn w (some ⟨b,0,none⟩) [x,y]:=
 .more (by show 2<=jx;decide) h.lt (fun k hk=>by
  match k,hk with
  | 0,_=>exact tm_at h.lt (KY h (fun j v hj=>by
   have hl:j<6:=(av.1 hj).1
   rw[List.getElem?_toArray,List.getElem?_append_left (by show 0+j<6;omega),Nat.zero_add];exact hj)) h1 h2
  | 1,_=>exact tm_at h.lt (KY h (fun j v hj=>by
   rw[List.getElem?_toArray,List.getElem?_append_right (by show 6<=0+1*6+j;omega),show 0+1*6+j-(tmC x S B cs cb).length=j by show 0+1*6+j-6=j;omega];exact hj)) h3 h4)
theorem tv_kind(x:Tv):x.tm.kind≠0:=by cases x<;>simp[Tv.tm,Tm.kind]
theorem nsp_sm{s1 s2:Sm}{A1 A2:Option Addr}{m1 m2 c1 c2:Nat}:¬Sp TS 31 #[.string s1.base,.slice A1 m1 c1,.string s2.base,.slice A2 m2 c2]:=by
 rintro (h|⟨_,h⟩|⟨h,_⟩)
 ·revert h;decide
 ·exact absurd (show (4:Nat)=2 from congrArg Array.size h) dE
 ·revert h;decide
theorem nsp_tm{x:Tv}{l:List Value}:¬Sp TS 34 (Value.int .i64 x.tm.kind::l).toArray:=by
 rintro (h|⟨h,_⟩|⟨_,h⟩)
 ·revert h;decide
 ·revert h;decide
 ·have h2:=congrArg (fun a:Array Value=>a[0]?) h
  simp[zTm]at h2;exact tv_kind x h2
section mk
variable {X:List Nat} {w:World}
theorem SmD.two{a b:Ts}{g:Nat}{A1 A2:Option Addr}{c1 c2 n1 n2:Nat}(h:Blk w g 31 #[.string a.sm.base,.slice A1 a.sm.args.length c1,.string b.sm.base,.slice A2 b.sm.args.length c2])(hg:g∉X)(h1:Fz X n1 TS w (fun w=>SimsIn w A1 a.sm.args))(h2:Fz X n2 TS w (fun w=>SimsIn w A2 b.sm.args)):SmD X (.f a b) w (.agg #[.string ⟨#[]⟩,.slice (some ⟨g,0,none⟩) 2 2]):=
 ⟨_,2,_,rfl,((Fz.blk h hg nsp_sm).and (h1.and h2)).imp (fun _ h=>FX h.1 h.2.1 h.2.2)⟩
theorem TmD.con(nm:ByteArray){τ:Ts}{A:Option Addr}{c n:Nat}(h:Fz X n TS w (fun w=>SimsIn w A τ.sm.args)):TmD X (.con nm τ) w (.agg #[.int .i64 1,.string nm,.int .i64 0,.string τ.sm.base,.slice A τ.sm.args.length c,.slice none 0 0]):=
 ⟨A,c,none,0,n,rfl,h.imp (fun _ h=>⟨h,.nil⟩)⟩
theorem TmD.var(i:Nat):TmD X (.var i) w (.agg #[.int .i64 2,.string ⟨#[]⟩,.int .i64 i,.string ⟨#[]⟩,.slice none 0 0,.slice none 0 0]):=
 ⟨none,0,none,0,w.heap.size,rfl,Fz.triv X w TS (fun _=>⟨.nil,.nil⟩)⟩
theorem TmD.abs{τ:Ts}{x:Tv}{g:Nat}{A S B:Option Addr}{c n cs cb m:Nat}(h:Fz X n TS w (fun w=>SimsIn w A τ.sm.args))(hg:Blk w g 34 #[.int .i64 x.tm.kind,.string x.tm.name,.int .i64 x.tm.index,.string x.tm.type.base,.slice S x.tm.type.args.length cs,.slice B x.tm.args.length cb])(hgx:g∉X)(hx:Fz X m TS w (fun w=>SimsIn w S x.tm.type.args/\TmsIn w B x.tm.args)):TmD X (.abs τ x) w (.agg #[.int .i64 3,.string ⟨#[]⟩,.int .i64 0,.string τ.sm.base,.slice A τ.sm.args.length c,.slice (some ⟨g,0,none⟩) 1 1]):=
 ⟨A,c,_,1,_,rfl,((Fz.blk hg hgx nsp_tm).and (h.and hx)).imp (fun _ h=>⟨h.2.1,tms_one h.1 h.2.2.1 h.2.2.2⟩)⟩
theorem TmD.app{x y:Tv}{g:Nat}{S B S' B':Option Addr}{cs cb m cs' cb' m':Nat}(hg:Blk w g 34 #[.int .i64 x.tm.kind,.string x.tm.name,.int .i64 x.tm.index,.string x.tm.type.base,.slice S x.tm.type.args.length cs,.slice B x.tm.args.length cb,.int .i64 y.tm.kind,.string y.tm.name,.int .i64 y.tm.index,.string y.tm.type.base,.slice S' y.tm.type.args.length cs',.slice B' y.tm.args.length cb'])(hgx:g∉X)(hx:Fz X m TS w (fun w=>SimsIn w S x.tm.type.args/\TmsIn w B x.tm.args))(hy:Fz X m' TS w (fun w=>SimsIn w S' y.tm.type.args/\TmsIn w B' y.tm.args)):TmD X (.app x y) w (.agg #[.int .i64 4,.string ⟨#[]⟩,.int .i64 0,.string ⟨#[]⟩,.slice none 0 0,.slice (some ⟨g,0,none⟩) 2 2]):=
 ⟨none,0,_,2,_,rfl,((Fz.blk hg hgx nsp_tm).and (hx.and hy)).imp (fun _ h=>⟨.nil,tms_two h.1 h.2.1.1 h.2.1.2 h.2.2.1 h.2.2.2⟩)⟩
end mk
inductive TmCs(n:Nat)(w:World):List Tv->List Value->Prop
 | nil:TmCs n w [] []
 | cons {x:Tv} {S B:Option Addr} {cs cb:Nat} {l:List Tv} {vs:List Value} (h:Fz [] n TS w (fun w=>SimsIn w S x.tm.type.args/\TmsIn w B x.tm.args)) (t:TmCs n w l vs):TmCs n w (x::l) (.int .i64 x.tm.kind:: .string x.tm.name:: .int .i64 x.tm.index:: .string x.tm.type.base:: .slice S x.tm.type.args.length cs:: .slice B x.tm.args.length cb::vs)
theorem TmCs.tr0{n:Nat}{w w1:World}{l:List Tv}{vs:List Value}(h:TmCs n w l vs)(hs:Same [] w w1):TmCs n w1 l vs:=by
 induction h with
 | nil=>exact .nil
 | cons h _ ih=>exact .cons (h.tr0 hs) ih
theorem TmCs.get{n:Nat}{w:World}{l:List Tv}{vs:List Value}(h:TmCs n w l vs):∀ k (hk:k<l.length),∃ S B cs cb,(∀ j v,(tmC (l[k]).tm S B cs cb)[j]? =some v->vs[k*6+j]? =some v)/\Fz [] n TS w (fun w=>SimsIn w S (l[k]).tm.type.args/\TmsIn w B (l[k]).tm.args):=by
 induction h with
 | nil=>intro k hk;simp at hk
 | @cons x S B cs cb l vs h t ih=>
  intro k hk
  match k,hk with
  | 0,_=>
   refine⟨S,B,cs,cb,fun j v hj=>?_,h⟩
   match j,hj with
   | 0,hj=>exact hj
   | 1,hj=>exact hj
   | 2,hj=>exact hj
   | 3,hj=>exact hj
   | 4,hj=>exact hj
   | 5,hj=>exact hj
   | _+6,hj=>cases hj
  | k+1,hk=>
   obtain⟨S',B',cs',cb',h1,h2⟩:=ih k (by simpa using hk);refine⟨S',B',cs',cb',fun j v hj=>?_,h2⟩;rw[show (k+1)*6+j=k*6+j+6 by omega];exact h1 j v hj
theorem TmCs.at_{n b t:Nat}{w:World}{l:List Tv}{vs:List Value}(h:TmCs n w l vs)(hb:Blk w b t vs.toArray){k:Nat}(hk:k<l.length):∃ S B cs cb,w.rangeAt b (0+k*6) [.int .i64 (l[k]).tm.kind,.string (l[k]).tm.name,.int .i64 (l[k]).tm.index,.string (l[k]).tm.type.base,.slice S (l[k]).tm.type.args.length cs,.slice B (l[k]).tm.args.length cb]/\Fz [] n TS w (fun w=>SimsIn w S (l[k]).tm.type.args/\TmsIn w B (l[k]).tm.args):=by
 obtain⟨S,B,cs,cb,h1,h2⟩:=h.get k hk;exact⟨S,B,cs,cb,KY hb (fun j v hj=>by rw[List.getElem?_toArray,Nat.zero_add];exact h1 j v hj),h2⟩
end
def RowsIn(w:World)(A:Option Addr)(rs:List (List Int)):Prop:=
 rs.length<=1000/\(∀ r∈rs,0<r.length/\r.length<=1000)/\(rs≠[]->∃ b o,A=some ⟨b,o,none⟩/\b<w.heap.size/\∀ k (h:k<rs.length),∃ A' c,w.cell? ⟨b,o+k*1,none⟩=some (.slice A' (rs[k]).length c)/\IntsIn w A' rs[k])
theorem RowsIn.at_{w w':World}{A:Option Addr}{rs:List (List Int)}(h:RowsIn w A rs)(hb:Bel w w'){k:Nat}(hk:k<rs.length):
  ∃ b o A' c,A=some ⟨b,o,none⟩/\w'.cell? ⟨b,o+k*1,none⟩=some (.slice A' (rs[k]).length c)/\IntsIn w A' rs[k]:=by
 obtain⟨b,o,e,hl,hc⟩:=h.2.2 (by rintro rfl;simp at hk);obtain⟨A',c,h1,h2⟩:=hc k hk;exact⟨b,o,A',c,e,hb.cell hl h1,h2⟩
theorem RowsIn.mono{w w':World}{A:Option Addr}{rs:List (List Int)}(h:RowsIn w A rs)(hb:Bel w w'):RowsIn w' A rs:=
 ⟨h.1,h.2.1,fun hn=>by
  obtain⟨b,o,e,hl,hc⟩:=h.2.2 hn
  refine⟨b,o,e,nLL hl hb.size,fun k hk=>?_⟩
  obtain⟨A',c,h1,h2⟩:=hc k hk
  exact⟨A',c,hb.cell hl h1,h2.mono hb⟩⟩
def Yv:List Int->List (Int×Int)
 | a::b::t=>(a,b)::Yv t
 | _=>[]
def VJ(r:List Int):Nd:=⟨r.getD 0 0,Yv (r.drop 1)⟩
theorem pairs_end{r:List Int}{i:Nat}(h:r.length<=i+1):Yv (r.drop i)= []:=by
 have hl:(r.drop i).length<=1:=by simp;omega
 match e:r.drop i with
 | []=>rfl
 | [a]=>rfl
 | a::b::t=>rw[e]at hl;simp at hl
theorem Gz{r:List Int}{i:Nat}(h:i+1<r.length):Yv (r.drop i)=(r[i],r[i+1])::Yv (r.drop (i+2)):=by
 rw[List.drop_eq_getElem_cons (show i<r.length by omega),List.drop_eq_getElem_cons h];rfl
def lnC(ls:List (Int×Int)):List Value:=ls.flatMap (fun x=>[.int .i64 x.1,.int .i64 x.2])
theorem lnC_snoc(ls:List (Int×Int))(a b:Int):lnC ls++[.int .i64 a,.int .i64 b]=lnC (ls++[(a,b)]):=by simp[lnC]
theorem TY(ls:List (Int×Int)):(lnC ls).length=ls.length*2:=by
 induction ls with
 | nil=>rfl
 | cons a r ih=>rw[show lnC (a::r)= .int .i64 a.1:: .int .i64 a.2::lnC r from rfl];simp only[List.length_cons,ih];omega
theorem lnC_get:∀ {ls:List (Int×Int)} {k:Nat} (hk:k<ls.length),(lnC ls)[k*2]? =some (.int .i64 (ls[k]).1)/\(lnC ls)[k*2+1]? =some (.int .i64 (ls[k]).2)
 | a::r,0,_=>⟨rfl,rfl⟩
 | a::r,k+1,hk=>by
  have:=lnC_get (ls:=r) (k:=k) (by simpa using hk)
  rw[show (k+1)*2=k*2+1+1 by omega];exact this
theorem gof_links{w:World}{B:Nat}{A:Option Addr}{k cap:Nat}{ls:List (Int×Int)}(ho:Own w B 90 2 A k cap (lnC ls)):LinksIn w A ls:=by
 have hlk:ls.length=k:=by have h1:=ho.len;rw[TY]at h1;omega
 refine⟨by rw[hlk];exact ho.max,fun hn=>?_⟩;obtain⟨g,e,hb,hg,hc⟩:=ho.cell (by intro h0;have:=TY ls;rw[h0]at this;cases ls with|nil=>exact hn rfl|cons a r=>simp only[List.length_nil,List.length_cons]at this;omega);refine⟨g,0,e,hg,fun j hj=>?_⟩;obtain⟨h1,h2⟩:=lnC_get hj;intro i v hi
 match i,hi with
 | 0,hi=>cases hi;have:=hc _ _ h1;simpa using this
 | 1,hi=>cases hi;have:=hc _ _ h2;simpa using this
 | _+2,hi=>cases hi
theorem Own.fz{w:World}{B e sz:Nat}{ts:List Nat}{A:Option Addr}{k cap:Nat}{xs:List Value}(ho:Own w B e sz A k cap xs)(ht:∀ cs,¬Sp ts e cs):Fz [] w.heap.size ts w (fun w=>Own w B e sz A k cap xs):=⟨ae _,fun w2 h2=>by
 refine⟨ho.1,?_⟩
 rcases ho.2 with hn|⟨g,c,cur,hv,hb,hg,r⟩
 ·exact .inl hn
 ·refine .inr ⟨g,c,cur,hv,hb,?_,r⟩
  exact(Fz.blk (X:=[]) (ts:=ts) (show Blk w g e cur from hg) (by simp) (ht _)).all w2 h2⟩
theorem Y4{w:World}{base:Nat}{e:TypeId}{sz:Nat}{A:Option Addr}{k cap:Nat}{xs:List Value}(h:Own w base e sz A k cap xs):∀ g∈aL A,∃ cs,Blk w g e cs:=fun g hg=>by
 rcases h.2 with ⟨hn,_⟩|⟨g',c,cur,hv,hb,hgg,r⟩
 ·cases hn;cases hg
 ·cases hv
  simp only[aL,List.mem_singleton]at hg
  subst hg;exact⟨cur,hgg⟩
theorem EY{ts:List Nat}{t:Nat}(h:t∉ts)(h1:t≠31)(h2:t≠34)(cs:Array Value):¬Sp ts t cs:=by
 rintro (h3|⟨h3,_⟩|⟨h3,_⟩)
 ·exact h h3
 ·exact h1 h3
 ·exact h2 h3
def TS1:List Nat:=93::28::TS
inductive NdData(w:World):List Nd->List Value->Prop
 | nil:NdData w [] []
 | snoc {l:List Nd} {vs:List Value} {x:Nd} {A:Option Addr} {c:Nat} (h:NdData w l vs) (hl:LinksIn w A x.ln):NdData w (l++[x]) (vs++[.int .i64 x.ty,.slice A x.ln.length c])
theorem NdData.len{w:World}{l:List Nd}{vs:List Value}(h:NdData w l vs):vs.length=l.length*2:=by
 induction h with
 | nil=>rfl
 | snoc h hl ih=>simp only[List.length_append,List.length_cons,List.length_nil,ih];omega
theorem NdData.get{w:World}{l:List Nd}{vs:List Value}(h:NdData w l vs):∀ k (hk:k<l.length),∃ A c,vs[k*2]? =some (.int .i64 (l[k]).ty)/\vs[k*2+1]? =some (.slice A (l[k]).ln.length c)/\LinksIn w A (l[k]).ln:=by
 induction h with
 | nil=>intro k hk;simp at hk
 | @snoc l cs t A c h hp ih=>
  intro k hk;have a1:=h.len;by_cases e:k<l.length
  ·obtain⟨A',c',h1,h2,h3⟩:=ih k e
   refine⟨A',c',?_,?_,?_⟩
   ·rw[List.getElem?_append_left oG,h1,List.getElem_append_left e]
   ·rw[List.getElem?_append_left oG,h2,List.getElem_append_left e]
   ·rw[List.getElem_append_left e];exact h3
  ·simp only[List.length_append,List.length_cons,List.length_nil]at hk
   have ek:k=l.length:=by omega
   subst ek;have eg:(l++[t])[l.length]'(by simp)=t:=by simp
   rw[eg];refine⟨A,c,?_,?_,hp⟩
   ·rw[List.getElem?_append_right oG,a1];simp
   ·rw[List.getElem?_append_right oG,a1];simp
theorem gof_nodes{w:World}{B:Nat}{A:Option Addr}{k cap:Nat}{cs:List Value}{l:List Nd}(ho:Own w B 93 2 A k cap cs)(ht:NdData w l cs):NodesIn w A l:=by
 have hlk:l.length=k:=by have h1:=ho.len;have h2:=ht.len;omega
 refine⟨by rw[hlk];exact ho.max,fun hn=>?_⟩
 obtain⟨g,e,hb,hg,hc⟩:=ho.cell (by
  intro h0;have:=ht.len;rw[h0]at this;cases l with
  | nil=>exact hn rfl
  | cons a r=>simp only[List.length_nil,List.length_cons]at this;omega)
 refine⟨g,0,e,hg,fun j hj=>?_⟩;obtain⟨A',c,h1,h2,h3⟩:=ht.get j hj;refine⟨A',c,?_,h3⟩;intro i v hi
 match i,hi with
 | 0,hi=>cases hi;have:=hc _ _ h1;simpa using this
 | 1,hi=>cases hi;have:=hc _ _ h2;simpa using this
 | _+2,hi=>cases hi
theorem gof_end{w:World}{B n:Nat}{A:Option Addr}{k cap:Nat}{cs:List Value}{l:List Nd}(ho:Own w B 93 2 A k cap cs)(ht:Fz [] n TS1 w (fun w=>NdData w l cs)):Fz [] w.heap.size TS w (fun w=>NodesIn w A l):=
 ((ho.fz (ts:=TS) (EY dE dE dE)).and ((ht.up).sub dE)).imp (fun _ h=>gof_nodes h.1 h.2)
theorem gof_more{w:World}{B n:Nat}{A:Option Addr}{j cap:Nat}{vs:List Value}{l:List Nd}{ls:List (Int×Int)}{z:Int}(ho:Own w B 90 2 A j cap (lnC ls))(ht:Fz [] n TS1 w (fun w=>NdData w l vs)):Fz [] w.heap.size TS1 w (fun w=>NdData w (l++[⟨z,ls⟩]) (vs++[.int .i64 z,.slice A j cap])):=by
 have hlk:ls.length=j:=by have h1:=ho.len;rw[TY]at h1;omega
 subst hlk;exact((ho.fz (ts:=TS1) (EY dE dE dE)).and ht).imp (fun _ h=> .snoc h.2 (gof_links h.1))
inductive LxData(w:World):List Lx->List Value->Prop
 | nil:LxData w [] []
 | snoc {l:List Lx} {vs:List Value} {x:Lx} {G S B:Option Addr} {gn cg cs cb:Nat} (h:LxData w l vs) (hw:x.word.size<9223372036854775807) (hn:gn=x.gr.length) (hG:NodesIn w G x.gr) (hS:SimsIn w S x.mean.type.args) (hT:TmsIn w B x.mean.args):LxData w (l++[x]) (vs++[.string x.word,.slice G gn cg,.int .i64 x.wt,.int .i64 x.mean.kind,.string x.mean.name,.int .i64 x.mean.index,.string x.mean.type.base,.slice S x.mean.type.args.length cs,.slice B x.mean.args.length cb])
def lxC(x:Lx)(G S B:Option Addr)(cg cs cb:Nat):List Value:=[.string x.word,.slice G x.gr.length cg,.int .i64 x.wt,.int .i64 x.mean.kind,.string x.mean.name,.int .i64 x.mean.index,.string x.mean.type.base,.slice S x.mean.type.args.length cs,.slice B x.mean.args.length cb]
theorem LxData.len{w:World}{l:List Lx}{vs:List Value}(h:LxData w l vs):vs.length=l.length*9:=by
 induction h with
 | nil=>rfl
 | snoc h _ _ _ _ _ ih=>simp only[List.length_append,List.length_cons,List.length_nil,ih];omega
theorem LxData.get{w:World}{l:List Lx}{vs:List Value}(h:LxData w l vs):∀ k (hk:k<l.length),(l[k]).word.size<9223372036854775807/\∃ G cg S cs B cb,(∀ j v,(lxC (l[k]) G S B cg cs cb)[j]? =some v->vs[k*9+j]? =some v)/\NodesIn w G (l[k]).gr/\SimsIn w S (l[k]).mean.type.args/\TmsIn w B (l[k]).mean.args:=by
 induction h with
 | nil=>intro k hk;simp at hk
 | @snoc l vs x G S B gn cg cs cb h hw hn hG hS hT ih=>
  intro k hk;have a1:=h.len;by_cases e:k<l.length
  ·rw[List.getElem_append_left e]
   obtain⟨h0,G',cg',S',cs',B',cb',h1,h2⟩:=ih k e;refine⟨h0,G',cg',S',cs',B',cb',fun j v hj=>?_,h2⟩;have hj9:j<9:=(av.1 hj).1;rw[List.getElem?_append_left oG];exact h1 j v hj
  ·simp only[List.length_append,List.length_cons,List.length_nil]at hk
   have ek:k=l.length:=by omega
   subst ek;have eg:(l++[x])[l.length]'(by simp)=x:=by simp
   rw[eg];subst hn;refine⟨hw,G,cg,S,cs,B,cb,fun j v hj=>?_,hG,hS,hT⟩;rw[List.getElem?_append_right oG,a1,Nat.add_sub_cancel_left];exact hj
theorem gof_lexes{w:World}{B:Nat}{A:Option Addr}{k cap:Nat}{cs:List Value}{l:List Lx}(ho:Own w B 38 9 A k cap cs)(ht:LxData w l cs):LexesIn w A l:=by
 have hlk:l.length=k:=by have h1:=ho.len;have h2:=ht.len;omega
 refine⟨by rw[hlk];exact ho.max,fun hn=>?_⟩
 obtain⟨g,e,hb,hg,hc⟩:=ho.cell (by
  intro h0;have:=ht.len;rw[h0]at this;cases l with
  | nil=>exact hn rfl
  | cons a r=>simp only[List.length_nil,List.length_cons]at this;omega)
 refine⟨g,0,e,hg,fun j hj=>?_⟩;obtain⟨h0,G,cg,S,cs',B',cb,h1,h2⟩:=ht.get j hj;refine⟨h0,G,cg,S,cs',B',cb,fun i v hi=>?_,h2⟩;have:=hc _ _ (h1 i v hi)
 simpa using this
end Go.Proofs.YtiofaflajkgiaaaGreatDoor
