/- Plain laws, and steps of programs, at every world. -/
import Derived.Test.YtgcgnkmmbecfmaaGreatDoorTrm
import Derived.Test.YtgcgnkmmbecfmaaGreatDoorOrd
import Derived.Test.YtgcgnkmmbecfmaaGreatDoorWrd
import Derived.Test.YtgcgnkmmbecfmaaGreatDoorEng2
import Derived.Test.YtgcgnkmmbecfmaaGreatDoorGro
namespace Go.Proofs.YtgcgnkmmbecfmaaGreatDoor
open Go.RowKit
variable {f:Int}{fs:List Ft}{g:List Nd}{hi i id k lo x:Nat}{l:List Ty}{listed:Array Bool}{w w':World}
section
abbrev cF:Array Value:=#[.string ⟨#[]⟩,.slice none 0 0,.int .i64 0,.int .i64 0,.string ⟨#[]⟩,.int .i64 0,.string ⟨#[]⟩,.slice none 0 0,.slice none 0 0]
abbrev cE:Array Value:=#[.string ⟨#[]⟩,.slice none 0 0,.int .i64 0,.int .i64 0,.int .i64 0,.string ⟨#[]⟩,.int .i64 0,.string ⟨#[]⟩,.slice none 0 0,.slice none 0 0]
structure Rl where
 name:ByteArray
 gr:List Nd
 kids:Int
 wt:Int
 mean:Tm
structure Lx where
 word:ByteArray
 gr:List Nd
 wt:Int
 mean:Tm
def RlIn(w:World)(b o:Nat)(r:Rl):Prop:=∃ G cg S cs B m,w.rangeAt b o [.string r.name,.slice G r.gr.length cg,.int .i64 r.kids,.int .i64 r.wt,.int .i64 r.mean.kind,.string r.mean.name,.int .i64 r.mean.index,.string r.mean.type.base,.slice S r.mean.type.args.length cs,.slice B r.mean.args.length m]/\NodesIn w G r.gr/\SimsIn w S r.mean.type.args/\TmsIn w B r.mean.args
def RulesIn(w:World)(A:Option Addr)(l:List Rl):Prop:=
 l.length<=vJ/\(l≠[]->∃ b o,A=some ⟨b,o,none⟩/\b<w.heap.size/\∀ k (h:k<l.length),RlIn w b (o+k*10) l[k])
def LxIn(w:World)(b o:Nat)(r:Lx):Prop:=r.word.size<9223372036854775807/\∃ G cg S cs B m,w.rangeAt b o [.string r.word,.slice G r.gr.length cg,.int .i64 r.wt,.int .i64 r.mean.kind,.string r.mean.name,.int .i64 r.mean.index,.string r.mean.type.base,.slice S r.mean.type.args.length cs,.slice B r.mean.args.length m]/\NodesIn w G r.gr/\SimsIn w S r.mean.type.args/\TmsIn w B r.mean.args
def LexesIn(w:World)(A:Option Addr)(l:List Lx):Prop:=
 l.length<=vJ/\(l≠[]->∃ b o,A=some ⟨b,o,none⟩/\b<w.heap.size/\∀ k (h:k<l.length),LxIn w b (o+k*9) l[k])
theorem RlIn.mono{w w':World}{b o:Nat}{r:Rl}(h:RlIn w b o r)(hb:Bel w w')(hl:b<w.heap.size):RlIn w' b o r:=by
 obtain⟨G,cg,S,cs,B,m,h1,h2,h3,h4⟩:=h;exact⟨G,cg,S,cs,B,m,hb.range hl h1,h2.mono hb,h3.mono hb,h4.mono hb⟩
theorem LxIn.mono{w w':World}{b o:Nat}{r:Lx}(h:LxIn w b o r)(hb:Bel w w')(hl:b<w.heap.size):LxIn w' b o r:=by
 obtain⟨h0,G,cg,S,cs,B,m,h1,h2,h3,h4⟩:=h;exact⟨h0,G,cg,S,cs,B,m,hb.range hl h1,h2.mono hb,h3.mono hb,h4.mono hb⟩
theorem RulesIn.mono{w w':World}{A:Option Addr}{l:List Rl}(h:RulesIn w A l)(hb:Bel w w'):RulesIn w' A l:=
 ⟨h.1,fun hn=>by
  obtain⟨b,o,e,hl,hc⟩:=h.2 hn
  exact⟨b,o,e,nLL hl hb.size,fun k hk=>(hc k hk).mono hb hl⟩⟩
theorem LexesIn.mono{w w':World}{A:Option Addr}{l:List Lx}(h:LexesIn w A l)(hb:Bel w w'):LexesIn w' A l:=
 ⟨h.1,fun hn=>by
  obtain⟨b,o,e,hl,hc⟩:=h.2 hn
  exact⟨b,o,e,nLL hl hb.size,fun k hk=>(hc k hk).mono hb hl⟩⟩
theorem RulesIn.at_{A:Option Addr}{l:List Rl}(h:RulesIn w A l)(hb:Bel w w')(hk:k<l.length):
  ∃ b o G cg S cs B m,A=some ⟨b,o,none⟩/\b<w.heap.size/\w'.rangeAt b (o+k*10) [Value.string (l[k]).name,.slice G (l[k]).gr.length cg,.int .i64 (l[k]).kids,.int .i64 (l[k]).wt,.int .i64 (l[k]).mean.kind,.string (l[k]).mean.name,.int .i64 (l[k]).mean.index,.string (l[k]).mean.type.base,.slice S (l[k]).mean.type.args.length cs,.slice B (l[k]).mean.args.length m]/\NodesIn w G (l[k]).gr/\SimsIn w S (l[k]).mean.type.args/\TmsIn w B (l[k]).mean.args:=by
 obtain⟨b,o,e,hl,hc⟩:=h.2 (by rintro rfl;simp at hk);obtain⟨G,cg,S,cs,B,m,h1,h2,h3,h4⟩:=hc k hk;exact⟨b,o,G,cg,S,cs,B,m,e,hl,hb.range hl h1,h2,h3,h4⟩
theorem LexesIn.at_{A:Option Addr}{l:List Lx}(h:LexesIn w A l)(hb:Bel w w')(hk:k<l.length):
  ∃ b o G cg S cs B m,A=some ⟨b,o,none⟩/\b<w.heap.size/\(l[k]).word.size<9223372036854775807/\w'.rangeAt b (o+k*9) [Value.string (l[k]).word,.slice G (l[k]).gr.length cg,.int .i64 (l[k]).wt,.int .i64 (l[k]).mean.kind,.string (l[k]).mean.name,.int .i64 (l[k]).mean.index,.string (l[k]).mean.type.base,.slice S (l[k]).mean.type.args.length cs,.slice B (l[k]).mean.args.length m]/\NodesIn w G (l[k]).gr/\SimsIn w S (l[k]).mean.type.args/\TmsIn w B (l[k]).mean.args:=by
 obtain⟨b,o,e,hl,hc⟩:=h.2 (by rintro rfl;simp at hk);obtain⟨h0,G,cg,S,cs,B,m,h1,h2,h3,h4⟩:=hc k hk;exact⟨b,o,G,cg,S,cs,B,m,e,hl,h0,hb.range hl h1,h2,h3,h4⟩
def plN(g:List Nd)(k:Int)(f:Nat):Bool:=decide ((0:Int)<=tgt (Ow g 0).ln (f:Int))==decide ((f:Int)<=k)
def gX(g:List Nd)(k:Int):Bool:=(List.range 4).all (plN g k)
theorem nd_zero(h:0<g.length):Ow g 0=g[0]:=by simp[Ow,List.getD,h]
theorem pl_yes{k:Int}(h:∀ f,f<4->plN g k f=true):gX g k=true:=aC.2 fun f hf=>h f (aw.1 hf)
theorem pl_no{k:Int}{f:Nat}(hf:f<4)(h:plN g k f=false):gX g k=false:=by
 grind[gX]
theorem Fw{k:Int}{f:Nat}(h:0<g.length):plN g k f=(decide ((0:Int)<=tgt (g[0]).ln (f:Int))==decide ((f:Int)<=k)):=by unfold plN;rw[nd_zero h]
def VQ(r:Rl):Prop:=r.kids<1\/3<r.kids\/r.wt<0\/1000000<r.wt
instance(r:Rl):Decidable (VQ r):=by unfold VQ;infer_instance
noncomputable def K0(l:List Ty)(fs:List Ft)(r:Rl):Int:=if VQ r then 3 else if (xk l fs r.gr).1≠0 then (xk l fs r.gr).1 else if gX r.gr r.kids=true then (tmF r.mean).1 else 5
theorem F9{r:Rl}(h:VQ r):K0 l fs r=3:=if_pos h
theorem rl_gr{r:Rl}(h:¬VQ r)(h2:¬(xk l fs r.gr).1=0):K0 l fs r=(xk l fs r.gr).1:=by unfold K0;rw[if_neg h,if_pos h2]
theorem rl_pl{r:Rl}(h:¬VQ r)(h2:(xk l fs r.gr).1=0)(h3:gX r.gr r.kids=false):K0 l fs r=5:=by unfold K0;rw[if_neg h,if_neg (fun e=>e h2),h3];rfl
theorem rl_ok{r:Rl}(h:¬VQ r)(h2:(xk l fs r.gr).1=0)(h3:gX r.gr r.kids=true):K0 l fs r=(tmF r.mean).1:=by unfold K0;rw[if_neg h,if_neg (fun e=>e h2),if_pos h3]
def Mk(r:Lx):Prop:=r.wt<0\/1000000<r.wt
instance(r:Lx):Decidable (Mk r):=by unfold Mk;infer_instance
noncomputable def PY(l:List Ty)(fs:List Ft)(r:Lx):Int:=if kw r.word=false then 10 else if Mk r then 3 else if (xk l fs r.gr).1≠0 then (xk l fs r.gr).1 else (tmF r.mean).1
theorem Dx{r:Lx}(h:kw r.word=false):PY l fs r=10:=if_pos h
theorem FK{r:Lx}(h0:kw r.word=true)(h:Mk r):PY l fs r=3:=by unfold PY;rw[h0,if_neg dE,if_pos h]
theorem lx_gr{r:Lx}(h0:kw r.word=true)(h:¬Mk r)(h2:¬(xk l fs r.gr).1=0):PY l fs r=(xk l fs r.gr).1:=by unfold PY;rw[h0,if_neg dE,if_neg h,if_pos h2]
theorem lx_ok{r:Lx}(h0:kw r.word=true)(h:¬Mk r)(h2:(xk l fs r.gr).1=0):PY l fs r=(tmF r.mean).1:=by unfold PY;rw[h0,if_neg dE,if_neg h,if_neg (fun e=>e h2)]
theorem DK(h:(xk l fs g).1=0):(j9 l.length fs.length g).1=0:=by
 grind[h1,j9,N3]
noncomputable def uj(l:List Ty)(fs:List Ft)(rs:List Rl)(i:Nat):Int:=match rs[i]? with
 | none=>0
 | some r=>if yJ r.name=false then 10 else if seen ((rs.take i).map (·.name)) r.name=true then 7 else K0 l fs r
noncomputable def Jy(l:List Ty)(fs:List Ft)(xs:List Lx)(i:Nat):Int:=match xs[i]? with
 | none=>0
 | some r=>PY l fs r
theorem rn10{rs:List Rl}(hi:i<rs.length)(h:yJ (rs[i]).name=false):uj l fs rs i=10:=by
 simp only[uj,List.getElem?_eq_getElem hi,if_pos h]
theorem rn7{rs:List Rl}(hi:i<rs.length)(h:yJ (rs[i]).name=true)(h2:seen ((rs.take i).map (·.name)) (rs[i]).name=true):uj l fs rs i=7:=by
 simp only[uj,List.getElem?_eq_getElem hi];rw[h,if_neg dE,if_pos h2]
theorem rnF{rs:List Rl}(hi:i<rs.length)(h:yJ (rs[i]).name=true)(h2:seen ((rs.take i).map (·.name)) (rs[i]).name=false):uj l fs rs i=K0 l fs rs[i]:=by
 simp only[uj,List.getElem?_eq_getElem hi];rw[h,if_neg dE,h2,if_neg dE]
theorem lnF{xs:List Lx}(hi:i<xs.length):Jy l fs xs i=PY l fs xs[i]:=by
 simp only[Jy,List.getElem?_eq_getElem hi]
noncomputable def yj(l:List Ty)(fs:List Ft)(rs:List Rl)(xs:List Lx)(st:List Nd):Fl:=
 if (qK l fs).1≠0 then qK l fs else if fs.length<=3 then (9,-1)else if 40<rs.length\/100<xs.length then (2,-1)
 else if (qQ (uj l fs rs) 0 rs.length).1≠0 then qQ (uj l fs rs) 0 rs.length else if (qQ (Jy l fs xs) 0 xs.length).1≠0 then qQ (Jy l fs xs) 0 xs.length
 else if (xk l fs st).1≠0 then ((xk l fs st).1,-1)else (0,0)
variable {l:List Ty} {fs:List Ft} {rs:List Rl} {xs:List Lx} {st:List Nd}
theorem M8(h:¬(qK l fs).1=0):yj l fs rs xs st=((qK l fs).1,(qK l fs).2):=if_pos h
theorem Bx(h:(qK l fs).1=0)(h2:fs.length<=3):yj l fs rs xs st=(9,-1):=by unfold yj;rw[if_neg (fun e=>e h),if_pos h2]
theorem Ej(h:(qK l fs).1=0)(h2:¬fs.length<=3)(h3:40<rs.length\/100<xs.length):yj l fs rs xs st=(2,-1):=by unfold yj;rw[if_neg (fun e=>e h),if_neg h2,if_pos h3]
theorem Xj{c i:Int}(h:(qK l fs).1=0)(h2:¬fs.length<=3)(h3:¬(40<rs.length\/100<xs.length))(h4:qQ (uj l fs rs) 0 rs.length=(c,i))(hc:c≠0):yj l fs rs xs st=(c,i):=by
 unfold yj;rw[if_neg (fun e=>e h),if_neg h2,if_neg h3,h4,if_pos hc]
theorem Wq{c i:Int}(h:(qK l fs).1=0)(h2:¬fs.length<=3)(h3:¬(40<rs.length\/100<xs.length))(h4:qQ (uj l fs rs) 0 rs.length=(0,0))(h5:qQ (Jy l fs xs) 0 xs.length=(c,i))(hc:c≠0):yj l fs rs xs st=(c,i):=by
 unfold yj;rw[if_neg (fun e=>e h),if_neg h2,if_neg h3,h4,if_neg dE,h5,if_pos hc]
theorem gr_start(h:(qK l fs).1=0)(h2:¬fs.length<=3)(h3:¬(40<rs.length\/100<xs.length))(h4:qQ (uj l fs rs) 0 rs.length=(0,0))(h5:qQ (Jy l fs xs) 0 xs.length=(0,0))(h6:¬(xk l fs st).1=0):yj l fs rs xs st=((xk l fs st).1,-1):=by
 unfold yj;rw[if_neg (fun e=>e h),if_neg h2,if_neg h3,h4,if_neg dE,h5,if_neg dE,if_pos h6]
theorem gr_ok(h:(qK l fs).1=0)(h2:¬fs.length<=3)(h3:¬(40<rs.length\/100<xs.length))(h4:qQ (uj l fs rs) 0 rs.length=(0,0))(h5:qQ (Jy l fs xs) 0 xs.length=(0,0))(h6:(xk l fs st).1=0):yj l fs rs xs st=(0,0):=by
 unfold yj;rw[if_neg (fun e=>e h),if_neg h2,if_neg h3,h4,if_neg dE,h5,if_neg dE,if_neg (fun e=>e h6)]
theorem rseen_yes{j:Nat}{s:ByteArray}(hk:k<rs.length)(hj:j<k)(h:(rs[j]'oG).name=s):seen ((rs.take k).map (·.name)) s=true:=by
 simp only[seen,List.any_eq_true,decide_eq_true_eq,List.mem_map];refine⟨_,⟨rs[j]'oG,?_,rfl⟩,h⟩;rw[List.mem_take_iff_getElem];exact⟨j,by omega,rfl⟩
theorem TW(h:(qK l fs).1=0):fs.length<=40:=by
 grind[qK]
end
section
section stp
variable {l:List Ty} {fs:List Ft} {ga gb X Y:List Nd} {j:Nat}
def vX(ga gb:List Nd):List Nd:=ga++gb.map (shN ga.length)
theorem N6(ga gb:List Nd):(vX ga gb).length=ga.length+gb.length:=by simp[vX]
theorem Ry(h:i<ga.length):nd (vX ga gb) i=nd ga i:=Zz h
theorem Rv(h:i<ga.length+gb.length)(hn:¬i<ga.length):nd (vX ga gb) i=shN ga.length (nd gb (i-ga.length))/\i-ga.length<gb.length:=by
 have hl:i-ga.length<gb.length:=by omega
 have h2:=VW (U:=ga) hl;rw[show ga.length+(i-ga.length)=i by omega]at h2;exact⟨h2,hl⟩
theorem Y3(a2:GX l ga)(a4:GX l gb)(hj:j<ga.length){P rep ρ:Nat->Nat}{T:Nat->Int}{L:Nat->List (Int×Int)}{o:List Nat}(a1:US l (vX ga gb) [(j,ga.length)] P rep ρ T L [])(hd:DL (yw (vX ga gb).length rep T L) [rep 0] [] o):
  TrR (yw (vX ga gb).length rep T L) (rep 0) o/\GX l (yK (yw (vX ga gb).length rep T L) o)/\Maps l ga (yK (yw (vX ga gb).length rep T L) o)/\Adm l (vX ga gb) (yK (yw (vX ga gb).length rep T L) o) (fun i=>o.idxOf (rep i))/\o.idxOf (rep 0)=0/\o.idxOf (rep j)=o.idxOf (rep ga.length):=by
 have a3:=N6 ga gb;have hp:=a2.pos;have hpb:=a4.pos;have h0:0<(vX ga gb).length:=by omega
 have hgy:=a1.gy a2.vt h0;have hr:=a1.uf.rl 0 h0;have hrr:=a1.uf.two h0;have t:=hgy.trr (r:=rep 0) (by rw[j5];exact hr) hd;have hjr:rep j=rep ga.length:=a1.jcov (j,ga.length) (by simp) rep ⟨fun i hi=>(a1.uf.two hi).symm,fun w hw=>by cases hw⟩;have z0:∀ x:Nd,shN 0 x=x:=fun x=>V8 rfl (by simp[shN])
 obtain⟨φ,h1,h2,h3,h4,h5⟩:=a1.into a2.vt hr hrr t (g:=ga) (s:=0) a2 (fun i hi=>by
  rw[Nat.zero_add,z0]
  exact⟨by omega,Zz hi⟩) t.has
 obtain⟨ψ,k1,k2,k3,k4,k5⟩:=a1.into a2.vt hr hrr t (g:=gb) (s:=ga.length) a4 (fun i hi=>⟨by omega,VW hi⟩) (by rw[<- hjr];have:=(h2 j hj).1;rwa[Nat.zero_add]at this);have e1:∀ i,i<ga.length->o.idxOf (rep i)=φ i:=fun i hi=>by have:=(h2 i hi).2;rw[Nat.zero_add]at this;exact this.symm
 have e2:∀ i,i<gb.length->o.idxOf (rep (ga.length+i))=ψ i:=fun i hi=>((k2 i hi).2).symm
 refine⟨t,t.gx hgy,⟨φ,by rw[h1];exact t.zero,h3,h4,h5⟩,⟨fun i hi=>?_,fun i hi=>?_,fun i hi x hx=>?_⟩,t.zero,by rw[hjr]⟩<;>rw[a3]at hi<;>by_cases e:i<ga.length
 ·rw[e1 i e];exact h3 i e
 ·obtain⟨_,hl⟩:=Rv hi e
  have:=e2 _ hl;rw[show ga.length+(i-ga.length)=i by omega]at this;rw[this];exact k3 _ hl
 ·simp only[e1 i e];rw[Ry e];exact h4 i e
 ·obtain⟨hn,hl⟩:=Rv hi e
  have:=e2 _ hl;rw[show ga.length+(i-ga.length)=i by omega]at this;simp only[this];rw[hn];exact k4 _ hl
 ·simp only[e1 i e]
  rw[Ry e]at hx;have hxr:=a2.lr i e x hx;rw[h5 i e x hx,e1 _ hxr.2]
 ·obtain⟨hn,hl⟩:=Rv hi e
  have he:=e2 _ hl;rw[show ga.length+(i-ga.length)=i by omega]at he;simp only[he];rw[hn]at hx;obtain⟨y,hy,rfl⟩:=av.1 hx;have hyr:=a4.lr _ hl y hy;rw[k5 _ hl y hy];have e3:(y.2+(ga.length:Int)).toNat=ga.length+y.2.toNat:=by omega
  simp only[e3];rw[e2 _ hyr.2]
theorem RJ(hga:GX l ga)(hgb:GX l gb)(hj:j<ga.length)(h:Vj l (vX ga gb) [(j,ga.length)] X):GX l X/\Maps l ga X:=by
 obtain⟨P,rep,ρ,T,L,o,hus,hd,rfl⟩:=h;obtain⟨_,a,b,_⟩:=Y3 hga hgb hj hus hd;exact⟨a,b⟩
theorem T5(hga:GX l ga)(hgb:GX l gb)(hj:j<ga.length)(h:Vj l (vX ga gb) [(j,ga.length)] X):EY l (vX ga gb) [(j,ga.length)]:=by
 obtain⟨P,rep,ρ,T,L,o,hus,hd,rfl⟩:=h;obtain⟨_,a,_,b,_,c⟩:=Y3 hga hgb hj hus hd;exact⟨_,_,a.tr,b,fun p hp=>by rw[List.mem_singleton.1 hp];exact c⟩
theorem stp_le(a5:GX l ga)(hgb:GX l gb)(hj:j<ga.length)(h:Vj l (vX ga gb) [(j,ga.length)] X)(k:Vj l (vX ga gb) [(j,ga.length)] Y):Maps l X Y:=by
 obtain⟨P,rep,ρ,T,L,o,a2,hd,rfl⟩:=h;obtain⟨P',a1,ρ',T',L',o',a3,hd',rfl⟩:=k;obtain⟨t,_⟩:=Y3 a5 hgb hj a2 hd;obtain⟨_,a,_,b,c,d⟩:=Y3 a5 hgb hj a3 hd';have h0:0<(vX ga gb).length:=by have:=N6 ga gb;have:=a5.pos;omega
 have hJ:∀ p∈[(j,ga.length)],(fun i=>o'.idxOf (a1 i)) p.1=(fun i=>o'.idxOf (a1 i)) p.2:=fun p hp=>by rw[List.mem_singleton.1 hp];exact d
 have a4:=(a2.only _ _ a.tr b hJ).1.1 0 h0;exact a2.least (a2.uf.rl 0 h0) (a2.uf.two h0) t a.tr b hJ (a4.symm.trans c)
theorem C9(a2:GX l ga)(a1:GX l gb)(hj:j<ga.length)(h:Vj l (vX ga gb) [(j,ga.length)] X)(k:Vj l (vX ga gb) [(j,ga.length)] Y):X=Y:=by
 have m1:=stp_le a2 a1 hj h k;have m2:=stp_le a2 a1 hj k h;have gx:=(RJ a2 a1 hj h).1;have gy:=(RJ a2 a1 hj k).1;have cX:∃ o,DL X [0] [] o/\yK X o=X:=by
  obtain⟨P,rep,ρ,T,L,o,a3,hd,rfl⟩:=h;obtain⟨t,_⟩:=Y3 a2 a1 hj a3 hd;exact⟨_,by have:=t.dl2 t.has t.dl;rw[t.zero]at this;exact this,t.can2 t.has t.dl⟩
 have cY:∃ o,DL Y [0] [] o/\yK Y o=Y:=by
  obtain⟨P,rep,ρ,T,L,o,a3,hd,rfl⟩:=k;obtain⟨t,_⟩:=Y3 a2 a1 hj a3 hd;exact⟨_,by have:=t.dl2 t.has t.dl;rw[t.zero]at this;exact this,t.can2 t.has t.dl⟩
 obtain⟨o,ho,e⟩:=cX;obtain⟨p,hp,e2⟩:=cY;have:=can_eq gx gy m1 m2 ho hp;rw[e,e2]at this;exact this.symm
theorem stp_valid(ha:GV l fs ga)(hb:GV l fs gb)(hj:j<ga.length)(h:Vj l (vX ga gb) [(j,ga.length)] X)(h60:X.length<=60):Q8 l fs X=(0,0):=by
 have hl:=(RJ ha.gx hb.gx hj h).1;obtain⟨P,rep,ρ,T,L,o,a2,hd,rfl⟩:=h;have a3:=N6 ga gb;have h0:0<(vX ga gb).length:=by have:=ha.gok.pos;omega
 obtain⟨t,_⟩:=Y3 ha.gx hb.gx hj a2 hd
 have a1:=a2.fit (fs:=fs) ha.s.vt (a2.uf.rl 0 h0) (a2.uf.two h0) t (fun i hi x hx=>by
  rw[a3]at hi;by_cases e:i<ga.length
  ·rw[Ry e]at hx ⊢
   have h1:=ha.lt e hx;have h2:=(ha.gx.lr i e x hx).2;rw[Ry h2];exact⟨⟨h1.1,h1.2.1⟩,h1.2.2⟩
  ·obtain⟨h3,a4⟩:=Rv hi e
   rw[h3]at hx ⊢;obtain⟨y,hy,rfl⟩:=av.1 hx;have h1:=hb.lt a4 hy;have h2:=(hb.gx.lr _ a4 y hy).2;have h4:=(hb.gx.lr _ a4 y hy).1;have e1:(y.2+(ga.length:Int)).toNat=ga.length+y.2.toNat:=by omega
   simp only[e1];rw[show nd (vX ga gb) (ga.length+y.2.toNat)=_ from VW h2]
   exact⟨⟨h1.1,h1.2.1⟩,h1.2.2⟩)
 exact gf_mk ha.h hl h60 a1.1 a1.2
def plc(g:List Nd)(f:Int):Int:=tgt (nd g 0).ln f
theorem stp_plc(hga:GX l ga)(hgb:GX l gb)(hj:j<ga.length)(h:Vj l (vX ga gb) [(j,ga.length)] X)(hf:0<=plc ga f):0<=plc X f:=by
 obtain⟨φ,hφ⟩:=(RJ hga hgb hj h).2;unfold plc at hf ⊢;rcases tgt_mem (xs:=(nd ga 0).ln) (f:=f)with e|⟨y,hy,e1,_⟩
 ·omega
 ·have:=hφ.ln 0 hga.pos y hy
  rw[hφ.zero,e1]at this;omega
structure Jok(l:List Ty)(fs:List Ft)(m:Int)(g:List Nd):Prop where
 v:GV l fs g
 z:Q8 l fs g=(0,0)
 p:∀ f:Int,0<=f->f<=m->0<=plc g f
theorem Jok.lt{m:Int}(h:Jok l fs m g)(h0:0<=f)(hm:f<=m):(plc g f).toNat<g.length:=by
 have hp:=h.p f h0 hm;rcases tgt_mem (xs:=(nd g 0).ln) (f:=f)with e|⟨y,hy,e1,e2⟩
 ·unfold plc at hp;omega
 ·have:=(h.v.gx.lr 0 h.v.gx.pos y hy).2
  unfold plc;rw[e2];exact this
theorem Jok.step{m:Int}{k:List Nd}(h:Jok l fs m ga)(hk:GV l fs k)(h0:0<=f)(hm:f<=m)(hX:Vj l (vX ga k) [((plc ga f).toNat,ga.length)] X)(h60:X.length<=60):Jok l fs m X:=by
 have z:=stp_valid h.v hk (h.lt h0 hm) hX h60;exact⟨gv_of (by rw[z]),z,fun q q0 qm=>stp_plc h.v.gx hk.gx (h.lt h0 hm) hX (h.p q q0 qm)⟩
def BadU(l:List Ty)(U:List Nd)(J:List (Nat×Nat)):Prop:=¬EY l U J\/∃ X,Vj l U J X/\60<X.length
theorem bad_no(hga:GX l ga)(hgb:GX l gb)(hj:j<ga.length)(h:BadU l (vX ga gb) [(j,ga.length)])(hX:Vj l (vX ga gb) [(j,ga.length)] X)(h60:X.length<=60):False:=by
 rcases h with h|⟨Z,hZ,hz⟩
 ·exact h (T5 hga hgb hj hX)
 ·rw[C9 hga hgb hj hX hZ]at h60;omega
def J3(l:List Ty):List Nd->Nat->List (List Nd)->Bool->List Nd->Prop
 | x,_,[],ok,Y=>ok=true/\∃ o,DL x [(plc x 0).toNat] [] o/\Y=yK x o
 | x,i,k::ks,ok,Y=>(∃ X,Vj l (vX x k) [((plc x ((i:Int)+1)).toNat,x.length)] X/\X.length<=60/\J3 l X (i+1) ks ok Y)\/(BadU l (vX x k) [((plc x ((i:Int)+1)).toNat,x.length)]/\ok=false/\Y= [])
theorem join_no{x k:List Nd}{ks:List (List Nd)}(h:BadU l (vX x k) [((plc x ((i:Int)+1)).toNat,x.length)]):J3 l x i (k::ks) false []:= .inr ⟨h,rfl,rfl⟩
theorem B8{m:Int}:∀(ks:List (List Nd)) (x:List Nd) (i:Nat) (ok a1:Bool) (Y Y':List Nd),Jok l fs m x->(∀ k∈ks,GV l fs k)->(i:Int)+ks.length<=m->J3 l x i ks ok Y->J3 l x i ks a1 Y'->ok=a1/\Y=Y'
 | [],x,i,ok,a1,Y,Y',hx,_,_,h,h'=>by
  obtain⟨rfl,o,ho,rfl⟩:=h
  obtain⟨rfl,o',ho',rfl⟩:=h'
  exact⟨rfl,by rw[DL.det ho ho']⟩
 | k::ks,x,i,ok,a1,Y,Y',hx,hk,hm,h,h'=>by
  rw[List.length_cons]at hm
  have a2:=hk k (aB ..)
  have a3:=hx.lt (f:=(i:Int)+1) oG oG
  rcases h with ⟨X,h1,h2,h3⟩|⟨h1,rfl,rfl⟩
  ·rcases h' with ⟨X',k1,k2,k3⟩|⟨k1,_⟩
   ·obtain rfl:=C9 hx.v.gx a2.gx a3 h1 k1
    exact B8 ks X (i+1) ok a1 Y Y' (hx.step a2 oG oG h1 h2) (fun q hq=>hk q (ar _ hq)) oG h3 k3
   ·exact(bad_no hx.v.gx a2.gx a3 k1 h1 h2).elim
  ·rcases h' with ⟨X',k1,k2,_⟩|⟨_,rfl,rfl⟩
   ·exact(bad_no hx.v.gx a2.gx a3 h1 k1 k2).elim
   ·exact⟨rfl,rfl⟩
theorem J0(h:(qK l fs).1=0)(h2:(xk l fs g).1=0):GV l fs g/\Q8 l fs g=(0,0):=by
 have e:(Q8 l fs g).1=0:=by rw[gf_in h];exact h2
 have hv:=gv_of e;exact⟨hv,by rw[gf_in h,IQ hv.lo hv.t hv.u]⟩
theorem jok_rule{r:Rl}(h:(qK l fs).1=0)(h2:(xk l fs r.gr).1=0)(h3:gX r.gr r.kids=true)(h4:r.kids<=3):Jok l fs r.kids r.gr:=by
 obtain⟨hv,hz⟩:=J0 h h2;refine⟨hv,hz,fun f f0 fm=>?_⟩;obtain⟨n,hn⟩:=Int.eq_ofNat_of_zero_le f0;subst hn;have:=aC.1 h3 n (aw.2 oG);unfold plN at this;have e:decide ((n:Int)<=r.kids)=true:=ai fm;rw[e]at this;have h5:(0:Int)<=tgt (Ow r.gr 0).ln (n:Int):=by simpa using this
 exact h5
end stp
end
section
section monok
variable {P:Program} {Q:Exit->Act->World->Prop} {n:Nw} {f:Fr} {w:World}
def vO(f:Fr)(o:Oper):Value:=match o.dst with
 | some d=>f d
 | none=>undef
def rO(R:Nat->Value->World->Prop)(i:Nat)(o:Oper)(v:Value)(w:World):Prop:=match o.dst with
 | some _=>R i v w
 | none=>R i undef w
def B3(l:List Oper)(m:Nat)(S:List Nat):Bool:=
 decide (l.length=m)&&(List.range l.length).all (fun i=>match l[i]? with
  | some o=>o.guard.isNone&&(vk o).all (fun j=>decide (j<i))&&(match o.dst with
   | some d=>mem S d&&(List.range l.length).all (fun j=>decide (i=j)||(match l[j]? with|some o'=>!(o'.dst==some d)|none=>true))
   | none=>true)
  | none=>false)
theorem I8{Post:Value->World->Prop}{op:Op}{ty:TypeId}{pos:String}{af:Array Edge}(h:∀(ops:Array Oper) (Q:Exit->Act->World->Prop),(∀ w',Post undef w'->WL P ops Q [] n f w')->WL P ops Q [⟨none,op,ty,pos,af,none⟩] n f w):OS P n f w ⟨none,op,ty,pos,af,none⟩ Post:=by
 unfold OS;intro K Q hK
 have h1:=h #[] (Tj K Q) (fun w' hp=>by
  unfold WL;refine wpList_nil ?_;have:=hK undef w' hp
  exact this)
 unfold WL wpList at h1;rw[if_pos (by simp[Region.wanted])]at h1;have ho:¬LetsOut (Tj K Q):=fun⟨_,_,h⟩=>h
 rcases h1 with h1|⟨_,h1⟩
 ·exact Mj (Q:=Tj K Q) (fun a w h=>h) (fun c a w h=>h) ho h1
 ·exact absurd h1 ho
theorem c_monoK{l:List Oper}(m:Nat)(S X:List Nat)(R:Nat->Value->World->Prop)(J:World->Prop)(hm:P.follows .mixedOrders=true)(hB:B3 l m S=true)(hJ0:∀ w',Same [] w w'->J w')
  (step:∀ i o,i<m->l[i]? =some o->∀ f' w',Same X w w'->J w'->Ag S f' f->(∀ j o',j∈vk o->l[j]? =some o'->R j (vO f' o') w')->OS P n f' w' o (fun v w''=>Same X w' w''/\J w''/\rO R i o v w''/\∀ k v,k≠i->R k v w'->R k v w''))
  (fin:∀ f' w',Same X w w'->J w'->Ag S f' f->(∀ i o,l[i]? =some o->R i (vO f' o) w')->WL P l.toArray Q [] n f' w'):WC P (.region id l.toArray true) Q n f w:=by
 unfold WC;refine wp_region_any hm ?_;simp only[B3,Bool.and_eq_true,List.all_eq_true,List.mem_range,decide_eq_true_eq]at hB;obtain⟨hlm,hB⟩:=hB;have ao:∀ i o,l[i]? =some o->o.guard=none/\(∀ j∈vk o,j<i)/\∀ d,o.dst=some d->mem S d=true/\∀ j o',l[j]? =some o'->i≠j->o'.dst≠some d:=fun i o ho=>by
  have b4:i<l.length:=(au.1 ho).1;have h:=hB i b4;simp only[ho,Bool.and_eq_true]at h;obtain⟨⟨h1,h2⟩,h3⟩:=h;refine⟨Option.isNone_iff_eq_none.1 h1,fun j hj=>by simpa using aC.1 h2 j hj,fun d hd=>?_⟩;simp only[hd,Bool.and_eq_true]at h3;refine⟨h3.1,fun j o' a1 b3 b5=>?_⟩;have h4:=aC.1 h3.2 j (aw.2 (au.1 a1).1);simp[a1,b5,b3]at h4
 have key:∀(a3:Nat) (listed:Array Bool) (f':Fr) (w':World),listed.size=l.length->Dn l listed->Same X w w'->J w'->Ag S f' f->(∀ i o,l[i]? =some o->listed.getD i false=true->R i (vO f' o) w')->
   (List.range l.length).countP (fun i=>!listed.getD i false)<=a3->wpAny P .any l.toArray Q a3 listed (AF n f') w':=by
  have b1:∀(listed:Array Bool) (f':Fr) (w':World),Same X w w'->J w'->Ag S f' f->(∀ i o,l[i]? =some o->listed.getD i false=true->R i (vO f' o) w')->(∀ i,i<l.length->listed.getD i false=true)->Q .normal (AF n f') w':=fun listed f' w' hs hj a5 hR a2=>by
   have:=fin f' w' hs hj a5 (fun i o ho=>hR i o ho (a2 i (au.1 ho).1));unfold WL at this;exact this
  intro a3
  induction a3 with
  | zero=>
   intro listed f' w' hs hD a9 hj a5 hR hc;have a2:∀ i,i<l.length->listed.getD i false=true:=by
    intro i hi;have h0:(List.range l.length).countP (fun i=>!listed.getD i false)=0:=by omega
    rw[List.countP_eq_zero]at h0;have:=h0 i (aw.2 hi)
    simpa using this
   refine⟨?_,b1 listed f' w' a9 hj a5 hR a2⟩;cases hr:Region.ready .any l.toArray listed with
   | nil=>rfl
   | cons i r=>
    obtain⟨o,ho,hn,_⟩:=oJ listed i (by rw[hr];simp);have:i<l.length:=(au.1 ho).1;rw[a2 i oG]at hn;cases hn
  | succ a3 ih=>
   intro listed f' w' hs hD a9 hj a5 hR hc;refine⟨fun hr=>?_,fun i hi=>?_⟩
   ·have a2:∀ k,k<=l.length->∀ i,i<k->listed.getD i false=true:=by
     intro k
     induction k with
     | zero=>intro _ i hi;omega
     | succ k ihk=>
      intro hk i hi;have ab:=ihk oG;by_cases hik:i<k
      ·exact ab i hik
      ·have:i=k:=by omega
       subst this;cases hb:listed.getD i false with
       | true=>rfl
       | false=>
        have ho:l[i]? =some l[i]:=aN oG;have:=Oz listed i _ hs ho hb (fun j hj=>ab j ((ao i _ ho).2.1 j hj));rw[hr]at this;cases this
    exact b1 listed f' w' a9 hj a5 hR (a2 l.length (ah _))
   ·obtain⟨o,ho,hn,hd⟩:=oJ listed i hi
    have b4:i<l.length:=(au.1 ho).1;obtain⟨hg,hdl,hdd⟩:=ao i o ho;unfold wpOp;simp only[List.getElem?_toArray,ho];rw[if_pos (by simp[Region.wanted,hg])]
    left
    have ac:=step i o oG ho f' w' a9 hj a5 (fun j o' hjd a1=>hR j o' a1 (hd j hjd));unfold OS at ac;refine ac _ _ ?_
    rintro v w'' ⟨hs1,hj1,hr1,hk1⟩
    have hli:∀ j,i≠j->(listed.setIfInBounds i true).getD j false=listed.getD j false:=fun j a4=>by
     simp only[Array.getD_eq_getD_getElem?,Array.getElem?_setIfInBounds_ne a4]
    have hlt:=gK (p:=fun i=>!listed.getD i false) (q:=fun k=>!(listed.setIfInBounds i true).getD k false) (fun x hx=>by
     by_cases hix:i=x
     ·subst hix;simp[hn]
     ·simpa only[Array.getD_eq_getD_getElem?,Array.getElem?_setIfInBounds_ne hix]using hx) (List.range l.length) i (aw.2 b4) (by simp[hn]) (by
      have:i<listed.size:=by omega
      simp[this])
    cases hdst:o.dst with
    | none=>
     have b2:R i undef w'':=by simpa only[rO,hdst]using hr1
     show wpAny P .any l.toArray Q a3 (listed.setIfInBounds i true) (AF n f') w'';refine ih _ _ _ (by simpa using hs) (hD.set oG ho hd) (a9.trans hs1) hj1 a5 (fun j o' a1 an=>?_) oG;by_cases a4:i=j
     ·subst a4
      rw[ho]at a1;cases a1
      simpa only[vO,hdst]using b2
     ·rw[hli j a4]at an
      exact hk1 j _ (fun e=>a4 e.symm) (hR j o' a1 an)
    | some d=>
     have b2:R i v w'':=by simpa only[rO,hdst]using hr1
     obtain⟨hSd,b3⟩:=hdd d hdst;rw[X0];refine ih _ _ _ (by simpa using hs) (hD.set oG ho hd) (a9.trans hs1) hj1 (OW hSd a5) (fun j o' a1 an=>?_) oG;by_cases a4:i=j
     ·subst a4
      rw[ho]at a1;cases a1;have:vO (upd f' d v) o=v:=by simp[vO,hdst,upd]
      rw[this];exact b2
     ·rw[hli j a4]at an
      have:vO (upd f' d v) o'=vO f' o':=by
       unfold vO;cases b5:o'.dst with
       | none=>rfl
       | some d'=>
        have h1:=b3 j o' a1 a4;rw[b5]at h1;simp only[upd];have:Nat.beq d' d=false:=by
         cases hb:Nat.beq d' d
         ·rfl
         ·exact absurd (congrArg some (aR hb)) h1
        simp[this]
      rw[this];exact hk1 j _ (fun e=>a4 e.symm) (hR j o' a1 an)
 have h0:=key l.length (Array.replicate l.length false) f { w with drawn:=w.drawn+1 } (by simp) (fun j o _ h=>by
  simp only[Array.getD_eq_getD_getElem?,Array.getElem?_replicate]at h
  split at h<;>cases h) ((Same.drew w 1).weak (fun x hx=>by cases hx)) (hJ0 _ (Same.drew w 1)) Xk (fun i o _ h=>by
  simp only[Array.getD_eq_getD_getElem?,Array.getElem?_replicate]at h
  split at h<;>cases h) (by
   have:=List.countP_le_length (p:=fun i=>!(Array.replicate l.length false).getD i false) (l:=List.range l.length);simp only[List.length_range]at this
   omega)
 simpa using h0
theorem c_monoKO{l:List Oper}(m:Nat)(S X:List Nat)(R:Nat->Value->World->Prop)(J:World->Prop)(hm:P.follows .mixedOrders=true)(hB:B3 l m S=true)
  (hst:∀ i v w1 w2,R i v w1->Same [] w1 w2->R i v w2) (hJ:∀ w1 w2,J w1->Same [] w1 w2->J w2) (hJ0:J w)
  (step:∀ i o,i<m->l[i]? =some o->∀ g w',Same X w w'->J w'->(∀ j o',j∈vk o->l[j]? =some o'->R j (vO g o') w')->match o.dst with
   | some _=>OS P n (ovr S g f) w' o (fun v w''=>Same [] w' w''/\R i v w''/\SK false w' w'' v)
   | none=>OS P n (ovr S g f) w' o (fun _ w''=>Same X w' w''/\J w''/\R i undef w''/\∀ k v,k≠i->R k v w'->R k v w''))
  (fin:∀ g w',Same X w w'->J w'->(∀ i o,l[i]? =some o->R i (vO g o) w')->WL P l.toArray Q [] n (ovr S g f) w'):WC P (.region id l.toArray true) Q n f w:=by
 refine c_monoK m S X R J hm hB (fun w' hs=>hJ _ _ hJ0 hs) (fun i o hi ho f' w' hs hj a1 hd=>?_) (fun f' w' hs hj a1 hR=>?_)
 ·have h:=step i o hi ho f' w' hs hj hd
  rw[<- o7 a1]at h;unfold rO;cases hdst:o.dst with
  | some d=>
   simp only[hdst]at h;unfold OS at h ⊢;exact fun K Q hK=>h K Q (fun v w'' ⟨h1,h2,_⟩=>hK v w'' ⟨h1.weak (fun x hx=>by cases hx),hJ _ _ hj h1,h2,fun k v _ hr=>hst k v _ _ hr h1⟩)
  | none=>
   simp only[hdst]at h;unfold OS at h ⊢;exact fun K Q hK=>h K Q (fun v w'' h1=>hK v w'' h1)
 ·have:=fin f' w' hs hj hR
  rwa[<- o7 a1]at this
end monok
end
section
section monokg
variable {P:Program} {Q:Exit->Act->World->Prop} {n:Nw} {f:Fr} {w:World}
def monoKG(l:List Oper)(m:Nat)(S:List Nat):Bool:=
 decide (l.length=m)&&(List.range l.length).all (fun i=>match l[i]? with
  | some o=>(vk o).all (fun j=>decide (j<i))&&(match o.dst with
   | some d=>mem S d&&(List.range l.length).all (fun j=>decide (i=j)||(match l[j]? with|some o'=>!(o'.dst==some d)|none=>true))
   | none=>true)
  | none=>false)
theorem c_monoKG{l:List Oper}(m:Nat)(S X:List Nat)(R:Nat->Value->World->Prop)(J:World->Prop)(hm:P.follows .mixedOrders=true)(hB:monoKG l m S=true)(hJ0:∀ w',Same [] w w'->J w')
  (step:∀ i o,i<m->l[i]? =some o->∀ f' w',Same X w w'->J w'->Ag S f' f->(∀ j o',j∈vk o->l[j]? =some o'->R j (vO f' o') w')->(Region.wanted o (yielded l.toArray (AF n f').tmps)=true->OS P n f' w' o (fun v w''=>Same X w' w''/\J w''/\rO R i o v w''/\∀ k v,k≠i->R k v w'->R k v w''))/\(Region.wanted o (yielded l.toArray (AF n f').tmps)=false->R i undef w'))
  (fin:∀ f' w',Same X w w'->J w'->Ag S f' f->(∀ i o,l[i]? =some o->R i (vO f' o) w')->WL P l.toArray Q [] n f' w'):WC P (.region id l.toArray true) Q n f w:=by
 simp only[monoKG,Bool.and_eq_true,List.all_eq_true,List.mem_range,decide_eq_true_eq]at hB;obtain⟨hlm,hB⟩:=hB;have a3:∀ i o,l[i]? =some o->(∀ j∈vk o,j<i)/\(∀ v f',Ag S f' f->Ag S (ZY f' o.dst v) f)/\(∀ f' v,vO (ZY f' o.dst v) o=(match o.dst with|some _=>v|none=>undef))/\∀ f' v j o',l[j]? =some o'->i≠j->vO (ZY f' o.dst v) o'=vO f' o':=fun i o ho=>by
  have hil:i<l.length:=(au.1 ho).1;have h:=hB i hil;simp only[ho,Bool.and_eq_true]at h;obtain⟨h2,h3⟩:=h;refine⟨(fun j hj=>by simpa using aC.1 h2 j hj),?_⟩;unfold vO ZY;cases hd:o.dst with
  | none=>exact⟨fun v f' h=>h,fun f' v=>rfl,fun f' v j o' _ _=>rfl⟩
  | some d=>
   simp only[hd,Bool.and_eq_true]at h3;refine⟨fun v f' h=>OW h3.1 h,fun f' v=>by simp[upd],fun f' v j o' a1 hne=>?_⟩;have h4:=aC.1 h3.2 j (aw.2 (au.1 a1).1);cases hd':o'.dst with
   | none=>rfl
   | some d'=>
    simp only[a1,hd']at h4;have hb:Nat.beq d' d=false:=by
     cases hb:Nat.beq d' d
     ·rfl
     ·rw[Nat.eq_of_beq_eq_true hb]at h4;simp[hne]at h4
    simp only[upd,hb,cond_false]
 let JJ:Array Bool->Fr->World->Prop:=fun listed f' w'=>Same X w w'/\J w'/\Ag S f' f/\∀ i o,l[i]? =some o->listed.getD i false=true->R i (vO f' o) w'
 refine EV JJ hm (fun w' hs=>⟨hs.weak (by simp),hJ0 _ hs,Xk,fun i _ _ h=>absurd h Q3⟩) ?_
 rintro listed f' w' ⟨hsm,hj,hag,hR⟩ hs hD
 by_cases a2:∀ i,i<l.length->listed.getD i false=true
 ·exact .inl (any_done a2 (fin f' w' hsm hj hag (fun i o ho=>hR i o ho (a2 i (au.1 ho).1))))
 ·obtain⟨a,hb⟩:=aY.1 a2
  obtain⟨hb1,hb⟩:=aU.1 hb;refine .inr ⟨I6 hs (fun i o _ ho=>(a3 i o ho).1) (ah _) a hb1 (by simpa using hb),fun i o hil ho hn hd=>?_⟩;obtain⟨hdl,hau,hus,huo⟩:=a3 i o ho
  have nx:∀ v w'',Same X w' w''->J w''->R i (match o.dst with|some _=>v|none=>undef) w''->(∀ k v,k≠i->R k v w'->R k v w'')->JJ (listed.setIfInBounds i true) (ZY f' o.dst v) w'':=fun v w'' hs1 hj1 hr1 hk1=>⟨hsm.trans hs1,hj1,hau v f' hag,fun j o' a1 hl'=>by
   by_cases a4:i=j
   ·subst a4
    rw[ho]at a1;cases a1;rw[hus];exact hr1
   ·rw[gse a4]at hl'
    rw[huo _ _ j o' a1 a4]
    exact hk1 j _ (Ne.symm a4) (hR j o' a1 hl')⟩
  have h:=step i o oG ho f' w' hsm hj hag (fun j o' hjd a1=>hR j o' a1 (hd j hjd));refine⟨fun hw=>?_,fun hw=>nx undef w' ((Same.refl [] w').weak (by simp)) hj (by have:=h.2 hw;cases o.dst<;>exact this) (fun k v _ h=>h)⟩;have h1:=h.1 hw;unfold OS at h1 ⊢;refine fun K Q' hK=>h1 K Q' (fun v w'' ⟨h1,h2,h3,h4⟩=>hK v w'' (nx v w'' h1 h2 ?_ h4))
  unfold rO at h3;cases hdst:o.dst<;>simpa only[hdst]using h3
theorem M9{l:List Oper}(m:Nat)(S X:List Nat)(R:Nat->Value->World->Prop)(J:World->Prop)(hm:P.follows .mixedOrders=true)(hB:monoKG l m S=true)
  (hst:∀ i v w1 w2,R i v w1->Same [] w1 w2->R i v w2) (hJ:∀ w1 w2,J w1->Same [] w1 w2->J w2) (hJ0:J w)
  (step:∀ i o,i<m->l[i]? =some o->∀ g w',Same X w w'->J w'->(∀ j o',j∈vk o->l[j]? =some o'->R j (vO g o') w')->(Region.wanted o (yielded l.toArray (AF n (ovr S g f)).tmps)=true->match o.dst with
   | some _=>OS P n (ovr S g f) w' o (fun v w''=>Same [] w' w''/\R i v w''/\SK false w' w'' v)
   | none=>OS P n (ovr S g f) w' o (fun _ w''=>Same X w' w''/\J w''/\R i undef w''/\∀ k v,k≠i->R k v w'->R k v w''))/\(Region.wanted o (yielded l.toArray (AF n (ovr S g f)).tmps)=false->R i undef w'))
  (fin:∀ g w',Same X w w'->J w'->(∀ i o,l[i]? =some o->R i (vO g o) w')->WL P l.toArray Q [] n (ovr S g f) w'):WC P (.region id l.toArray true) Q n f w:=by
 refine c_monoKG m S X R J hm hB (fun w' hs=>hJ _ _ hJ0 hs) (fun i o hi ho f' w' hs hj a1 hd=>?_) (fun f' w' hs hj a1 hR=>?_)
 ·have h:=step i o hi ho f' w' hs hj hd
  rw[<- o7 a1]at h;refine⟨fun hw=>?_,h.2⟩;replace h:=h.1 hw;unfold rO;cases hdst:o.dst with
  | some d=>
   simp only[hdst]at h;unfold OS at h ⊢;exact fun K Q hK=>h K Q (fun v w'' ⟨h1,h2,_⟩=>hK v w'' ⟨h1.weak (fun x hx=>by cases hx),hJ _ _ hj h1,h2,fun k v _ hr=>hst k v _ _ hr h1⟩)
  | none=>
   simp only[hdst]at h;unfold OS at h ⊢;exact fun K Q hK=>h K Q (fun v w'' h1=>hK v w'' h1)
 ·have:=fin f' w' hs hj hR
  rwa[<- o7 a1]at this
end monokg
end
section
section monoi
variable {P:Program} {Q:Exit->Act->World->Prop} {n:Nw} {f:Fr} {w:World}
def ivB(l:List Oper)(m:Nat)(ow:Nat->Nat):Bool:=(List.range m).all (fun i=>decide (ow i<m)&&Nat.beq (ow (ow i)) (ow i)&&(Nat.beq (ow i) i||(match l[i]? with|some o=>(vk o).any (fun j=>Nat.beq (ow j) (ow i))|none=>false)))
def monoF(l:List Oper)(m:Nat)(S fl:List Nat):Bool:=
 (List.range m).all (fun i=>match l[i]? with
  | some o=>(match o.dst with|some d=>mem S d|none=>false)&&(match o.guard with|none=>true|some (j,_)=>(vk o).contains j)&&(vk o).all (fun j=>decide (j<i))&&(List.range m).all (fun j=>decide (i=j) || !(y5 l.toArray i==y5 l.toArray j))
  | none=>false)&&decide (m<=l.length) &&
 (List.range l.length).all (fun i=>decide (i<m)||(match l[i]? with
  | some o=>(List.range m).all (fun j=>fl.contains j||(vk o).contains j)
  | none=>false))
def subs:List Nat->List (List Nat)
 | []=>[[]]
 | a::r=>subs r++(subs r).map (a :: ·)
theorem Pv(p:Nat->Bool):∀ F:List Nat,F.filter p∈subs F
 | []=>by simp[subs]
 | a::r=>by
  have ih:=Pv p r
  cases h:p a with
  | true=>rw[List.filter_cons_of_pos h];exact List.mem_append_right _ (List.mem_map_of_mem ih)
  | false=>rw[List.filter_cons_of_neg (by simp[h])];exact List.mem_append_left _ ih
def FinAll(p:List Nat->Prop):List (List Nat)->Prop
 | []=>True
 | x::r=>p x/\FinAll p r
theorem FinAll.get{p:List Nat->Prop}:∀ {xs:List (List Nat)},FinAll p xs->∀ x∈xs,p x
 | _::_,h,x,hx=>by
  rcases ax.1 hx with rfl|hx
  ·exact h.1
  ·exact FinAll.get h.2 x hx
def lstP(k m:Nat)(U:List Nat):Array Bool:=Array.ofFn (n:=k) (fun i=>decide (i.val<m) && !U.contains i.val)
theorem Ij{l:List Oper}{k':Nat}(h:k=k')(K:WA P l Q (x+k') listed n f w):WA P l Q (x+k) listed n f w:=by rw[h];exact K
theorem yk{l:List Oper}(t:Nat)(v:Value)(h:ev n f (.tmp t)=v)(hv:v≠undef)(K:WA P l Q x listed n (upd f t v) w):WA P l Q x listed n f w:=by
 rw[uV (JX h hv)]at K;exact K
theorem Pw{l:List Oper}{listed':Array Bool}(h:listed=listed')(K:WA P l Q x listed' n f w):WA P l Q x listed n f w:=by rw[h];exact K
theorem c_monoF{l:List Oper}(m:Nat)(S fl:List Nat)(ow:Nat->Nat)(R:Nat->Value->Nat->Nat->World->Prop)(hm:P.follows .mixedOrders=true)(hB:monoF l m S fl=true)(hI:ivB l m ow=true)(hF:(List.range m).filter (fun i=>fl.contains i)=fl)
  (hst:∀ i v a b w w',R i v a b w->b<=w.heap.size->Same [] w w'->R i v a b w')
  (step:∀ i o,i<m->l[i]? =some o->∀ f' w' (lo hi:Nat->Nat),Same [] w w'->Ag S f' f->(∀ j∈vk o,R j (f' (y5 l.toArray j)) (lo (ow j)) (hi (ow j)) w'/\hi (ow j)<=w'.heap.size)->(∀ j k,j∈vk o->k∈vk o->ow j≠ow k->hi (ow j)<=lo (ow k)\/hi (ow k)<=lo (ow j))->(Region.wanted o (yielded l.toArray (AF n f').tmps)=true->OS P n f' w' o (fun v w''=>Same [] w' w''/\R i v (bif Nat.beq (ow i) i then w'.heap.size else lo (ow i)) (bif Nat.beq (ow i) i then w''.heap.size else hi (ow i)) w''))/\(Region.wanted o (yielded l.toArray (AF n f').tmps)=false->R i undef (bif Nat.beq (ow i) i then w'.heap.size else lo (ow i)) (bif Nat.beq (ow i) i then w'.heap.size else hi (ow i)) w'))
  (fin:FinAll (fun U=>∀ x f' w' (lo hi:Nat->Nat),Same [] w w'->Ag S f' f->(∀ i,i<m->U.contains i=false->R i (f' (y5 l.toArray i)) (lo (ow i)) (hi (ow i)) w'/\hi (ow i)<=w'.heap.size)->(∀ i j,i<m->j<m->U.contains i=false->U.contains j=false->ow i≠ow j->hi (ow i)<=lo (ow j)\/hi (ow j)<=lo (ow i))->WA P l Q (x+(U.length+(l.length-m))) (lstP l.length m U) n f' w') (subs fl)):WC P (.region id l.toArray true) Q n f w:=by
 simp only[monoF,Bool.and_eq_true,List.all_eq_true,List.mem_range,decide_eq_true_eq]at hB;obtain⟨⟨hh,ab⟩,hl⟩:=hB;have a4:∀ i,i<m->ow i<m/\ow (ow i)=ow i/\(ow i=i\/∀ o,l[i]? =some o->∃ j∈vk o,ow j=ow i):=by
  intro i hi;have h:=aC.1 hI i (aw.2 hi);simp only[Bool.and_eq_true,Bool.or_eq_true,decide_eq_true_eq]at h;obtain⟨⟨h1,h2⟩,h3⟩:=h;refine⟨h1,aR h2,?_⟩;rcases h3 with h3|h3
  ·exact .inl (aR h3)
  ·refine .inr (fun o ho=>?_)
   rw[ho]at h3;obtain⟨j,hj,hb⟩:=List.any_eq_true.1 h3;exact⟨j,hj,aR hb⟩
 let J:Array Bool->Fr->World->Prop:=fun listed f' w'=>Same [] w w'/\Ag S f' f/\(∀ t,m<=t->listed.getD t false=false)/\∃ lo hi:Nat->Nat,(∀ i,i<m->listed.getD i false=true->listed.getD (ow i) false=true/\R i (f' (y5 l.toArray i)) (lo (ow i)) (hi (ow i)) w'/\hi (ow i)<=w'.heap.size)/\∀ i j,i<m->j<m->ow i=i->ow j=j->i≠j->listed.getD i false=true->listed.getD j false=true->hi i<=lo j\/hi j<=lo i
 refine EV J hm (fun w' hs=>⟨hs,Xk,fun t _=>by simpa using Q3 (i:=t),fun _=>0,fun _=>0,fun i _ h=>absurd h Q3,fun i j _ _ _ _ _ h=>absurd h Q3⟩) ?_
 rintro listed f' w' ⟨hsm,hag,ht,lo,hi,hR,hdis⟩ hs hD
 by_cases hbd:∀ i,i<m->fl.contains i=false->listed.getD i false=true
 ·refine .inl (fun ac hc=>?_)
  unfold unl at hc;rw[cnt_tail ab (fun t h=>by rw[ht t h];rfl)]at hc;have hU:=fin.get _ (Pv (fun i=>!listed.getD i false) fl)
  generalize hUe:fl.filter (fun i=>!listed.getD i false)=U at hU
  have a3:∀ i,i<m->(U.contains i=false↔listed.getD i false=true):=fun i hi=>by
   cases a2:listed.getD i false with
   | true=>
    simp only[iff_true];cases hq:U.contains i with
    | false=>rfl
    | true=>
     have h1:i∈U:=by simpa using hq
     rw[<- hUe,List.mem_filter,a2]at h1;exact absurd h1.2 (by simp)
   | false=>
    simp only[Bool.false_eq_true,iff_false,Bool.not_eq_false];have h1:fl.contains i=true:=by
     cases hq:fl.contains i with
     | true=>rfl
     | false=>rw[hbd i hi hq]at a2;cases a2
    have h2:i∈U:=by
     rw[<- hUe,List.mem_filter,a2];exact⟨by simpa using h1,rfl⟩
    simpa using h2
  have b4:listed=lstP l.length m U:=by
   apply Array.ext
   ·simp[lstP,hs]
   ·intro i h1 h2
    have h3:listed[i]=listed.getD i false:=by simp[h1]
    simp only[lstP,Array.getElem_ofFn];rw[h3];by_cases a1:i<m
    ·have h4:=a3 i a1
     cases a2:listed.getD i false with
     | true=>rw[h4.2 a2];simp[a1]
     | false=>
      have h5:U.contains i=true:=by
       cases hq:U.contains i with
       | true=>rfl
       | false=>rw[h4.1 hq]at a2;cases a2
      rw[h5];simp
    ·rw[ht i oG];simp[a1]
  have ab:U.length<=(List.range m).countP (fun i=>!listed.getD i false):=by
   rw[<- hUe,<- hF,List.filter_filter,<- List.countP_eq_length_filter]
   exact List.countP_mono_left (fun x _ hx=>by
    simp only[Bool.and_eq_true]at hx
    exact hx.1)
  have hW:=hU (ac-(U.length+(l.length-m))) f' w' lo hi hsm hag (fun i hi h=>(hR i hi ((a3 i hi).1 h)).2) (fun i j hi hj h1 h2 b3=>hdis (ow i) (ow j) (a4 i hi).1 (a4 j hj).1 (a4 i hi).2.1 (a4 j hj).2.1 b3 (hR i hi ((a3 i hi).1 h1)).1 (hR j hj ((a3 j hj).1 h2)).1);rw[show ac-(U.length+(l.length-m))+(U.length+(l.length-m))=ac by omega,<- b4]at hW;unfold WA at hW;exact hW
 ·obtain⟨a,ha⟩:=aY.1 hbd
  obtain⟨ha,hb⟩:=aU.1 ha;obtain⟨hb,hb2⟩:=aU.1 hb;refine .inr ⟨I6 hs (fun i o hi ho=>(VY hh hi ho).2.1) ab a ha (by simpa using hb2),fun i o hil ho hn hd=>?_⟩
  have a1:i<m:=Nat.lt_of_not_le (fun h=>hb2 (by
   have h1:=hl i hil;simp only[decide_eq_false (Nat.not_lt.2 h),Bool.false_or,ho]at h1;have h2:=aC.1 h1 a (aw.2 ha);rw[hb,Bool.false_or]at h2
   exact hd a (by simpa using h2)))
  obtain⟨_,a9,hau,hus,huo⟩:=VY hh a1 ho
  have nx:∀ v w'',Same [] w' w''->R i v (bif Nat.beq (ow i) i then w'.heap.size else lo (ow i)) (bif Nat.beq (ow i) i then w''.heap.size else hi (ow i)) w''->J (listed.setIfInBounds i true) (ZY f' o.dst v) w'':=fun v w'' b1 an=>⟨hsm.trans b1,hau f f' v hag,fun t h=>by rw[gse oG];exact ht t h,fun k=>if k=i then w'.heap.size else lo k,fun k=>if k=i then w''.heap.size else hi k,fun j hj a2=>by
   by_cases a5:i=j
   ·subst a5
    rw[hus];by_cases ao:ow i=i
    ·rw[ao]at an ⊢
     simp only[show Nat.beq i i=true from Nat.beq_refl i,cond_true]at an;simp only[if_true];exact⟨a2,an,ah _⟩
    ·have hb:Nat.beq (ow i) i=false:=by
      cases hb:Nat.beq (ow i) i
      ·rfl
      ·exact absurd (aR hb) ao
     simp only[hb,cond_false]at an;simp only[if_neg ao];obtain⟨k,hk,hke⟩:=(a4 i hj).2.2.resolve_left ao o ho;obtain⟨h1,_,h3⟩:=hR k (aF (a9 k hk) a1) (hd k hk);rw[hke]at h1 h3;exact⟨by rw[gse (Ne.symm ao)];exact h1,an,nLT h3 b1.size⟩
   ·rw[huo _ _ j hj a5]
    rw[gse a5]at a2;obtain⟨h1,h2,h3⟩:=hR j hj a2;have hoi:¬ow j=i:=fun h=>by rw[h,hn]at h1;cases h1
    simp only[if_neg hoi];exact⟨by rw[gse (Ne.symm hoi)];exact h1,hst j _ _ _ _ _ h2 h3 b1,nLT h3 b1.size⟩,fun j k hj hk hoj hok b6 b5 b2=>by
   by_cases a5:i=j
   ·subst a5
    rw[gse b6]at b2;have h4:=(hR k hk b2).2.2;rw[hok]at h4;simp only[if_true,if_neg (Ne.symm b6)];exact .inr h4
   ·rw[gse a5]at b5
    by_cases b7:i=k
    ·subst b7
     have h4:=(hR j hj b5).2.2;rw[hoj]at h4;simp only[if_true,if_neg (Ne.symm a5)];exact .inl h4
    ·rw[gse b7]at b2
     simp only[if_neg (Ne.symm a5),if_neg (Ne.symm b7)]
     exact hdis j k hj hk hoj hok b6 b5 b2⟩
  have h:=step i o a1 ho f' w' lo hi hsm hag (fun j hj=>(hR j (aF (a9 j hj) a1) (hd j hj)).2) (fun j k hj hk b3=>hdis (ow j) (ow k) (a4 j (aF (a9 j hj) a1)).1 (a4 k (aF (a9 k hk) a1)).1 (a4 j (aF (a9 j hj) a1)).2.1 (a4 k (aF (a9 k hk) a1)).2.1 b3 (hR j (aF (a9 j hj) a1) (hd j hj)).1 (hR k (aF (a9 k hk) a1) (hd k hk)).1);refine⟨fun hw=>?_,fun hw=>nx undef w' (Same.refl _ _) (h.2 hw)⟩;have h1:=h.1 hw;unfold OS at h1 ⊢;exact fun K Q' hK=>h1 K Q' (fun v w'' ⟨h1,h2⟩=>hK v w'' (nx v w'' h1 h2))
theorem BZ{l:List Oper}(m:Nat)(S fl:List Nat)(ow:Nat->Nat)(R:Nat->Value->Nat->Nat->World->Prop)(hm:P.follows .mixedOrders=true)(hB:monoF l m S fl=true)(hI:ivB l m ow=true)(hF:(List.range m).filter (fun i=>fl.contains i)=fl)
  (hst:∀ i v a b w1 w2,R i v a b w1->b<=w1.heap.size->Same [] w1 w2->R i v a b w2)
  (step:∀ i o,i<m->l[i]? =some o->∀ g w' (lo hi:Nat->Nat),Same [] w w'->(∀ j∈vk o,R j (g (y5 l.toArray j)) (lo (ow j)) (hi (ow j)) w'/\hi (ow j)<=w'.heap.size)->(∀ j k,j∈vk o->k∈vk o->ow j≠ow k->hi (ow j)<=lo (ow k)\/hi (ow k)<=lo (ow j))->(Region.wanted o (yielded l.toArray (AF n (ovr S g f)).tmps)=true->OS P n (ovr S g f) w' o (fun v w''=>Same [] w' w''/\R i v (bif Nat.beq (ow i) i then w'.heap.size else lo (ow i)) (bif Nat.beq (ow i) i then w''.heap.size else hi (ow i)) w''))/\(Region.wanted o (yielded l.toArray (AF n (ovr S g f)).tmps)=false->R i undef (bif Nat.beq (ow i) i then w'.heap.size else lo (ow i)) (bif Nat.beq (ow i) i then w'.heap.size else hi (ow i)) w'))
  (fin:FinAll (fun U=>∀ x g w' (lo hi:Nat->Nat),Same [] w w'->(∀ i,i<m->U.contains i=false->R i (g (y5 l.toArray i)) (lo (ow i)) (hi (ow i)) w'/\hi (ow i)<=w'.heap.size)->(∀ i j,i<m->j<m->U.contains i=false->U.contains j=false->ow i≠ow j->hi (ow i)<=lo (ow j)\/hi (ow j)<=lo (ow i))->WA P l Q (x+(U.length+(l.length-m))) (lstP l.length m U) n (ovr S g f) w') (subs fl)):WC P (.region id l.toArray true) Q n f w:=by
 have a2:∀ xs:List (List Nat),FinAll (fun U=>∀ x g w' (lo hi:Nat->Nat),Same [] w w'->(∀ i,i<m->U.contains i=false->R i (g (y5 l.toArray i)) (lo (ow i)) (hi (ow i)) w'/\hi (ow i)<=w'.heap.size)->(∀ i j,i<m->j<m->U.contains i=false->U.contains j=false->ow i≠ow j->hi (ow i)<=lo (ow j)\/hi (ow j)<=lo (ow i))->WA P l Q (x+(U.length+(l.length-m))) (lstP l.length m U) n (ovr S g f) w') xs->
   FinAll (fun U=>∀ x f' w' (lo hi:Nat->Nat),Same [] w w'->Ag S f' f->(∀ i,i<m->U.contains i=false->R i (f' (y5 l.toArray i)) (lo (ow i)) (hi (ow i)) w'/\hi (ow i)<=w'.heap.size)->(∀ i j,i<m->j<m->U.contains i=false->U.contains j=false->ow i≠ow j->hi (ow i)<=lo (ow j)\/hi (ow j)<=lo (ow i))->WA P l Q (x+(U.length+(l.length-m))) (lstP l.length m U) n f' w') xs:=by
  intro xs
  induction xs with
  | nil=>exact fun _=>trivial
  | cons U r ih=>
   exact fun h=>⟨fun x f' w' lo hi hs a3 hR a1=>by
    have:=h.1 x f' w' lo hi hs hR a1
    rwa[<- o7 a3]at this,ih h.2⟩
 refine c_monoF m S fl ow R hm hB hI hF hst (fun i o hi ho f' w' lo hi' hs a3 hd a1=>?_) (a2 _ fin);have:=step i o hi ho f' w' lo hi' hs hd a1
 rwa[<- o7 a3]at this
end monoi
def Kept(lo hi:Nat)(w:World)(p:World->Prop):Prop:=hi<=w.heap.size/\∀ w2:World,hi<=w2.heap.size->(∀ b,lo<=b->b<hi->w2.heap[b]? =w.heap[b]?)->p w2
theorem Kept.now{p:World->Prop}(h:Kept lo hi w p):p w:=h.2 w h.1 (fun _ _ _=>rfl)
theorem Kept.tr{p:World->Prop}{X:List Nat}(h:Kept lo hi w p)(hs:Same X w w')(hx:∀ g∈X,g<lo\/hi<=g):Kept lo hi w' p:=
 ⟨nLT h.1 hs.size,fun w2 h2 hb=>h.2 w2 h2 (fun b h3 h4=>(hb b h3 h4).trans (hs.blk b (nLL h4 h.1) (fun hX=>by rcases hx b hX with h5|h5<;>omega)))⟩
theorem Kept.tr0{p:World->Prop}(h:Kept lo hi w p)(hs:Same [] w w'):Kept lo hi w' p:=h.tr hs (by simp)
theorem Kept.tr1{b:Nat}{p:World->Prop}(h:Kept lo hi w p)(hs:Same [b] w w')(hx:b<lo\/hi<=b):Kept lo hi w' p:=h.tr hs (fun g hg=>by rw[List.mem_singleton.1 hg];exact hx)
theorem Kept.imp{p q:World->Prop}(h:Kept lo hi w p)(k:∀ w2,p w2->q w2):Kept lo hi w q:=⟨h.1,fun w2 h2 hb=>k w2 (h.2 w2 h2 hb)⟩
end
end Go.Proofs.YtgcgnkmmbecfmaaGreatDoor
