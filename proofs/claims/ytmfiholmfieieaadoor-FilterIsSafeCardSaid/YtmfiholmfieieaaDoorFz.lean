/- What these functions compute, at every world: (filter.Filter).place, (filter.Filter).Admits, (filter.Filter).Starts, (filter.Filter).First, filter.Of$1; and plain laws. -/
import Derived.Test.YtmfiholmfieieaaDoorCmt
import Derived.Test.YtmfiholmfieieaaDoorU
import Derived.Test.YtmfiholmfieieaaDoorZst
import Derived.Test.YtmfiholmfieieaaDoorComp
import Derived.Test.YtmfiholmfieieaaDoorTxt
import Derived.Test.YtmfiholmfieieaaDoorTables
namespace Go.Proofs.YtmfiholmfieieaaDoor
open Go.RowKit
variable {A1 A2 AA B FA KA S SA:Option Addr}{X st x y:List Nd}{a b c1 c2 cb i j k nr nx o r:Nat}{cs:Array Value}{ks:List Dt}{l:List Ty}{ok:Bool}{rs:List Rl}{sn:Nat->Bool}{t:Dt}{w:World}{xs:List Lx}
section
section
variable {rs:List Rl} {nx:Nat}
end
def GZ(xs:List Lx)(x:Int):List Nd:=((xs[x.toNat]?).map (·.gr)).getD []
def rlGr(rs:List Rl)(r:Int):List Nd:=((rs[r.toNat]?).map (·.gr)).getD []
theorem MV(hi:i<xs.length){x:Int}(h:x=(i:Int)):GZ xs x=(xs[i]).gr:=by simp[GZ,h,hi]
theorem KZ(hi:i<rs.length){x:Int}(h:x=(i:Int)):rlGr rs x=(rs[i]).gr:=by simp[rlGr,h,hi]
mutual
def TgR(l:List Ty)(rs:List Rl)(xs:List Lx):Dt->Bool->List Nd->Prop
 | .mk r x ks,ok,X=>if r<0 then (ok=true/\∃ o,DL (GZ xs x) [0] [] o/\X=xJ (GZ xs x) o)else ((∃ Ys,Zw l rs xs ks Ys/\Yv l (rlGr rs r) 0 Ys ok X)\/(TgB l rs xs ks/\ok=false/\X= []))
def Zw(l:List Ty)(rs:List Rl)(xs:List Lx):List Dt->List (List Nd)->Prop
 | [],Ys=>Ys= []
 | t::r,Ys=>∃ Y Zs,TgR l rs xs t true Y/\Zw l rs xs r Zs/\Ys=Y::Zs
def TgB(l:List Ty)(rs:List Rl)(xs:List Lx):List Dt->Prop
 | []=>False
 | t::r=>TgR l rs xs t false []\/TgB l rs xs r
end
section
variable {l:List Ty} {fs:List Ft} {rs:List Rl} {xs:List Lx}
theorem NZ(h:t.rule<0):TgR l rs xs t ok X↔(ok=true/\∃ o,DL (GZ xs t.lex) [0] [] o/\X=xJ (GZ xs t.lex) o):=by
 cases t;rw[TgR];exact iff_of_eq (if_pos h)
theorem J2(h:¬t.rule<0):TgR l rs xs t ok X↔((∃ Ys,Zw l rs xs t.kids Ys/\Yv l (rlGr rs t.rule) 0 Ys ok X)\/(TgB l rs xs t.kids/\ok=false/\X= [])):=by
 cases t;rw[TgR];exact iff_of_eq (if_neg h)
theorem RK:∀ {ks:List Dt} {Ys:List (List Nd)} {t:Dt} {Y:List Nd},Zw l rs xs ks Ys->TgR l rs xs t true Y->Zw l rs xs (ks++[t]) (Ys++[Y])
 | [],Ys,t,Y,h,k=>by
  rw[Zw]at h;subst h
  show Zw l rs xs (t::[]) [Y]
  rw[Zw];exact⟨Y,[],k,by rw[Zw],rfl⟩
 | a::ks,Ys,t,Y,h,k=>by
  rw[Zw]at h
  obtain⟨Z,Zs,h1,h2,rfl⟩:=h
  show Zw l rs xs (a::(ks++[t])) _
  rw[Zw];exact⟨Z,Zs++[Y],h1,RK h2 k,rfl⟩
theorem tgB_iff:∀ {ks:List Dt},TgB l rs xs ks↔∃ t∈ks,TgR l rs xs t false []
 | []=>by rw[TgB];simp
 | a::ks=>by rw[TgB,tgB_iff (ks:=ks)];simp
theorem Kx:∀ {ks:List Dt} {Ys:List (List Nd)},Zw l rs xs ks Ys->Ys.length=ks.length
 | [],Ys,h=>by rw[Zw]at h;rw[h];rfl
 | a::ks,Ys,h=>by
  rw[Zw]at h
  obtain⟨Z,Zs,_,h2,rfl⟩:=h
  rw[List.length_cons,List.length_cons,Kx h2]
theorem Dj:∀(ks:List (List Nd)) (x:List Nd) (i:Nat) (Y:List Nd),Yv l x i ks false Y->Y= []
 | [],x,i,Y,h=>by obtain⟨h,_⟩:=h;cases h
 | k::ks,x,i,Y,h=>by
  rcases h with ⟨X,_,_,h⟩|⟨_,_,h⟩
  ·exact Dj ks X (i+1) Y h
  ·exact h
theorem tg_no(h:TgR l rs xs t false X):X= []:=by
 by_cases hr:t.rule<0
 ·have:=((NZ hr).1 h).1;cases this
 ·rcases(J2 hr).1 h with ⟨Ys,_,h⟩|⟨_,_,h⟩
  ·exact Dj _ _ _ _ h
  ·exact h
structure Y3(l:List Ty)(fs:List Ft)(rs:List Rl)(xs:List Lx):Prop where
 h0:(qz l fs).1=0
 rl:∀ i (hi:i<rs.length),Jok l fs (rs[i]).kids (rs[i]).gr/\0<=(rs[i]).kids/\(rs[i]).kids<=3
 lx:∀ i (hi:i<xs.length),GV l fs (xs[i]).gr
def AllG(l:List Ty)(fs:List Ft)(rs:List Rl)(xs:List Lx)(t:Dt):Prop:=(∀ X,TgR l rs xs t true X->(kY l fs X).1=0)/\∀ ok X ok' X',TgR l rs xs t ok X->TgR l rs xs t ok' X'->ok=ok'/\X=X'
theorem Kj:∀(ks:List Dt),(∀ t∈ks,AllG l fs rs xs t)->∀ Ys Zs,Zw l rs xs ks Ys->(∀ Y∈Ys,(kY l fs Y).1=0)/\(Zw l rs xs ks Zs->Ys=Zs)/\¬TgB l rs xs ks
 | [],_,Ys,Zs,h=>by
  rw[Zw]at h;subst h
  refine⟨(fun Y hY=>by cases hY),fun h=>?_,fun h=>?_⟩
  ·rw[Zw]at h;exact h.symm
  ·rw[TgB]at h;exact h
 | a::ks,H,Ys,Zs,h=>by
  rw[Zw]at h
  obtain⟨Y,Us,h1,h2,rfl⟩:=h
  obtain⟨a1,a2⟩:=H a (au ..)
  have ih:=fun Vs=>Kj ks (fun t ht=>H t (am _ ht)) Us Vs h2
  refine⟨fun Z hZ=>?_,fun h=>?_,fun h=>?_⟩
  ·rcases aq.1 hZ with rfl|hZ
   ·exact a1 _ h1
   ·exact(ih []).1 _ hZ
  ·rw[Zw]at h
   obtain⟨Y',Vs,k1,k2,rfl⟩:=h
   rw[(a2 _ _ _ _ h1 k1).2,(ih Vs).2.1 k2]
  ·rw[TgB]at h
   rcases h with h|h
   ·have:=(a2 _ _ _ _ h1 h).1;cases this
   ·exact(ih []).2.2 h
theorem L6(G:Y3 l fs rs xs):∀(k:Nat) (t:Dt),SizeOf.sizeOf t<k->OkT rs xs.length t->AllG l fs rs xs t:=by
 intro k
 induction k with
 | zero=>intro t h;omega
 | succ k ih=>
  intro t ht hok;obtain⟨hk1,hk2⟩:=hok.at_
  have a3:∀ x∈t.kids,AllG l fs rs xs x:=fun x hx=>ih x (by
   have:=aN hx;cases t with
   | mk r x ks=>simp only[Dt.mk.sizeOf_spec,Dt.kids]at ht this;omega) (hk2 x hx)
  by_cases hr:t.rule<0
  ·obtain⟨_,q1,q2,_⟩:=Xv hk1 hr
   obtain⟨xi,hxi⟩:=aO q1;have a2:xi<xs.length:=by omega
   have hv:=G.lx xi a2;have e:=MV a2 hxi;refine⟨fun X h=>?_,fun ok X ok' X' h h'=>?_⟩
   ·obtain⟨_,o,hd,rfl⟩:=(NZ hr).1 h
    rw[e]at hd ⊢;exact(hv.gx.toGY.trr hv.gx.pos hd).valid hv
   ·obtain⟨rfl,o,hd,rfl⟩:=(NZ hr).1 h
    obtain⟨rfl,o',hd',rfl⟩:=(NZ hr).1 h';rw[DL.det hd hd'];exact⟨rfl,rfl⟩
  ·obtain⟨q1,_,q2⟩:=KX hk1 hr
   obtain⟨ri,hri⟩:=aO (Int.not_lt.1 hr);have a1:ri<rs.length:=by omega
   obtain⟨hj,hk0,_⟩:=G.rl ri a1;have e:=KZ a1 hri;rw[Dq a1 hri]at q2;refine⟨fun X h=>?_,fun ok X ok' X' h h'=>?_⟩
   ·rcases(J2 hr).1 h with ⟨Ys,h1,h2⟩|⟨_,h,_⟩
    ·rw[e]at h2
     exact Dx Ys _ 0 X hj (fun Y hY=>O5 ((Kj _ a3 Ys [] h1).1 Y hY)) (by rw[Kx h1];omega) hk0 h2
    ·cases h
   ·rcases(J2 hr).1 h with ⟨Ys,h1,h2⟩|⟨h1,rfl,rfl⟩
    ·obtain⟨d1,d2,d3⟩:=Kj _ a3 Ys Ys h1
     rcases(J2 hr).1 h' with ⟨Zs,k1,k2⟩|⟨k1,rfl,rfl⟩
     ·have:=(Kj _ a3 Ys Zs h1).2.1 k1
      subst this;rw[e]at h2 k2;exact Wv Ys _ 0 ok ok' X X' hj (fun Y hY=>O5 (d1 Y hY)) (by rw[Kx h1];omega) h2 k2
     ·exact absurd k1 d3
    ·rcases(J2 hr).1 h' with ⟨Zs,k1,k2⟩|⟨k1,rfl,rfl⟩
     ·exact absurd h1 (Kj _ a3 Zs Zs k1).2.2
     ·exact⟨rfl,rfl⟩
theorem tg_gf(G:Y3 l fs rs xs)(hok:OkT rs xs.length t)(h:TgR l rs xs t true X):(kY l fs X).1=0:=(L6 G (SizeOf.sizeOf t+1) t (ax _) hok).1 X h
theorem tg_det(G:Y3 l fs rs xs)(hok:OkT rs xs.length t){ok':Bool}{X':List Nd}(h:TgR l rs xs t ok X)(h':TgR l rs xs t ok' X'):ok=ok'/\X=X':=(L6 G (SizeOf.sizeOf t+1) t (ax _) hok).2 _ _ _ _ h h'
theorem tgs_all(G:Y3 l fs rs xs)(hk:∀ x∈ks,OkT rs xs.length x):∀ x∈ks,AllG l fs rs xs x:=fun x hx=>L6 G (SizeOf.sizeOf x+1) x (ax _) (hk x hx)
theorem tgs_gf(G:Y3 l fs rs xs)(hk:∀ x∈ks,OkT rs xs.length x){Ys:List (List Nd)}(h:Zw l rs xs ks Ys):∀ Y∈Ys,(kY l fs Y).1=0:=(Kj ks (tgs_all G hk) Ys [] h).1
theorem tgs_gv(G:Y3 l fs rs xs)(hk:∀ x∈ks,OkT rs xs.length x){Ys:List (List Nd)}(h:Zw l rs xs ks Ys):∀ Y∈Ys,GV l fs Y:=fun Y hY=>O5 (tgs_gf G hk h Y hY)
end
end
section
open Classical in
noncomputable def Iv(l:List Ty)(x:List Nd)(j:Nat)(y:List Nd):Bool:=decide (K9 l (yZ x y) [(j,x.length)])
theorem fitB_yes:Iv l x j y=true↔K9 l (yZ x y) [(j,x.length)]:=by simp[Iv]
theorem fitB_no:Iv l x j y=false↔¬K9 l (yZ x y) [(j,x.length)]:=by simp[Iv]
theorem fit_ty(hs:I6 l)(hx:GX l x)(hy:GX l y)(hj:j<x.length)(hm:(jv l (nd x j).ty.toNat (nd y 0).ty.toNat).2.1=false):Iv l x j y=false:=by
 refine fitB_no.2 (fun⟨c,θ,hc,hθ,hJ⟩=>?_);have hyp:=hy.pos;have e:=hJ _ (aj.2 rfl);have h1:=hθ.ty j (by rw[gK];omega);have h2:=hθ.ty x.length (by rw[gK];omega);have hl:=hθ.lt j (by rw[gK];omega);rw[Yy hj]at h1;obtain⟨r1,_⟩:=J1 (ga:=x) (gb:=y) (i:=x.length) oG (aA _);rw[r1,Nat.sub_self]at h2;simp only at e;rw[<- e]at h2;have t0:=hc _ hl;have t1:=hx.tr j hj;have t2:=hy.tr 0 hyp;have h2':sub l (nd c (θ j)).ty.toNat (nd y 0).ty.toNat=true:=h2;have:=hs.all (nd x j).ty.toNat (nd y 0).ty.toNat (nd c (θ j)).ty.toNat oG oG oG (by simp[gk,h1,h2']);rw[hm]at this;cases this
open Classical in
noncomputable def moF(g:List Nd):List Nd:=if h:∃ o,DL g [(plc g 0).toNat] [] o then xJ g (Classical.choose h)else []
theorem Tq{g:List Nd}{o:List Nat}(h:DL g [(plc g 0).toNat] [] o):moF g=xJ g o:=by
 have h':∃ o,DL g [(plc g 0).toNat] [] o:=⟨o,h⟩
 unfold moF;rw[dif_pos h'];exact congrArg (xJ g) ((Classical.choose_spec h').det h)
noncomputable def X1(rs:List Rl)(xs:List Lx):List (List Nd):=rs.map (fun r=>moF r.gr)++xs.map (·.gr)
theorem KK(rs:List Rl)(xs:List Lx):(X1 rs xs).length=rs.length+xs.length:=by simp[X1]
theorem Gw(hi:i<rs.length):(X1 rs xs)[i]? =some (moF (rs[i]).gr):=by
 unfold X1;rw[List.getElem?_append_left (by simpa using hi)];simp[hi]
theorem Tz(hi:i<xs.length):(X1 rs xs)[rs.length+i]? =some (xs[i]).gr:=by
 unfold X1;rw[List.getElem?_append_right (by simp)];simp[hi]
noncomputable def jY(l:List Ty)(rs:List Rl)(xs:List Lx)(r k:Nat):List Bool:=
 match rs[r]? with
 | some q=>if (k:Int)<q.kids then (X1 rs xs).map (Iv l q.gr (plc q.gr ((k:Int)+1)).toNat)else []
 | none=>[]
theorem R2(hr:r<rs.length)(hk:(k:Int)<(rs[r]).kids):jY l rs xs r k=(X1 rs xs).map (Iv l (rs[r]).gr (plc (rs[r]).gr ((k:Int)+1)).toNat):=by
 unfold jY;rw[List.getElem?_eq_getElem hr];simp only;rw[if_pos hk]
theorem adm_no(hr:r<rs.length)(hk:¬(k:Int)<(rs[r]).kids):jY l rs xs r k= []:=by
 unfold jY;rw[List.getElem?_eq_getElem hr];simp only;rw[if_neg hk]
noncomputable def Q7(l:List Ty)(rs:List Rl)(xs:List Lx)(r k o:Nat):Bool:=(jY l rs xs r k).getD o false
noncomputable def NK(l:List Ty)(rs:List Rl)(xs:List Lx)(st:List Nd):List Bool:=(X1 rs xs).map (Iv l st 0)
inductive Fst(l:List Ty)(rs:List Rl)(xs:List Lx)(i:Nat):Nat->Prop
 | one {o:Nat} (h:Q7 l rs xs i 0 o=true):Fst l rs xs i o
 | more {q o:Nat} (hq:Fst l rs xs i q) (hr:q<rs.length) (h:Q7 l rs xs q 0 o=true):Fst l rs xs i o
open Classical in
noncomputable def KY(l:List Ty)(rs:List Rl)(xs:List Lx)(i:Nat):List Bool:=(List.range (rs.length+xs.length)).map (fun o=>decide (Fst l rs xs i o))
section
variable {l:List Ty} {fs:List Ft} {rs:List Rl} {xs:List Lx} {st:List Nd}
theorem adm_lt(h:Q7 l rs xs r k o=true):o<rs.length+xs.length:=by
 refine az (fun e=>?_);unfold Q7 at h;have hl:(jY l rs xs r k).length<=rs.length+xs.length:=by
  unfold jY
  split
  ·split
   ·rw[List.length_map,KK];exact ae _
   ·exact ad _
  ·exact ad _
 rw[List.getD,List.getElem?_eq_none oG]at h;cases h
theorem admB_at{M:List Nd}(hr:r<rs.length)(hk:(k:Int)<(rs[r]).kids)(hM:(X1 rs xs)[o]? =some M):Q7 l rs xs r k o=Iv l (rs[r]).gr (plc (rs[r]).gr ((k:Int)+1)).toNat M:=by
 unfold Q7;rw[R2 hr hk,List.getD,List.getElem?_map,hM];rfl
theorem Fst.lt(h:Fst l rs xs i o):o<rs.length+xs.length:=by
 cases h with
 | one h=>exact adm_lt h
 | more _ _ h=>exact adm_lt h
theorem fir_at(h:Fst l rs xs i o):(KY l rs xs i)[o]? =some true:=by
 unfold KY;rw[List.getElem?_map,List.getElem?_range h.lt];simp[h]
structure FsS(l:List Ty)(rs:List Rl)(xs:List Lx)(i:Nat)(sn:Nat->Bool)(st:List Int)(a:Nat)(k:Nat):Prop where
 only:∀ o,sn o=true->Fst l rs xs i o
 stk:∀ s∈st,∃ n:Nat,s=(n:Int)/\n<rs.length/\(n=i\/sn n=true)
 cl:∀ q,q<rs.length->(q=i\/sn q=true)->q≠a->(q:Int)∈st\/∀ o,Q7 l rs xs q 0 o=true->sn o=true
 me:a<rs.length->(a=i\/sn a=true)/\∀ o,o<k->Q7 l rs xs a 0 o=true->sn o=true
theorem FsS.start(hi:i<rs.length):FsS l rs xs i (fun _=>false) [(i:Int)] rs.length 0:=
 ⟨fun o h=>(by cases h),fun s hs=>⟨i,aj.1 hs,hi,.inl rfl⟩,fun q _ h _=> .inl (by
  rcases h with rfl|h
  ·exact aj.2 rfl
  ·cases h),fun h=>absurd h (aA _)⟩
theorem FsS.pop{st:List Int}{z:Int}(h:FsS l rs xs i sn (st++[z]) rs.length 0):∃ n:Nat,z=(n:Int)/\n<rs.length/\FsS l rs xs i sn st n 0:=by
 obtain⟨n,e,hn,hs⟩:=h.stk z (by simp);refine⟨n,e,hn,h.only,fun s hs=>h.stk s (by simp[hs]),fun q hq h1 h2=>?_,fun _=>⟨hs,fun o ho=>absurd ho (aw _)⟩⟩;rcases h.cl q hq h1 oG with h3|h3
 ·rcases ay.1 h3 with h3|h3
  ·exact .inl h3
  ·exact absurd (by have:=aj.1 h3;omega) h2
 ·exact .inr h3
theorem FsS.skip{st:List Int}(h:FsS l rs xs i sn st a k)(hk:Q7 l rs xs a 0 k=true->sn k=true):FsS l rs xs i sn st a (k+1):=
 ⟨h.only,h.stk,h.cl,fun ha=>⟨(h.me ha).1,fun o ho hd=>by
  by_cases e:o=k
  ·subst e;exact hk hd
  ·exact(h.me ha).2 o oG hd⟩⟩
theorem FsS.see{st:List Int}(h:FsS l rs xs i sn st a k)(ha:a<rs.length)(hd:Q7 l rs xs a 0 k=true)(hn:¬k<rs.length):FsS l rs xs i (o5 sn k) st a (k+1):=by
 refine FsS.skip ⟨fun o ho=>?_,fun s hs=>?_,fun q hq h1 h2=>?_,fun ha=>⟨(h.me ha).1.imp id vW,fun o ho hd=>vW ((h.me ha).2 o ho hd)⟩⟩ (fun _=>QX _ _)
 ·rcases kV ho with rfl|ho
  ·rcases(h.me ha).1 with rfl|h3
   ·exact .one hd
   ·exact .more (h.only _ h3) ha hd
  ·exact h.only o ho
 ·obtain⟨n,e,hn,h3⟩:=h.stk s hs
  exact⟨n,e,hn,h3.imp id vW⟩
 ·have h3:q=i\/sn q=true:=h1.imp id (fun h3=>by
   rcases kV h3 with e|h3
   ·omega
   ·exact h3)
  exact(h.cl q hq h3 h2).imp id (fun h4 o ho=>vW (h4 o ho))
theorem FsS.push{st:List Int}(h:FsS l rs xs i sn st a k)(ha:a<rs.length)(hd:Q7 l rs xs a 0 k=true)(hn:k<rs.length):FsS l rs xs i (o5 sn k) (st++[(k:Int)]) a (k+1):=by
 refine FsS.skip ⟨fun o ho=>?_,fun s hs=>?_,fun q hq h1 h2=>?_,fun ha=>⟨(h.me ha).1.imp id vW,fun o ho hd=>vW ((h.me ha).2 o ho hd)⟩⟩ (fun _=>QX _ _)
 ·rcases kV ho with rfl|ho
  ·rcases(h.me ha).1 with rfl|h3
   ·exact .one hd
   ·exact .more (h.only _ h3) ha hd
  ·exact h.only o ho
 ·rcases ay.1 hs with hs|hs
  ·obtain⟨n,e,hn,h3⟩:=h.stk s hs
   exact⟨n,e,hn,h3.imp id vW⟩
  ·exact⟨k,aj.1 hs,hn,.inr (QX _ _)⟩
 ·by_cases e:q=k
  ·exact .inl (by simp[e])
  ·have h3:q=i\/sn q=true:=h1.imp id (fun h3=>(kV h3).resolve_left e)
   exact(h.cl q hq h3 h2).imp (fun h4=>aR _ h4) (fun h4 o ho=>vW (h4 o ho))
theorem FsS.done{st:List Int}(h:FsS l rs xs i sn st a k)(hk:∀ o,Q7 l rs xs a 0 o=true->o<k):FsS l rs xs i sn st rs.length 0:=
 ⟨h.only,h.stk,fun q hq h1 _=>by
  by_cases e:q=a
  ·subst e;exact .inr (fun o ho=>(h.me hq).2 o (hk o ho) ho)
  ·exact h.cl q hq h1 e,fun h=>absurd h (aA _)⟩
theorem FsS.end_(hi:i<rs.length)(h:FsS l rs xs i sn [] rs.length 0)(o:Nat):sn o=true↔Fst l rs xs i o:=by
 refine⟨h.only o,fun hf=>?_⟩
 induction hf with
 | one hd=>exact((h.cl i hi (.inl rfl) oG).resolve_left (by simp)) _ hd
 | more _ hr hd ih=>exact((h.cl _ hr (.inr ih) oG).resolve_left (by simp)) _ hd
open Classical in
theorem FsS.row(hi:i<rs.length)(h:FsS l rs xs i sn [] rs.length 0):(List.range (rs.length+xs.length)).map sn=KY l rs xs i:=by
 unfold KY;refine aM (fun o _=>?_);have:=h.end_ hi o;cases e:sn o with
 | true=>simp[this.1 e]
 | false=>rw[eq_comm,decide_eq_false_iff_not];exact fun hf=>by rw[this.2 hf]at e;cases e
theorem Wk{m:Int}:∀(ks:List (List Nd)) (x:List Nd) (i:Nat) (Y rg:List Nd),Jok l fs m x->Jok l fs m rg->Maps l rg x->(∀ k∈ks,GV l fs k)->(i:Int)+ks.length<=m->0<=m->Yv l x i ks true Y->
  (∀ j (hj:j<ks.length) M,GX l M->Maps l M ks[j]->Iv l rg (plc rg (((i+j:Nat):Int)+1)).toNat M=true)/\Maps l (moF rg) Y
 | [],x,i,Y,rg,hx,hrg,hM,_,_,hm0,hJ=>by
  obtain⟨_,o,ho,rfl⟩:=hJ
  refine⟨fun j hj=>absurd hj (aw _),?_⟩
  obtain⟨φ,hφ⟩:=hM
  have a1:=hrg.lt (aH 0) hm0
  obtain⟨o2,ho2⟩:=hrg.v.gx.toGY.dl a1
  rw[Tq ho2]
  have hp:=plc_hom hrg.v.gx hφ (hrg.p 0 (aH 0) hm0)
  rw[hp]at ho
  exact hφ.part hx.v.gx (hrg.v.gx.toGY.trr a1 ho2) (hx.v.gx.toGY.trr (hφ.lt _ a1) ho)
 | k::ks,x,i,Y,rg,hx,hrg,hM,hk,hl,hm0,hJ=>by
  rcases hJ with ⟨X,hX,h60,hJ⟩|⟨_,h,_⟩
  ·have hl':((i+1:Nat):Int)+ks.length<=m:=by simp only[List.length_cons]at hl;omega
   have a2:(i:Int)+1<=m:=by omega
   have a3:=hk k (au ..)
   have hjl:=hx.lt (f:=(i:Int)+1) oG a2
   have hX2:=hx.step a3 oG a2 hX h60
   obtain⟨φ,hφ⟩:=hM
   have hp:=plc_hom hrg.v.gx hφ (hrg.p ((i:Int)+1) oG a2)
   obtain⟨h1,h2⟩:=Wk ks X (i+1) Y rg hX2 hrg (Maps.comp hrg.v.gx.vt ⟨φ,hφ⟩ (Py hx.v.gx a3.gx hjl hX).2) (fun q hq=>hk q (am _ hq)) hl' hm0 hJ
   refine⟨fun j hj M hMv hMk=>?_,h2⟩
   match j,hj with
   | 0,_=>
    obtain⟨χ,hχ⟩:=hMk
    refine fitB_yes.2 ?_
    rw[Nat.add_zero]
    have a1:=hrg.lt (f:=(i:Int)+1) oG a2
    rw[hp]at hX
    exact(step_mono hrg.v.gx hx.v.gx hMv a3.gx a1 hφ hχ hX).1
   | j+1,hj=>
    have:=h1 j (by simp only[List.length_cons]at hj;omega) M hMv hMk
    rwa[show i+1+j=i+(j+1) by omega]at this
  ·cases h
noncomputable def moT(rs:List Rl)(xs:List Lx)(t:Dt):List Nd:=if t.rule<0 then GZ xs t.lex else moF (rlGr rs t.rule)
def I5(t:Dt):Int:=if t.rule<0 then 1000+t.lex else t.rule
def plT(rs:List Rl)(t:Dt):Nat:=if t.rule<0 then rs.length+t.lex.toNat else t.rule.toNat
theorem Sw:∀ {ks:List Dt} {Ys:List (List Nd)},Zw l rs xs ks Ys->∀ j (hj:j<ks.length) (hY:j<Ys.length),TgR l rs xs ks[j] true Ys[j]
 | [],_,_,j,hj,_=>absurd hj (aw _)
 | a::ks,Ys,h,j,hj,hY=>by
  rw[Zw]at h
  obtain⟨Z,Zs,h1,h2,rfl⟩:=h
  match j,hj,hY with
  | 0,_,_=>exact h1
  | j+1,hj,hY=>exact Sw h2 j (by simpa using hj) (by simpa using hY)
theorem tg_kids(hr:¬t.rule<0)(h:TgR l rs xs t true X):∃ Ys,Zw l rs xs t.kids Ys/\Yv l (rlGr rs t.rule) 0 Ys true X:=by
 rcases(J2 hr).1 h with h|⟨_,h,_⟩
 ·exact h
 ·cases h
theorem D0(hok:OkT rs xs.length t)(hr:¬t.rule<0):plT rs t<rs.length/\t.rule=(plT rs t:Int):=by
 obtain⟨q1,_,q2⟩:=KX hok.at_.1 hr;unfold plT;rw[if_neg hr];omega
theorem mo_at(hok:OkT rs xs.length t):(X1 rs xs)[plT rs t]? =some (moT rs xs t):=by
 by_cases hr:t.rule<0
 ·obtain⟨_,q1,q2,_⟩:=Xv hok.at_.1 hr
  obtain⟨x,hx⟩:=aO q1;have hxl:x<xs.length:=by omega
  unfold plT moT;rw[if_pos hr,if_pos hr,MV hxl hx,hx];exact Tz hxl
 ·obtain⟨h1,h2⟩:=D0 hok hr
  unfold moT;rw[if_neg hr,KZ h1 h2,Gw h1]
theorem mo_gx(G:Y3 l fs rs xs)(hok:OkT rs xs.length t):GX l (moT rs xs t):=by
 by_cases hr:t.rule<0
 ·obtain⟨_,q1,q2,_⟩:=Xv hok.at_.1 hr
  obtain⟨x,hx⟩:=aO q1;have hxl:x<xs.length:=by omega
  unfold moT;rw[if_pos hr,MV hxl hx];exact(G.lx x hxl).gx
 ·obtain⟨h1,h2⟩:=D0 hok hr
  obtain⟨hJ,hk0,_⟩:=G.rl _ h1;unfold moT;rw[if_neg hr,KZ h1 h2];have hrl:=hJ.lt (aH 0) hk0;obtain⟨o,ho⟩:=hJ.v.gx.toGY.dl hrl;rw[Tq ho];exact(hJ.v.gx.toGY.trr hrl ho).gx hJ.v.gx.toGY
theorem Sv(G:Y3 l fs rs xs):∀(n:Nat) (t:Dt),SizeOf.sizeOf t<n->OkT rs xs.length t->∀ X,TgR l rs xs t true X->Maps l (moT rs xs t) X/\∀ j (hj:j<t.kids.length),Q7 l rs xs (plT rs t) j (plT rs t.kids[j])=true
 | 0,_,h,_,_,_=>absurd h (aw _)
 | n+1,t,hn,hok,X,hX=>by
  obtain⟨hk1,a1⟩:=hok.at_
  by_cases hr:t.rule<0
  ·obtain⟨_,q1,q2,hk⟩:=Xv hk1 hr
   obtain⟨x,hx⟩:=aO q1
   have hxl:x<xs.length:=by omega
   obtain⟨_,o,ho,rfl⟩:=(NZ hr).1 hX
   refine⟨?_,fun j hj=>absurd hj (by rw[hk];exact aw _)⟩
   unfold moT;rw[if_pos hr]
   rw[MV hxl hx]at ho ⊢
   have hg:=(G.lx x hxl).gx
   exact(maps_can hg (hg.toGY.trr hg.pos ho)).1
  ·obtain⟨h1,h2⟩:=D0 hok hr
   obtain⟨hJ,hk0,_⟩:=G.rl _ h1
   obtain⟨Ys,hY,hJX⟩:=tg_kids hr hX
   have hYl:=Kx hY
   obtain⟨_,_,q3⟩:=KX hk1 hr
   rw[Dq h1 h2]at q3
   rw[KZ h1 h2]at hJX
   obtain⟨f1,f2⟩:=Wk Ys _ 0 X _ hJ hJ ⟨_,Hom.refl hJ.v.gx⟩ (tgs_gv G a1 hY) (by rw[hYl];omega) hk0 hJX
   refine⟨by unfold moT;rw[if_neg hr,KZ h1 h2];exact f2,fun j hj=>?_⟩
   have hm:=ap hj
   have hsz:SizeOf.sizeOf t.kids[j]<n:=by
    have:=aN hm;cases t with
    | mk r x ks=>simp only[Dt.mk.sizeOf_spec,Dt.kids]at hn this ⊢;omega
   have ih:=(Sv G n _ hsz (a1 _ hm) _ (Sw hY j hj oG)).1;have:=f1 j oG _ (mo_gx G (a1 _ hm)) ih;rw[Nat.zero_add]at this;rw[admB_at h1 oG (mo_at (a1 _ hm))];exact this
def TgOk(l:List Ty)(rs:List Rl)(xs:List Lx)(t:Dt):Prop:=OkT rs xs.length t/\∃ X,TgR l rs xs t true X
theorem TgOk.kid(G:Y3 l fs rs xs)(h:TgOk l rs xs t)(hj:j<t.kids.length):TgOk l rs xs t.kids[j]/\¬t.rule<0/\Q7 l rs xs (plT rs t) j (plT rs t.kids[j])=true:=by
 obtain⟨hok,X,hX⟩:=h;obtain⟨hk1,hk2⟩:=hok.at_;have hr:¬t.rule<0:=fun hr=>by
  obtain⟨_,_,_,hk⟩:=Xv hk1 hr;rw[hk]at hj;exact absurd hj (aw _)
 obtain⟨Ys,hY,_⟩:=tg_kids hr hX;have hYl:=Kx hY;exact⟨⟨hk2 _ (ap hj),_,Sw hY j hj oG⟩,hr,(Sv G _ t (ax _) hok X hX).2 j hj⟩
theorem L5(G:Y3 l fs rs xs)(hok:OkT rs xs.length t){Z:List Nd}(hX:TgR l rs xs t true X)(hst:GX l st)(hgX:GX l X)(hZ:Xx l (yZ X st) [(0,X.length)] Z):Iv l st 0 (moT rs xs t)=true:=by
 have hb:=uni_lub hgX hst hZ;exact fitB_yes.2 (Gz hb.gx.toGY hb.right (Maps.comp hst.vt (Sv G _ t (ax _) hok X hX).1 hb.left) hst.toGY (mo_gx G hok).toGY)
mutual
def vv:Dt->List Dt
 | .mk r x ks=> .mk r x ks::kW ks
def kW:List Dt->List Dt
 | []=>[]
 | t::r=>vv t++kW r
end
theorem BJ(t:Dt):vv t=t::kW t.kids:=by cases t with|mk r x ks=>rw[vv];rfl
mutual
theorem KQ:∀ t:Dt,(vv t).length=ndT t
 | .mk r x ks=>by rw[vv,ndT,List.length_cons,V4 ks]
theorem V4:∀ ks:List Dt,(kW ks).length=Yq ks
 | []=>by rw[kW,Yq];rfl
 | t::r=>by rw[kW,Yq,List.length_append,KQ t,V4 r]
end
theorem FY(G:Y3 l fs rs xs):∀(n:Nat) (t:Dt),SizeOf.sizeOf t<n->TgOk l rs xs t->∀ p∈vv t,TgOk l rs xs p
 | 0,_,h,_,_,_=>absurd h (aw _)
 | n+1,t,hn,ht,p,hp=>by
  rw[BJ]at hp
  rcases aq.1 hp with rfl|hp
  ·exact ht
  ·have key:∀ ks:List Dt,(∀ x∈ks,SizeOf.sizeOf x<n/\TgOk l rs xs x)->p∈kW ks->TgOk l rs xs p:=by
    intro ks
    induction ks with
    | nil=>intro _ h;rw[kW]at h;cases h
    | cons a r ih=>
     intro H h;rw[kW]at h;rcases ay.1 h with h|h
     ·exact FY G n a (H a (au ..)).1 (H a (au ..)).2 p h
     ·exact ih (fun x hx=>H x (am _ hx)) h
   refine key t.kids (fun x hx=>?_) hp;obtain⟨j,hj,rfl⟩:=List.getElem_of_mem hx;refine⟨?_,(ht.kid G hj).1⟩;have:=aN hx;cases t with
   | mk r x ks=>simp only[Dt.mk.sizeOf_spec,Dt.kids]at hn this ⊢;omega
end
end
def BolsIn(w:World)(A:Option Addr)(xs:List Bool):Prop:=
 xs.length<=vJ/\(xs≠[]->∃ b o,A=some ⟨b,o,none⟩/\b<w.heap.size/\∀ k (h:k<xs.length),w.cell? ⟨b,o+k*1,none⟩=some (.bool xs[k]))
theorem BolsIn.mono{w':World}{A:Option Addr}{xs:List Bool}(h:BolsIn w A xs)(hb:Bel w w'):BolsIn w' A xs:=
 ⟨h.1,fun hn=>by
  obtain⟨b,o,e,hl,hc⟩:=h.2 hn
  exact⟨b,o,e,nLL hl hb.size,fun k hk=>hb.cell hl (hc k hk)⟩⟩
theorem BolsIn.at_{w':World}{A:Option Addr}{xs:List Bool}(h:BolsIn w A xs)(hB:Bel w w')(hk:k<xs.length):∃ b o,A=some ⟨b,o,none⟩/\w'.cell? ⟨b,o+k*1,none⟩=some (.bool xs[k]):=by
 obtain⟨b,o,e,hl,hc⟩:=h.2 (by rintro rfl;simp at hk);exact⟨b,o,e,hB.cell hl (hc k hk)⟩
def AdmIn(l:List Ty)(rs:List Rl)(xs:List Lx)(w:World)(A:Option Addr):Prop:=∀ r,r<rs.length->∃ b o,A=some ⟨b,o,none⟩/\b<w.heap.size/\∀ j,j<3->∃ Ar c,w.cell? ⟨b,o+r*3+j*1,none⟩=some (.slice Ar (jY l rs xs r j).length c)/\BolsIn w Ar (jY l rs xs r j)
def FirIn(l:List Ty)(rs:List Rl)(xs:List Lx)(w:World)(A:Option Addr):Prop:=∀ r,r<rs.length->∃ b o Ar c,A=some ⟨b,o,none⟩/\b<w.heap.size/\w.cell? ⟨b,o+r*1,none⟩=some (.slice Ar (KY l rs xs r).length c)/\BolsIn w Ar (KY l rs xs r)
structure FilIn(l:List Ty)(rs:List Rl)(xs:List Lx)(st:List Nd)(KA AA SA FA:Option Addr)(w:World):Prop where
 k:IntsIn w KA (rs.map (·.kids))
 a:AdmIn l rs xs w AA
 s:BolsIn w SA (NK l rs xs st)
 f:FirIn l rs xs w FA
theorem FilIn.mono{l:List Ty}{rs:List Rl}{xs:List Lx}{st:List Nd}{KA AA SA FA:Option Addr}{w w':World}(h:FilIn l rs xs st KA AA SA FA w)(hb:Bel w w'):FilIn l rs xs st KA AA SA FA w':=
 ⟨h.k.mono hb,fun r hr=>by
  obtain⟨b,o,e,hl,hc⟩:=h.a r hr
  exact⟨b,o,e,nLL hl hb.size,fun j hj=>by
   obtain⟨Ar,c,h1,h2⟩:=hc j hj
   exact⟨Ar,c,hb.cell hl h1,h2.mono hb⟩⟩,h.s.mono hb,fun r hr=>by
  obtain⟨b,o,Ar,c,e,hl,h1,h2⟩:=h.f r hr
  exact⟨b,o,Ar,c,e,nLL hl hb.size,hb.cell hl h1,h2.mono hb⟩⟩
def filC(nr nx:Nat)(KA AA SA FA:Option Addr)(ck ca cs cf:Nat):Array Value:=#[.int .i64 (nr:Nat),.int .i64 (nx:Nat),.slice KA nr ck,.slice AA nr ca,.slice SA (nr+nx) cs,.slice FA nr cf]
def plF(nr nx:Nat)(o:Int):Int:=if 0<=o/\o<nr then o else if 1000<=o/\o<1000+(nx:Int)then nr+o-1000 else -1
theorem plf_lo{o:Int}(h:0<=o/\o<nr):plF nr nx o=o:=if_pos h
theorem plf_hi{o:Int}(h:¬(0<=o/\o<nr))(k:1000<=o/\o<1000+(nx:Int)):plF nr nx o=nr+o-1000:=by unfold plF;rw[if_neg h,if_pos k]
theorem plf_no{o:Int}(h:¬(0<=o/\o<nr))(k:¬(1000<=o/\o<1000+(nx:Int))):plF nr nx o= -1:=by unfold plF;rw[if_neg h,if_neg k]
theorem G0{o:Int}:-1<=plF nr nx o/\plF nr nx o<nr+nx:=by unfold plF;split<;>(try split)<;>omega
def kdF(rs:List Rl)(r:Int):Int:=((rs[r.toNat]?).map (·.kids)).getD 0
theorem K5{r:Int}(h:r.toNat<rs.length):kdF rs r=(rs[r.toNat]).kids:=by simp[kdF,h]
def AdmP(l:List Ty)(rs:List Rl)(xs:List Lx)(r k o:Int):Prop:=0<=plF rs.length xs.length o/\0<=r/\r<rs.length/\1<=k/\k<=kdF rs r/\Q7 l rs xs r.toNat (k-1).toNat (plF rs.length xs.length o).toNat=true
def StaP(l:List Ty)(rs:List Rl)(xs:List Lx)(st:List Nd)(o:Int):Prop:=0<=plF rs.length xs.length o/\(NK l rs xs st).getD (plF rs.length xs.length o).toNat false=true
def FirP(l:List Ty)(rs:List Rl)(xs:List Lx)(r o:Int):Prop:=0<=plF rs.length xs.length o/\0<=r/\r<rs.length/\(KY l rs xs r.toNat).getD (plF rs.length xs.length o).toNat false=true
noncomputable instance(l:List Ty)(rs:List Rl)(xs:List Lx)(r k o:Int):Decidable (AdmP l rs xs r k o):=Classical.propDecidable _
noncomputable instance(l:List Ty)(rs:List Rl)(xs:List Lx)(st:List Nd)(o:Int):Decidable (StaP l rs xs st o):=Classical.propDecidable _
noncomputable instance(l:List Ty)(rs:List Rl)(xs:List Lx)(r o:Int):Decidable (FirP l rs xs r o):=Classical.propDecidable _
theorem yW{xs:List Bool}(h:i<xs.length):xs.getD i false=xs[i]:=by simp[h]
theorem VZ{p:Prop}[Decidable p]{b:Bool}(h:p↔b=true):Value.bool b= .bool (decide p):=by
 cases b with
 | true=>rw[decide_eq_true (h.2 rfl)]
 | false=>rw[decide_eq_false (fun k=>by cases h.1 k)]
theorem sz37:(Tryd.prog.info? 37).map (·.size)=some 1:=by kernel_rfl
theorem F0:(Tryd.prog.info? 38).map (·.size)=some 1:=by kernel_rfl
theorem sz39:(Tryd.prog.info? 39).map (·.size)=some 1:=by kernel_rfl
theorem sz41:(Tryd.prog.info? 41).map (·.size)=some 6:=by kernel_rfl
theorem sz96:(Tryd.prog.info? 96).map (·.size)=some 3:=by kernel_rfl
theorem E5(ck ca cs cf:Nat)(o:Int)(w:World)(hn:rs.length<=1000)(hx:xs.length<=1000):Calls Tryd.prog 32 #[.agg #[.int .i64 (rs.length:Nat),.int .i64 (xs.length:Nat),.slice KA rs.length ck,.slice AA rs.length ca,.slice SA (rs.length+xs.length) cs,.slice FA rs.length cf],.int .i64 o] w fun e w'=>e= .returned (.int .i64 (plF rs.length xs.length o))/\Bel w w':=by
 refine enT Tryd.func32 Tryd.ntmps32 rfl rfl fun hB=>?_;refine zn2 ?_;refine qZ (cs:=#[_,_,_,_,_,_]) rfl (fun b2 w1 hb2 s1 hr=>?_);refine zn5 ?_;replace hB:=hB.tr0 s1;refine yy (rgq [] 5 8) 12 (.bool (decide (0<=o/\o<(rs.length:Int)))) nu ?_ (fun gq=>?_)
 ·refine zn4 ?_;refine zQ 7 rfl (fun g7=>?_) (fun g7=>?_)
  ·refine zn9 ?_;refine kv ?_
   first|exact ac (ai.2 ⟨fun h=>⟨by omega,h⟩,fun h=>h.2⟩)|exact ac (ag (fun h=>by omega)).symm
  refine zn5 ?_;refine kv ?_
  first|exact ac (ai.2 ⟨fun h=>⟨by omega,h⟩,fun h=>h.2⟩)|exact ac (ag (fun h=>by omega)).symm
 refine e_S ?_;refine zK rfl (fun a1=>?_) (fun a1=>?_)
 ·refine zn9 ?_;exact⟨by rw[plf_lo a1];rfl,hB⟩
 refine zn4 ?_;refine yy (rgq [] 14 9) 22 (.bool (decide (1000<=o/\o<1000+(xs.length:Int)))) nu ?_ (fun gq=>?_)
 ·refine zn4 ?_;refine zQ 16 rfl (fun g16=>?_) (fun g16=>?_)
  ·refine gX ?_;refine kv ?_
   first|exact ac (ai.2 ⟨fun h=>⟨by omega,h⟩,fun h=>h.2⟩)|exact ac (ag (fun h=>by omega)).symm
  refine zn6 ?_;refine kv ?_
  first|exact ac (ai.2 ⟨fun h=>⟨by omega,h⟩,fun h=>h.2⟩)|exact ac (ag (fun h=>by omega)).symm
 refine e_S ?_;refine zK rfl (fun a2=>?_) (fun a2=>?_)
 ·refine zn6 ?_;refine wl (Xj rfl rfl rfl oG) (zn6 ?_);exact⟨by rw[plf_hi a1 a2];rfl,hB⟩
 refine zn9 ?_;exact⟨by rw[plf_no a1 a2];rfl,hB⟩
set_option maxHeartbeats 2000000 in
theorem C0(ck ca cs cf:Nat)(r k o:Int)(w:World)(hF:FilIn l rs xs st KA AA SA FA w)(hn:rs.length<=1000)(hx:xs.length<=1000)(hk3:∀ q∈rs,q.kids<=3):Calls Tryd.prog 7 #[.agg #[.int .i64 (rs.length:Nat),.int .i64 (xs.length:Nat),.slice KA rs.length ck,.slice AA rs.length ca,.slice SA (rs.length+xs.length) cs,.slice FA rs.length cf],.int .i64 r,.int .i64 k,.int .i64 o] w fun e w'=>e= .returned (.bool (decide (AdmP l rs xs r k o)))/\Bel w w':=by
 refine enT Tryd.func7 Tryd.ntmps7 rfl rfl fun hB=>?_;refine zn2 ?_;refine qZ (cs:=#[_,_,_,_,_,_]) rfl (fun b4 w1 hb4 s1 hr=>?_);refine zn7 ?_;refine aZ kR (E5 ck ca cs cf o _ hn hx) rfl (fun w2 s2=>?_);refine zn4 ?_;have hp:=G0 (nr:=rs.length) (nx:=xs.length) (o:=o);replace hB:=hB.tr0 (s1.t s2);refine yy (rgq [8] 13 38) 8 (.bool (decide (AdmP l rs xs r k o))) nu ?_ (fun gq=>?_)
 ·refine zn4 ?_;refine zQ 15 rfl (fun g15=>?_) (fun g15=>?_)
  ·refine zn6 ?_;refine zQ 19 rfl (fun g19=>?_) (fun g19=>?_)
   ·refine jZ ?_;refine zQ 25 rfl (fun g25=>?_) (fun g25=>?_)
    ·refine zn6 ?_;refine zQ 29 rfl (fun g29=>?_) (fun g29=>?_)
     ·refine zn6 ?_;have a2:r.toNat<rs.length:=by omega
      obtain⟨kb,ko,rfl,hkl,hkc⟩:=hF.k.at_ (k:=r.toNat) (by simpa using a2);have hq3:=hk3 _ (ap a2);have hkd:=K5 a2;refine zn1 ?_;refine wl (x7 (v:= .int .i64 ((r.toNat:Nat):Int)) (congrArg (Value.int .i64) oG)) (zn1 ?_);refine wl (xW (i:=r.toNat) U36 x8 rfl rfl a2 rfl) (zn1 ?_);refine wl (qW (v:= .int .i64 (rs[r.toNat]).kids) U3 rfl rfl (hB.cell hkl (by rw[hkc];simp))) (zn4 ?_);refine zQ 38 rfl (fun g38=>?_) (fun g38=>?_)
      ·obtain⟨ab,ao,hA,hal,hac⟩:=hF.a r.toNat a2;obtain⟨Ar,ca2,hc1,hc2⟩:=hac (k-1).toNat oG;subst hA;have hle:(jY l rs xs r.toNat (k-1).toNat).length=rs.length+xs.length:=by rw[R2 a2 oG,List.length_map,KK]
       have a1:(plF rs.length xs.length o).toNat<(jY l rs xs r.toNat (k-1).toNat).length:=by omega
       obtain⟨bb,bo,rfl,hbc⟩:=hc2.at_ hB a1;refine zn5 ?_;refine wl (x7 (v:= .int .i64 ((r.toNat:Nat):Int)) (congrArg (Value.int .i64) oG)) (zn3 ?_);refine wl (Xj (c:=(((k-1).toNat:Nat):Int)) rfl rfl oG oG) (zn1 ?_);refine wl (xW (i:=r.toNat) U37 sz96 rfl rfl a2 rfl) (zn1 ?_);refine wl (JK (i:=(k-1).toNat) U96 F0 rfl rfl oG rfl) (zn1 ?_);refine wl (qW (v:= .slice (some ⟨bb,bo,none⟩) (jY l rs xs r.toNat (k-1).toNat).length ca2) U38 rfl rfl (hB.cell hal hc1)) (zn1 ?_);refine wl (x7 (v:= .int .i64 ((((plF rs.length xs.length o).toNat:Nat)):Int)) (congrArg (Value.int .i64) oG)) (zn1 ?_);refine wl (xW (i:=(plF rs.length xs.length o).toNat) U38 yY rfl rfl a1 rfl) (zn1 ?_);refine wl (qW (v:= .bool ((jY l rs xs r.toNat (k-1).toNat)[(plF rs.length xs.length o).toNat]'a1)) U4 rfl rfl hbc) (zn2 ?_);refine kv ?_
       first|exact ac (ag (fun h=>by obtain⟨h1,h2⟩:=h;omega)).symm|exact ac (ag (fun h=>by obtain⟨h1,h2,h3,h4⟩:=h;omega)).symm|exact ac (ag (fun h=>by obtain⟨h1,h2,h3,h4,h5,h6⟩:=h;omega)).symm|exact VZ ⟨fun h=>by rw[<- yW a1];exact h.2.2.2.2.2,fun h=>⟨by omega,by omega,by omega,by omega,by rw[K5 a2];omega,by unfold Q7;rw[yW a1];exact h⟩⟩
      refine Zv ?_;refine kv ?_
      first|exact ac (ag (fun h=>by obtain⟨h1,h2⟩:=h;omega)).symm|exact ac (ag (fun h=>by obtain⟨h1,h2,h3,h4⟩:=h;omega)).symm|exact ac (ag (fun h=>by obtain⟨h1,h2,h3,h4,h5,h6⟩:=h;omega)).symm|exact VZ ⟨fun h=>by rw[<- yW a1];exact h.2.2.2.2.2,fun h=>⟨by omega,by omega,by omega,by omega,by rw[K5 a2];omega,by unfold Q7;rw[yW a1];exact h⟩⟩
     refine zn22 ?_;refine kv ?_
     first|exact ac (ag (fun h=>by obtain⟨h1,h2⟩:=h;omega)).symm|exact ac (ag (fun h=>by obtain⟨h1,h2,h3,h4⟩:=h;omega)).symm|exact ac (ag (fun h=>by obtain⟨h1,h2,h3,h4,h5,h6⟩:=h;omega)).symm|exact VZ ⟨fun h=>by rw[<- yW a1];exact h.2.2.2.2.2,fun h=>⟨by omega,by omega,by omega,by omega,by rw[K5 a2];omega,by unfold Q7;rw[yW a1];exact h⟩⟩
    refine zn26 ?_;refine kv ?_
    first|exact ac (ag (fun h=>by obtain⟨h1,h2⟩:=h;omega)).symm|exact ac (ag (fun h=>by obtain⟨h1,h2,h3,h4⟩:=h;omega)).symm|exact ac (ag (fun h=>by obtain⟨h1,h2,h3,h4,h5,h6⟩:=h;omega)).symm|exact VZ ⟨fun h=>by rw[<- yW a1];exact h.2.2.2.2.2,fun h=>⟨by omega,by omega,by omega,by omega,by rw[K5 a2];omega,by unfold Q7;rw[yW a1];exact h⟩⟩
   refine zn30 ?_;refine zn2 ?_;refine kv ?_
   first|exact ac (ag (fun h=>by obtain⟨h1,h2⟩:=h;omega)).symm|exact ac (ag (fun h=>by obtain⟨h1,h2,h3,h4⟩:=h;omega)).symm|exact ac (ag (fun h=>by obtain⟨h1,h2,h3,h4,h5,h6⟩:=h;omega)).symm|exact VZ ⟨fun h=>by rw[<- yW a1];exact h.2.2.2.2.2,fun h=>⟨by omega,by omega,by omega,by omega,by rw[K5 a2];omega,by unfold Q7;rw[yW a1];exact h⟩⟩
  refine zn30 ?_;refine zn6 ?_;refine kv ?_
  first|exact ac (ag (fun h=>by obtain⟨h1,h2⟩:=h;omega)).symm|exact ac (ag (fun h=>by obtain⟨h1,h2,h3,h4⟩:=h;omega)).symm|exact ac (ag (fun h=>by obtain⟨h1,h2,h3,h4,h5,h6⟩:=h;omega)).symm|exact VZ ⟨fun h=>by rw[<- yW a1];exact h.2.2.2.2.2,fun h=>⟨by omega,by omega,by omega,by omega,by rw[K5 a2];omega,by unfold Q7;rw[yW a1];exact h⟩⟩
 refine zn3 ?_;exact⟨rfl,hB⟩
theorem Lk(ck ca cs cf:Nat)(o:Int)(w:World)(hF:FilIn l rs xs st KA AA SA FA w)(hn:rs.length<=1000)(hx:xs.length<=1000):Calls Tryd.prog 13 #[.agg #[.int .i64 (rs.length:Nat),.int .i64 (xs.length:Nat),.slice KA rs.length ck,.slice AA rs.length ca,.slice SA (rs.length+xs.length) cs,.slice FA rs.length cf],.int .i64 o] w fun e w'=>e= .returned (.bool (decide (StaP l rs xs st o)))/\Bel w w':=by
 refine enT Tryd.func13 Tryd.ntmps13 rfl rfl fun hB=>?_;refine zn2 ?_;refine qZ (cs:=#[_,_,_,_,_,_]) rfl (fun b2 w1 hb2 s1 hr=>?_);refine zn7 ?_;refine aZ kR (E5 ck ca cs cf o _ hn hx) rfl (fun w2 s2=>?_);refine zn4 ?_;have hp:=G0 (nr:=rs.length) (nx:=xs.length) (o:=o);have hle:(NK l rs xs st).length=rs.length+xs.length:=by unfold NK;rw[List.length_map,KK]
 replace hB:=hB.tr0 (s1.t s2);refine yy (rgq [4] 9 9) 4 (.bool (decide (StaP l rs xs st o))) nu ?_ (fun gq=>?_)
 ·refine zn4 ?_;refine zQ 11 rfl (fun g11=>?_) (fun g11=>?_)
  ·have a1:(plF rs.length xs.length o).toNat<(NK l rs xs st).length:=by omega
   obtain⟨bb,bo,rfl,hbc⟩:=hF.s.at_ hB a1;refine zn5 ?_;refine wl (x7 (v:= .int .i64 ((((plF rs.length xs.length o).toNat:Nat)):Int)) (congrArg (Value.int .i64) oG)) (zn1 ?_);refine wl (xW (i:=(plF rs.length xs.length o).toNat) U38 yY rfl rfl oG rfl) (zn1 ?_);refine wl (qW (v:= .bool ((NK l rs xs st)[(plF rs.length xs.length o).toNat]'a1)) U4 rfl rfl hbc) (zn2 ?_);refine kv ?_
   first|exact ac (ag (fun h=>by obtain⟨h1,h2⟩:=h;omega)).symm|exact ac (ag (fun h=>by obtain⟨h1,h2,h3,h4⟩:=h;omega)).symm|exact ac (ag (fun h=>by obtain⟨h1,h2,h3,h4,h5,h6⟩:=h;omega)).symm|exact VZ ⟨fun h=>by rw[<- yW a1];exact h.2,fun h=>⟨by omega,by rw[yW a1];exact h⟩⟩
  refine zn7 ?_;refine kv ?_
  first|exact ac (ag (fun h=>by obtain⟨h1,h2⟩:=h;omega)).symm|exact ac (ag (fun h=>by obtain⟨h1,h2,h3,h4⟩:=h;omega)).symm|exact ac (ag (fun h=>by obtain⟨h1,h2,h3,h4,h5,h6⟩:=h;omega)).symm|exact VZ ⟨fun h=>by rw[<- yW a1];exact h.2,fun h=>⟨by omega,by rw[yW a1];exact h⟩⟩
 refine zn3 ?_;exact⟨rfl,hB⟩
theorem first_any(ck ca cs cf:Nat)(r o:Int)(w:World)(hF:FilIn l rs xs st KA AA SA FA w)(hn:rs.length<=1000)(hx:xs.length<=1000):Calls Tryd.prog 11 #[.agg #[.int .i64 (rs.length:Nat),.int .i64 (xs.length:Nat),.slice KA rs.length ck,.slice AA rs.length ca,.slice SA (rs.length+xs.length) cs,.slice FA rs.length cf],.int .i64 r,.int .i64 o] w fun e w'=>e= .returned (.bool (decide (FirP l rs xs r o)))/\Bel w w':=by
 refine enT Tryd.func11 Tryd.ntmps11 rfl rfl fun hB=>?_;refine zn2 ?_;refine qZ (cs:=#[_,_,_,_,_,_]) rfl (fun b3 w1 hb3 s1 hr=>?_);refine zn7 ?_;refine aZ kR (E5 ck ca cs cf o _ hn hx) rfl (fun w2 s2=>?_);refine zn4 ?_;have hp:=G0 (nr:=rs.length) (nx:=xs.length) (o:=o);replace hB:=hB.tr0 (s1.t s2);refine yy (rgq [6] 11 22) 6 (.bool (decide (FirP l rs xs r o))) nu ?_ (fun gq=>?_)
 ·refine zn4 ?_;refine zQ 13 rfl (fun g13=>?_) (fun g13=>?_)
  ·refine zn6 ?_;refine zQ 17 rfl (fun g17=>?_) (fun g17=>?_)
   ·refine jZ ?_;refine zQ 23 rfl (fun g23=>?_) (fun g23=>?_)
    ·have hrl:r.toNat<rs.length:=by omega
     obtain⟨ab,ao,Ar,ca2,hA,hal,hc1,hc2⟩:=hF.f r.toNat hrl;subst hA;have hle:(KY l rs xs r.toNat).length=rs.length+xs.length:=by simp[KY]
     have a1:(plF rs.length xs.length o).toNat<(KY l rs xs r.toNat).length:=by omega
     obtain⟨bb,bo,rfl,hbc⟩:=hc2.at_ hB a1;refine zn5 ?_;refine wl (x7 (v:= .int .i64 ((r.toNat:Nat):Int)) (congrArg (Value.int .i64) oG)) (zn1 ?_);refine wl (xW (i:=r.toNat) U39 F0 rfl rfl hrl rfl) (zn1 ?_);refine wl (qW (v:= .slice (some ⟨bb,bo,none⟩) (KY l rs xs r.toNat).length ca2) U38 rfl rfl (hB.cell hal hc1)) (zn1 ?_);refine wl (x7 (v:= .int .i64 ((((plF rs.length xs.length o).toNat:Nat)):Int)) (congrArg (Value.int .i64) oG)) (zn1 ?_);refine wl (xW (i:=(plF rs.length xs.length o).toNat) U38 yY rfl rfl a1 rfl) (zn1 ?_);refine wl (qW (v:= .bool ((KY l rs xs r.toNat)[(plF rs.length xs.length o).toNat]'a1)) U4 rfl rfl hbc) (zn2 ?_);refine kv ?_
     first|exact ac (ag (fun h=>by obtain⟨h1,h2⟩:=h;omega)).symm|exact ac (ag (fun h=>by obtain⟨h1,h2,h3,h4⟩:=h;omega)).symm|exact ac (ag (fun h=>by obtain⟨h1,h2,h3,h4,h5,h6⟩:=h;omega)).symm|exact VZ ⟨fun h=>by rw[<- yW a1];exact h.2.2.2,fun h=>⟨by omega,by omega,by omega,by rw[yW a1];exact h⟩⟩
    refine jZ ?_;refine kv ?_
    first|exact ac (ag (fun h=>by obtain⟨h1,h2⟩:=h;omega)).symm|exact ac (ag (fun h=>by obtain⟨h1,h2,h3,h4⟩:=h;omega)).symm|exact ac (ag (fun h=>by obtain⟨h1,h2,h3,h4,h5,h6⟩:=h;omega)).symm|exact VZ ⟨fun h=>by rw[<- yW a1];exact h.2.2.2,fun h=>⟨by omega,by omega,by omega,by rw[yW a1];exact h⟩⟩
   refine P0 ?_;refine kv ?_
   first|exact ac (ag (fun h=>by obtain⟨h1,h2⟩:=h;omega)).symm|exact ac (ag (fun h=>by obtain⟨h1,h2,h3,h4⟩:=h;omega)).symm|exact ac (ag (fun h=>by obtain⟨h1,h2,h3,h4,h5,h6⟩:=h;omega)).symm|exact VZ ⟨fun h=>by rw[<- yW a1];exact h.2.2.2,fun h=>⟨by omega,by omega,by omega,by rw[yW a1];exact h⟩⟩
  refine zn20 ?_;refine kv ?_
  first|exact ac (ag (fun h=>by obtain⟨h1,h2⟩:=h;omega)).symm|exact ac (ag (fun h=>by obtain⟨h1,h2,h3,h4⟩:=h;omega)).symm|exact ac (ag (fun h=>by obtain⟨h1,h2,h3,h4,h5,h6⟩:=h;omega)).symm|exact VZ ⟨fun h=>by rw[<- yW a1];exact h.2.2.2,fun h=>⟨by omega,by omega,by omega,by rw[yW a1];exact h⟩⟩
 refine zn3 ?_;exact⟨rfl,hB⟩
set_option maxHeartbeats 2000000 in
theorem H2{bu bd:Nat}{G1 G2:Option Addr}{nt nf:Nat}{ga gb:List Nd}{bt:Nat}(w:World)(a4:TabIn w)(hTI:TableIn w l bu bd)(hS:I6 l)(a6:Blk w bt 76 #[.slice (some ⟨bu,0,none⟩) l.length l.length,.slice (some ⟨bd,0,none⟩) l.length l.length])(ao:NodesIn w G1 ga)(an:NodesIn w G2 gb)(hka:GOk nt nf ga)(hkb:GOk nt nf gb)(a5:GX l ga)(a2:GX l gb)(hnf:nf<=1000)(hj:j<ga.length):Calls Tryd.prog 51 #[.agg #[.slice G1 ga.length c1],.int .i64 (j:Nat),.agg #[.slice G2 gb.length c2],.pointer (some ⟨bt,0,none⟩)] w fun e w'=>e= .returned (.bool (Iv l ga j gb))/\Bel w w':=by
 have hm1:=ao.1;have hm2:=an.1;unfold vJ at hm1 hm2;have a1:=a2.pos;obtain⟨n1,o1,L1,k1,rfl,hn1,ab,hnl1⟩:=ao.at_ (Below.refl _ _:Bel w w) hj;obtain⟨n2,o2,L2,k2,rfl,hn2,a9,hnl2⟩:=an.at_ (Below.refl _ _:Bel w w) a1;have t1:=a5.tr _ hj;have t2:=a2.tr _ a1;rw[yv hj]at t1;rw[yv a1]at t2;obtain⟨ta,a8⟩:∃ n:Nat,(ga[j]'hj).ty=(n:Int):=⟨_,(Int.toNat_of_nonneg t1.1).symm⟩
 obtain⟨tb,a7⟩:∃ n:Nat,(gb[0]'a1).ty=(n:Int):=⟨_,(Int.toNat_of_nonneg t2.1).symm⟩
 rw[a8]at t1;rw[a7]at t2;refine enT Tryd.func51 Tryd.ntmps51 rfl rfl fun hB=>?_;refine zn2 ?_;refine qZ (cs:=#[_]) rfl (fun b4 w1 hb4 s1 hr=>?_);refine qZ (cs:=#[_]) rfl (fun b6 w2 hb6 s2 hr=>?_);refine zn5 ?_;refine uV [] [0,1,2,3,4,5,6,7,8,9,10,11,12,13,14,15,16,17,18,19] rfl (fun w3 s3=>?_);refine hlS rfl U76 rfl rfl (hB.u.range a6.lt a6.range0) Kk (zn3 ?_);refine hl rfl (fun _=>xW (i:=j) U28 I1 rfl rfl hj rfl) (zn1 ?_);replace hB:=hB.tr0 (s1.t (s2.t s3));refine hl1 (v:= .int .i64 (ta:Nat)) rfl U3 rfl rfl (by rw[<- a8];exact hB.cell hn1 (ab 0 _ rfl)) (zn2 ?_);refine hl rfl (fun _=>xW (i:=0) U28 I1 rfl rfl a1 rfl) (zn1 ?_);refine hl1 (v:= .int .i64 (tb:Nat)) rfl U3 rfl rfl (by rw[<- a7];exact hB.cell hn2 (a9 0 _ rfl)) (h1 rfl ?_);refine zX DZ (D6 l bu bd ta tb _ (a4.mono hB) (hTI.mono hB) hS.vt hS.le oG oG) rfl (fun e' w4 hr=>?_);obtain⟨rfl,s4⟩:=hr;replace s4:=sB s4;have a3:=s4;refine⟨_,rfl,?_⟩;refine x6 (Y1 a3 (zn1 ?_));refine hl rfl (fun _=>yV (v:=_) rfl rfl) (hl rfl (fun _=>yV (v:=_) rfl rfl) (hl rfl (fun _=>yV (v:=_) rfl rfl) (gX ?_)));refine jW rfl (fun c31=>?_) (fun c31=>?_)
 ·have hm:(jv l ta tb).2.1=false:=by simpa using c31
  refine zn8 ?_;replace hB:=hB.tr0 s4;exact⟨by rw[fit_ty hS a5 a2 hj (by rw[yv hj,yv a1,a8,a7,Int.toNat_natCast,Int.toNat_natCast];exact hm)];rfl,hB⟩
 refine zn4 ?_;refine wl (qK U76 rfl rfl (hB.u.range a6.lt a6.range0) Kk) (zn3 ?_);refine zX kR (Dk (nt:=nt) (nf:=nf) _ (a4.mono hB.u) (hTI.mono hB.u) hS (ao.mono hB.u) (an.mono hB.u) hka hkb a5.toGY a2.toGY hnf hj) rfl (fun e' w5 hr=>?_);obtain⟨⟨A9,X9,ok9,rfl,_,hI9⟩,s5⟩:=hr;replace s5:=sB s5;refine⟨_,rfl,?_⟩;refine wmT rfl (wl (yV (v:=_) rfl rfl) (wl (yV (v:=_) rfl rfl) ?_));refine yx (cs:=#[.slice none 0 0]) Iy rfl (fun _=>rfl) (fun _=>rfl) gY rfl y5 (fun b11 w7 hb11 s6 hr=>?_);refine gX ?_;replace hB:=hB.tr0 (s4.t (s5.t s6));rcases hI9 with ⟨rfl,hU⟩|⟨rfl,_,hb⟩
 · exact⟨by rw[fitB_yes.2 (NJ a5 a2 hj hU)];rfl,hB⟩
 · exact⟨by rw[fitB_no.2 hb];rfl,hB⟩
section
abbrev cE:Array Value:=#[.int .i64 0,.string ⟨#[]⟩,.int .i64 0,.string ⟨#[]⟩,.slice none 0 0,.slice none 0 0]
def zSm:Array Value:=#[.string ⟨#[]⟩,.slice none 0 0]
def zTm:Array Value:=cE
def Sp(ts:List Nat)(t:Nat)(cs:Array Value):Prop:=t∈ts\/(t=61/\cs=zSm)\/(t=64/\cs=zTm)
def Kp(X:List Nat)(n:Nat)(ts:List Nat)(w w2:World):Prop:=w.heap.size<=w2.heap.size/\∀ k,k<n->w2.heap[k]? =w.heap[k]?\/k∈X\/∃ t cs,Blk w k t cs/\Sp ts t cs
section kp
variable {X Y:List Nat} {n m:Nat} {ts us:List Nat} {w w1 w2:World} {P Q:World->Prop}
theorem Kp.refl(X:List Nat)(n:Nat)(ts:List Nat)(w:World):Kp X n ts w w:=⟨ae _,fun _ _=> .inl rfl⟩
theorem Kp.trans(h:Kp X n ts w w1)(g:Kp X n ts w1 w2):Kp X n ts w w2:=⟨nLT h.1 g.1,fun k hk=>by
 rcases h.2 k hk with e|e
 ·rcases g.2 k hk with e2|e2|⟨t,cs,e2,hs⟩
  ·exact .inl (e2.trans e)
  ·exact .inr (.inl e2)
  ·exact .inr (.inr ⟨t,cs,e.symm.trans e2,hs⟩)
 ·exact .inr e⟩
theorem Kp.of{Z:List Nat}(hs:Same Z w w1)(hn:n<=w.heap.size)(hx:∀ g∈Z,n<=g\/g∈X\/∃ t cs,Blk w g t cs/\Sp ts t cs):Kp X n ts w w1:=⟨hs.size,fun k hk=>by
 by_cases e:k∈Z
 ·rcases hx k e with h|h
  ·omega
  ·exact .inr h
 ·exact .inl (hs.blk k oG e)⟩
structure Fz(X:List Nat)(n:Nat)(ts:List Nat)(w:World)(P:World->Prop):Prop where
 le:n<=w.heap.size
 all:∀ w2,Kp X n ts w w2->P w2
theorem Fz.step(h:Fz X n ts w P)(hk:Kp X n ts w w1):Fz X n ts w1 P:=⟨nLT h.le hk.1,fun w2 h2=>h.all w2 (hk.trans h2)⟩
theorem Fz.now(h:Fz X n ts w P):P w:=h.all w (Kp.refl _ _ _ _)
theorem Fz.trX{Z:List Nat}(h:Fz X n ts w P)(hs:Same Z w w1)(hx:∀ g∈Z,n<=g\/g∈X\/∃ t cs,Blk w g t cs/\Sp ts t cs):Fz X n ts w1 P:=h.step (Kp.of hs h.le hx)
theorem Fz.tr0(h:Fz X n ts w P)(hs:Same [] w w1):Fz X n ts w1 P:=h.trX hs (by simp)
theorem Fz.bel(h:Fz X n ts w P)(hb:Bel w w1):Fz X n ts w1 P:=h.tr0 (sB hb)
theorem Fz.in1(h:Fz X n ts w P)(hs:Same [b] w w1)(hb:b∈X):Fz X n ts w1 P:=h.trX hs (fun g hg=> .inr (.inl (by rw[List.mem_singleton.1 hg];exact hb)))
theorem Fz.sp1{t:Nat}(h:Fz X n ts w P)(hs:Same [b] w w1)(hb:Blk w b t cs)(ht:Sp ts t cs):Fz X n ts w1 P:=h.trX hs (fun g hg=> .inr (.inr ⟨t,cs,by rw[List.mem_singleton.1 hg];exact hb,ht⟩))
theorem sp_tm{ts:List Nat}:Sp ts 64 cE:= .inr (.inr ⟨rfl,rfl⟩)
theorem Fz.free{t:Nat}(h:Fz X n ts w P)(hs:Same [b] w w1)(hb:Blk w b t cs)(ht:Sp ts t cs):Fz (b::X) n ts w1 P:=⟨nLT h.le hs.size,fun w2 h2=>h.all w2 ⟨nLT hs.size h2.1,fun k hk=>by
 by_cases e:k=b
 ·grind
 have e1:=hs.blk k (nLL hk h.le) (by simpa using e)
 rcases h2.2 k hk with e2|e2|⟨t',cs',e2,hs2⟩
 ·grind
 ·grind
 ·exact .inr (.inr ⟨t',cs',e1.symm.trans e2,hs2⟩)⟩⟩
theorem Fz.mono(h:Fz X n ts w P)(hm:n<=m)(hw:m<=w.heap.size):Fz X m ts w P:=⟨hw,fun w2 h2=>h.all w2 ⟨h2.1,fun k hk=>h2.2 k oG⟩⟩
theorem Fz.up(h:Fz X n ts w P):Fz X w.heap.size ts w P:=h.mono h.le (ae _)
theorem Fz.less(h:Fz Y n ts w P)(hs:∀ x∈X,x∈Y):Fz X n ts w P:=⟨h.le,fun w2 h2=>h.all w2 ⟨h2.1,fun k hk=>by
 rcases h2.2 k hk with e|e|e
 ·exact .inl e
 ·exact .inr (.inl (hs k e))
 ·exact .inr (.inr e)⟩⟩
theorem Fz.addX(h:Fz X n ts w P)(hy:∀ y∈Y,y∈X\/n<=y):Fz Y n ts w P:=⟨h.le,fun w2 h2=>h.all w2 ⟨h2.1,fun k hk=>by
 rcases h2.2 k hk with e|e|e
 ·exact .inl e
 ·rcases hy k e with h3|h3
  ·exact .inr (.inl h3)
  ·omega
 ·exact .inr (.inr e)⟩⟩
theorem Fz.nil(h:Fz X n ts w P):Fz [] n ts w P:=h.less (by simp)
theorem Fz.sub(h:Fz X n us w P)(hs:∀ t∈ts,t∈us):Fz X n ts w P:=⟨h.le,fun w2 h2=>h.all w2 ⟨h2.1,fun k hk=>by
 rcases h2.2 k hk with e|e|⟨t,cs,r,q⟩
 ·exact .inl e
 ·grind
 ·refine .inr (.inr ⟨t,cs,r,?_⟩)
  rcases q with q|q
  ·exact .inl (hs t q)
  ·exact .inr q⟩⟩
theorem Fz.imp(h:Fz X n ts w P)(hi:∀ w,P w->Q w):Fz X n ts w Q:=⟨h.le,fun w2 h2=>hi w2 (h.all w2 h2)⟩
theorem Fz.and(h:Fz X n ts w P)(g:Fz X m ts w Q):Fz X w.heap.size ts w (fun w=>P w/\Q w):=⟨ae _,fun w2 h2=>⟨h.up.all w2 h2,g.up.all w2 h2⟩⟩
theorem Fz.triv(X:List Nat)(w:World)(ts:List Nat)(h:∀ w,P w):Fz X w.heap.size ts w P:=⟨ae _,fun w2 _=>h w2⟩
theorem Fz.blk{t:Nat}(h:Blk w b t cs)(hx:b∉X)(ht:¬Sp ts t cs):Fz X w.heap.size ts w (fun w=>Blk w b t cs):=⟨ae _,fun w2 h2=>by
 rcases h2.2 b h.lt with e|e|⟨t',cs',e,hs⟩
 ·exact e.trans h
 ·exact absurd e hx
 ·have he:(some (Obj.cells cs t (0,0)))=some (.cells cs' t' (0,0)):=h.symm.trans e
  injection he with he
  injection he with e1 e2
  subst e1;subst e2
  exact absurd hs ht⟩
end kp
def TS:List Nat:=[66,88,32]
def SmD(X:List Nat)(τ:Ts)(w:World)(v:Value):Prop:=∃ A c n,v= .agg #[.string τ.sm.base,.slice A τ.sm.args.length c]/\Fz X n TS w (fun w=>SimsIn w A τ.sm.args)
def TmD(X:List Nat)(x:Tv)(w:World)(v:Value):Prop:=∃ S cs B cb n,v= .agg #[.int .i64 x.tm.kind,.string x.tm.name,.int .i64 x.tm.index,.string x.tm.type.base,.slice S x.tm.type.args.length cs,.slice B x.tm.args.length cb]/\Fz X n TS w (fun w=>SimsIn w S x.tm.type.args/\TmsIn w B x.tm.args)
theorem SmD.tr0{X:List Nat}{τ:Ts}{w w1:World}{v:Value}(h:SmD X τ w v)(hs:Same [] w w1):SmD X τ w1 v:=by
 obtain⟨A,c,n,e,hz⟩:=h;exact⟨A,c,n,e,hz.tr0 hs⟩
theorem TmD.tr0{X:List Nat}{x:Tv}{w w1:World}{v:Value}(h:TmD X x w v)(hs:Same [] w w1):TmD X x w1 v:=by
 obtain⟨A,c,B,m,n,e,hz⟩:=h;exact⟨A,c,B,m,n,e,hz.tr0 hs⟩
theorem sims_two{t:Nat}{s1 s2:Sm}(h:Blk w b t #[.string s1.base,.slice A1 s1.args.length c1,.string s2.base,.slice A2 s2.args.length c2])(h1:SimsIn w A1 s1.args)(h2:SimsIn w A2 s2.args):SimsIn w (some ⟨b,0,none⟩) [s1,s2]:=by
 cases s1 with
 | mk b1 a1=>
  cases s2 with
  | mk b2 a2=>
   refine .more (by show 2<=vJ;decide) h.lt (fun k hk=>?_)
   match k,hk with
   | 0,_=>exact SimAt.mk (A:=A1) (c:=c1) h.lt (h.range (fun j v hj=>by match j,hj with|0,hj=>cases hj;rfl|1,hj=>cases hj;rfl|_+2,hj=>cases hj)) h1
   | 1,_=>exact SimAt.mk (A:=A2) (c:=c2) h.lt (h.range (fun j v hj=>by match j,hj with|0,hj=>cases hj;rfl|1,hj=>cases hj;rfl|_+2,hj=>cases hj)) h2
def tmC(t:Tm)(S B:Option Addr)(cs cb:Nat):List Value:=[.int .i64 t.kind,.string t.name,.int .i64 t.index,.string t.type.base,.slice S t.type.args.length cs,.slice B t.args.length cb]
theorem tm_at{t:Tm}{cs:Nat}(hb:b<w.heap.size)(h:w.rangeAt b o (tmC t S B cs cb))(h1:SimsIn w S t.type.args)(h2:TmsIn w B t.args):TmAt w b o t:=by
 cases t with
 | mk k nm i s a=>exact .mk hb h h1 h2
theorem K7{t:Nat}{l:List Value}(h:Blk w b t cs)(ho:∀ j v,l[j]? =some v->cs[o+j]? =some v):w.rangeAt b o l:=h.range (fun j v hj=>ho j v hj)
theorem tms_one{t:Nat}{x:Tm}{cs:Nat}(h:Blk w b t (tmC x S B cs cb).toArray)(h1:SimsIn w S x.type.args)(h2:TmsIn w B x.args):TmsIn w (some ⟨b,0,none⟩) [x]:=
 .more (by show 1<=vJ;decide) h.lt (fun k hk=>by
  match k,hk with
  | 0,_=>exact tm_at h.lt (K7 h (fun j v hj=>by simpa using hj)) h1 h2)
theorem tms_two{t:Nat}{x y:Tm}{S' B':Option Addr}{cs cs' cb':Nat}(h:Blk w b t (tmC x S B cs cb++tmC y S' B' cs' cb').toArray)(h1:SimsIn w S x.type.args)(h2:TmsIn w B x.args)(h3:SimsIn w S' y.type.args)(h4:TmsIn w B' y.args):TmsIn w (some ⟨b,0,none⟩) [x,y]:=
 .more (by show 2<=vJ;decide) h.lt (fun k hk=>by
  match k,hk with
  | 0,_=>exact tm_at h.lt (K7 h (fun j v hj=>by
   have hl:j<6:=(aC.1 hj).1
   rw[List.getElem?_toArray,List.getElem?_append_left (by show 0+j<6;omega),Nat.zero_add];exact hj)) h1 h2
  | 1,_=>exact tm_at h.lt (K7 h (fun j v hj=>by
   rw[List.getElem?_toArray,List.getElem?_append_right (by show 6<=0+1*6+j;omega),show 0+1*6+j-(tmC x S B cs cb).length=j by show 0+1*6+j-6=j;omega];exact hj)) h3 h4)
theorem tv_kind(x:Tv):x.tm.kind≠0:=by cases x<;>simp[Tv.tm,Tm.kind]
theorem nsp_sm{s1 s2:Sm}{m1 m2:Nat}:¬Sp TS 61 #[.string s1.base,.slice A1 m1 c1,.string s2.base,.slice A2 m2 c2]:=by
 rintro (h|⟨_,h⟩|⟨h,_⟩)
 ·revert h;decide
 ·exact absurd (show (4:Nat)=2 from congrArg Array.size h) dE
 ·revert h;decide
theorem nsp_tm{x:Tv}{l:List Value}:¬Sp TS 64 (Value.int .i64 x.tm.kind::l).toArray:=by
 rintro (h|⟨h,_⟩|⟨_,h⟩)
 ·revert h;decide
 ·revert h;decide
 ·have h2:=congrArg (fun a:Array Value=>a[0]?) h
  simp[zTm]at h2;exact tv_kind x h2
section mk
variable {X:List Nat} {w:World}
theorem SmD.two{a b:Ts}{g:Nat}{n1 n2:Nat}(h:Blk w g 61 #[.string a.sm.base,.slice A1 a.sm.args.length c1,.string b.sm.base,.slice A2 b.sm.args.length c2])(hg:g∉X)(h1:Fz X n1 TS w (fun w=>SimsIn w A1 a.sm.args))(h2:Fz X n2 TS w (fun w=>SimsIn w A2 b.sm.args)):SmD X (.f a b) w (.agg #[.string ⟨#[]⟩,.slice (some ⟨g,0,none⟩) 2 2]):=
 ⟨_,2,_,rfl,((Fz.blk h hg nsp_sm).and (h1.and h2)).imp (fun _ h=>sims_two h.1 h.2.1 h.2.2)⟩
theorem TmD.con(nm:ByteArray){τ:Ts}{A:Option Addr}{c n:Nat}(h:Fz X n TS w (fun w=>SimsIn w A τ.sm.args)):TmD X (.con nm τ) w (.agg #[.int .i64 1,.string nm,.int .i64 0,.string τ.sm.base,.slice A τ.sm.args.length c,.slice none 0 0]):=
 ⟨A,c,none,0,n,rfl,h.imp (fun _ h=>⟨h,.nil⟩)⟩
theorem TmD.var(i:Nat):TmD X (.var i) w (.agg #[.int .i64 2,.string ⟨#[]⟩,.int .i64 i,.string ⟨#[]⟩,.slice none 0 0,.slice none 0 0]):=
 ⟨none,0,none,0,w.heap.size,rfl,Fz.triv X w TS (fun _=>⟨.nil,.nil⟩)⟩
theorem TmD.abs{τ:Ts}{x:Tv}{g:Nat}{A S B:Option Addr}{c n cs cb m:Nat}(h:Fz X n TS w (fun w=>SimsIn w A τ.sm.args))(hg:Blk w g 64 #[.int .i64 x.tm.kind,.string x.tm.name,.int .i64 x.tm.index,.string x.tm.type.base,.slice S x.tm.type.args.length cs,.slice B x.tm.args.length cb])(hgx:g∉X)(hx:Fz X m TS w (fun w=>SimsIn w S x.tm.type.args/\TmsIn w B x.tm.args)):TmD X (.abs τ x) w (.agg #[.int .i64 3,.string ⟨#[]⟩,.int .i64 0,.string τ.sm.base,.slice A τ.sm.args.length c,.slice (some ⟨g,0,none⟩) 1 1]):=
 ⟨A,c,_,1,_,rfl,((Fz.blk hg hgx nsp_tm).and (h.and hx)).imp (fun _ h=>⟨h.2.1,tms_one h.1 h.2.2.1 h.2.2.2⟩)⟩
theorem TmD.app{x y:Tv}{g:Nat}{S B S' B':Option Addr}{cs cb m cs' cb' m':Nat}(hg:Blk w g 64 #[.int .i64 x.tm.kind,.string x.tm.name,.int .i64 x.tm.index,.string x.tm.type.base,.slice S x.tm.type.args.length cs,.slice B x.tm.args.length cb,.int .i64 y.tm.kind,.string y.tm.name,.int .i64 y.tm.index,.string y.tm.type.base,.slice S' y.tm.type.args.length cs',.slice B' y.tm.args.length cb'])(hgx:g∉X)(hx:Fz X m TS w (fun w=>SimsIn w S x.tm.type.args/\TmsIn w B x.tm.args))(hy:Fz X m' TS w (fun w=>SimsIn w S' y.tm.type.args/\TmsIn w B' y.tm.args)):TmD X (.app x y) w (.agg #[.int .i64 4,.string ⟨#[]⟩,.int .i64 0,.string ⟨#[]⟩,.slice none 0 0,.slice (some ⟨g,0,none⟩) 2 2]):=
 ⟨none,0,_,2,_,rfl,((Fz.blk hg hgx nsp_tm).and (hx.and hy)).imp (fun _ h=>⟨.nil,tms_two h.1 h.2.1.1 h.2.1.2 h.2.2.1 h.2.2.2⟩)⟩
end mk
inductive TmCs(n:Nat)(w:World):List Tv->List Value->Prop
 | nil:TmCs n w [] []
 | cons {x:Tv} {S B:Option Addr} {cs cb:Nat} {l:List Tv} {vs:List Value} (h:Fz [] n TS w (fun w=>SimsIn w S x.tm.type.args/\TmsIn w B x.tm.args)) (t:TmCs n w l vs):TmCs n w (x::l) (.int .i64 x.tm.kind:: .string x.tm.name:: .int .i64 x.tm.index:: .string x.tm.type.base:: .slice S x.tm.type.args.length cs:: .slice B x.tm.args.length cb::vs)
theorem TmCs.tr0{n:Nat}{w w1:World}{l:List Tv}{vs:List Value}(h:TmCs n w l vs)(hs:Same [] w w1):TmCs n w1 l vs:=by
 induction h with
 | nil=>exact .nil
 | cons h _ ih=>exact .cons (h.tr0 hs) ih
theorem TmCs.get{n:Nat}{l:List Tv}{vs:List Value}(h:TmCs n w l vs):∀ k (hk:k<l.length),∃ S B cs cb,(∀ j v,(tmC (l[k]).tm S B cs cb)[j]? =some v->vs[k*6+j]? =some v)/\Fz [] n TS w (fun w=>SimsIn w S (l[k]).tm.type.args/\TmsIn w B (l[k]).tm.args):=by
 induction h with
 | nil=>intro k hk;simp at hk
 | @cons x S B cs cb l vs h t ih=>
  intro k hk
  match k,hk with
  | 0,_=>
   refine⟨S,B,cs,cb,fun j v hj=>?_,h⟩
   match j,hj with
   | 0,hj=>exact hj
   | 1,hj=>exact hj
   | 2,hj=>exact hj
   | 3,hj=>exact hj
   | 4,hj=>exact hj
   | 5,hj=>exact hj
   | _+6,hj=>cases hj
  | k+1,hk=>
   obtain⟨S',B',cs',cb',h1,h2⟩:=ih k (by simpa using hk);refine⟨S',B',cs',cb',fun j v hj=>?_,h2⟩
   grind
theorem TmCs.at_{n t:Nat}{l:List Tv}{vs:List Value}(h:TmCs n w l vs)(hb:Blk w b t vs.toArray)(hk:k<l.length):∃ S B cs cb,w.rangeAt b (0+k*6) [.int .i64 (l[k]).tm.kind,.string (l[k]).tm.name,.int .i64 (l[k]).tm.index,.string (l[k]).tm.type.base,.slice S (l[k]).tm.type.args.length cs,.slice B (l[k]).tm.args.length cb]/\Fz [] n TS w (fun w=>SimsIn w S (l[k]).tm.type.args/\TmsIn w B (l[k]).tm.args):=by
 obtain⟨S,B,cs,cb,h1,h2⟩:=h.get k hk;exact⟨S,B,cs,cb,K7 hb (fun j v hj=>by rw[List.getElem?_toArray,Nat.zero_add];exact h1 j v hj),h2⟩
end
end Go.Proofs.YtmfiholmfieieaaDoor
