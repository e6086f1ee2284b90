/- What these functions compute, at every world: (*unify.pool).find, slices.Grow[[]api.Link,api.Link], slices.Concat[[]api.Link,api.Link], (*unify.pool).add; and plain laws. -/
import Derived.Test.YtmfiholmfieieaaDoorGro
import Derived.Test.YtmfiholmfieieaaDoorUni
import Derived.Test.YtmfiholmfieieaaDoorU
import Derived.Test.YtmfiholmfieieaaDoorZst
namespace Go.Proofs.YtmfiholmfieieaaDoor
open Go.RowKit
variable {A:Option Addr}{P:Nat->Nat}{bs k lo m n:Nat}{v:Value}{w:World}{xs:List (Int×Int)}
theorem Own.rowq{base q cap:Nat}{e:TypeId}{g:Nat->Value}(h:Own w base e 1 (some ⟨q,0,none⟩) m cap (vQ m g)){j:Nat}(hj:j<m):w.cell? ⟨q,0+j*1,none⟩=some (g j):=by
 obtain⟨q',h1,_,_,h2⟩:=h.rowc hj;cases h1;exact h2
def vN(P:Nat->Nat)(x:Nat):Value:= .int .i64 ((P x:Nat):Int)
def vI(T:Nat->Int)(x:Nat):Value:= .int .i64 (T x)
theorem XX(xs:List (Int×Int)):(lnV xs).length=xs.length*2:=by
 induction xs with
 | nil=>rfl
 | cons x xs ih=>rw[show lnV (x::xs)= [Value.int .i64 x.1,Value.int .i64 x.2]++lnV xs from rfl,List.length_append,ih];simp;omega
theorem lnV_one(xs:List (Int×Int)):(lnV xs).all (·.oneCell')=true:=by
 induction xs with
 | nil=>rfl
 | cons x xs ih=>rw[show lnV (x::xs)= [Value.int .i64 x.1,Value.int .i64 x.2]++lnV xs from rfl,List.all_append,ih];rfl
theorem lnV_app(xs ys:List (Int×Int)):lnV (xs++ys)=lnV xs++lnV ys:=by simp[lnV]
theorem lnV_take(xs:List (Int×Int))(k:Nat):(lnV xs).take (k*2)=lnV (xs.take k):=by
 induction xs generalizing k with
 | nil=>simp[lnV]
 | cons x xs ih=>
  cases k with
  | zero=>simp[lnV]
  | succ k=>
   rw[show (k+1)*2=k*2+1+1 from by omega,show lnV (x::xs)=Value.int .i64 x.1::Value.int .i64 x.2::lnV xs from rfl,List.take_succ_cons,List.take_succ_cons,ih];rfl
theorem LinksIn.news(h:LinksIn w A xs):0<xs.length->∃ b o',A=some ⟨b,o',none⟩/\∀ j u,(lnV xs)[j]? =some u->w.cell? ⟨b,o'+j,none⟩=some u:=fun hm=>by
 obtain⟨b,o,rfl,_,hc⟩:=h.2 (fun e=>by rw[e]at hm;simp at hm)
 refine⟨b,o,rfl,fun j u hu=>?_⟩
 have hj:j<xs.length*2:=by
  have:=(aC.1 hu).1
  rwa[XX]at this
 have hk:j/2<xs.length:=by omega
 have h2:=Vz xs (j/2) hk;have h3:=hc (j/2) hk;rcases Nat.mod_two_eq_zero_or_one j with e|e
 ·have e2:j=j/2*2:=by omega
  rw[e2]at hu;rw[h2.1]at hu;cases hu;have:=h3 0 (.int .i64 (xs[j/2]).1) rfl;rw[show o+j=o+j/2*2+0 by omega];exact this
 ·have e2:j=j/2*2+1:=by omega
  rw[e2]at hu;rw[h2.2]at hu;cases hu;have:=h3 1 (.int .i64 (xs[j/2]).2) rfl;rw[show o+j=o+j/2*2+1 by omega];exact this
def Suf(w:World)(lo bs:Nat)(v:Value)(xs:List (Int×Int)):Prop:=∃(A0:Option Addr) (c0 k:Nat) (ys:List (Int×Int)) (A:Option Addr),RowO w lo bs (.slice A0 ys.length c0) ys/\k<=ys.length/\xs=ys.drop k/\v= .slice A xs.length (c0-k)/\(xs≠[]->∃ g,A0=some ⟨g,0,none⟩/\A=some ⟨g,k*2,none⟩)
theorem Suf.tr{w w':World}{lo bs:Nat}{v:Value}{xs:List (Int×Int)}{X:List Nat}(h:Suf w lo bs v xs)(hs:Same X w w')(hx:∀ g∈X,bs<=g\/∃ cs t,Blk w g t cs/\t≠109):Suf w' lo bs v xs:=by
 obtain⟨A0,c0,k,ys,A,h1,h2⟩:=h;exact⟨A0,c0,k,ys,A,h1.tr hs hx,h2⟩
theorem Suf.c{w':World}{X:List Nat}(h:Suf w lo bs v xs)(hs:Same X w w')(hx:∀ g∈X,bs<=g\/∃ cs t,Blk w g t cs/\t≠109:=by first|(simp;done)|(intro g hg;rw[List.mem_singleton.1 hg];first|exact .inr ⟨_,_,by assumption,by decide⟩|exact .inl oG)|(intro g hg;first|exact .inl (by have:=(Own.lt (by assumption) g hg).1;omega)|exact .inr (Own.typ9 (by assumption) dE g hg))):Suf w' lo bs v xs:=h.tr hs hx
theorem RowO.own{c:Nat}(h:RowO w lo bs (.slice A n c) xs):n=xs.length/\Own w lo 109 2 A xs.length c (lnV xs)/\∀ g∈aL A,g<bs:=by
 obtain⟨A',c',e,h1,h2⟩:=h;cases e;exact⟨rfl,h1,h2⟩
theorem Suf.of(h:RowO w lo bs v xs):Suf w lo bs v xs:=by
 obtain⟨A,c,rfl,h1,h2⟩:=h;refine⟨A,c,0,xs,A,⟨A,c,rfl,h1,h2⟩,ad _,rfl,rfl,fun hne=>?_⟩;obtain⟨g,hg,_⟩:=h1.cell (fun e=>hne (by have:=congrArg List.length e;rw[XX]at this;exact aI.1 (by simp at this;omega)));exact⟨g,hg,by rw[hg,Nat.zero_mul]⟩
structure SufC(w:World)(lo bs:Nat)(A:Option Addr)(n c:Nat)(x:Int×Int)(xs:List (Int×Int)):Prop where
 len:n=xs.length+1
 at_:∃ g o,A=some ⟨g,o,none⟩/\g<w.heap.size/\w.rangeAt g o [.int .i64 x.1,.int .i64 x.2]
 next:Suf w lo bs (.slice (if c=1 then A else A.map (·.add (1*2))) (n-1) (c-1)) xs
theorem Suf.slice{w:World}{lo bs:Nat}{v:Value}{xs:List (Int×Int)}(h:Suf w lo bs v xs):∃ A c,v= .slice A xs.length c:=by
 obtain⟨A0,c0,k,ys,A,h1,h2,h3,h4,h5⟩:=h;exact⟨A,c0-k,h4⟩
theorem Suf.cons{w:World}{lo bs n c:Nat}{A:Option Addr}{x:Int×Int}{xs:List (Int×Int)}(h:Suf w lo bs (.slice A n c) (x::xs)):SufC w lo bs A n c x xs:=by
 obtain⟨A0,c0,k,ys,A',h1,h2,h3,h4,h5⟩:=h;obtain⟨g,e0,e1⟩:=h5 (by simp);cases h4;subst e0;obtain⟨_,ho,hb⟩:=h1.own;have hcl:=ho.cap_le;have hk:k<ys.length:=by
  have:=congrArg List.length h3;simp at this;omega
 have hx:ys[k]=x:=by
  have h6:(ys.drop k)[0]? =some x:=by rw[<- h3];rfl
  rw[List.getElem?_drop,Nat.add_zero,List.getElem?_eq_getElem hk]at h6;exact Option.some.inj h6
 have hxs:xs=ys.drop (k+1):=by
  have:(x::xs).tail=(ys.drop k).tail:=by rw[h3]
  simpa[List.tail_drop]using this
 obtain⟨q,e2,_,hql,hqc⟩:=ho.cell (fun e=>by have:=congrArg List.length e;rw[XX]at this;simp at this;omega);cases e2;have h7:=Vz ys k hk;rw[hx]at h7;refine⟨by simp,⟨g,k*2,e1,hql,fun j v hj=>?_⟩,?_⟩
 ·match j,hj with
  | 0,hj=>cases hj;exact hqc _ _ h7.1
  | 1,hj=>cases hj;exact hqc _ _ h7.2
  | _+2,hj=>cases hj
 ·subst e1
  refine⟨some ⟨g,0,none⟩,c0,k+1,ys,(if c0-k=1 then some (⟨g,k*2,none⟩:Addr)else Option.map (fun z:Addr=>z.add (1*2)) (some (⟨g,k*2,none⟩:Addr))),h1,by omega,hxs,?_,fun hne=>⟨g,rfl,?_⟩⟩
  ·rw[show (x::xs).length-1=xs.length by simp,show c0-k-1=c0-(k+1) by omega]
  ·have hl:0<xs.length:=List.length_pos_iff.2 hne
   have:xs.length=ys.length-(k+1):=by rw[hxs];simp
   rw[if_neg oG];show some ((⟨g,k*2,none⟩:Addr).add (1*2))=_;rw[Addr.add_mid,show k*2+1*2=(k+1)*2 by omega]
theorem Suf.links{c:Nat}(h:Suf w lo bs (.slice A n c) xs):n=xs.length/\LinksIn w A xs:=by
 obtain⟨A0,c0,k,ys,A',h1,h2,h3,h4,h5⟩:=h;cases h4;obtain⟨_,ho,hb⟩:=h1.own;have hm:=ho.max;have hl:xs.length=ys.length-k:=by rw[h3];simp
 refine⟨rfl,by unfold vJ;omega,fun hne=>?_⟩;obtain⟨g,e0,e1⟩:=h5 hne;subst e0;have hp:0<xs.length:=List.length_pos_iff.2 hne;obtain⟨q,e2,_,hql,hqc⟩:=ho.cell (fun e=>by have:=congrArg List.length e;rw[XX]at this;simp at this;omega);cases e2;refine⟨g,k*2,e1,hql,fun j hj i v hi=>?_⟩;have hjk:k+j<ys.length:=by omega
 have h7:=Vz ys (k+j) hjk;have hx:xs[j]=ys[k+j]:=by simp only[h3,List.getElem_drop]
 rw[hx]at hi
 match i,hi with
 | 0,hi=>cases hi;rw[show k*2+j*2+0=(k+j)*2 by omega];exact hqc _ _ h7.1
 | 1,hi=>cases hi;rw[show k*2+j*2+1=(k+j)*2+1 by omega];exact hqc _ _ h7.2
 | _+2,hi=>cases hi
theorem RowO.links{w:World}{lo bs n c:Nat}{A:Option Addr}{xs:List (Int×Int)}(h:RowO w lo bs (.slice A n c) xs):n=xs.length/\LinksIn w A xs:=(Suf.of h).links
def LMat(w:World)(A:Option Addr)(L:List (List (Int×Int))):Prop:=L.length<=vJ/\(L≠[]->∃ b o,A=some ⟨b,o,none⟩/\b<w.heap.size/\∀ k (hk:k<L.length),∃ A' c',w.cell? ⟨b,o+k*1,none⟩=some (.slice A' (L[k]).length c')/\LinksIn w A' L[k])
theorem GQ{b t:Nat}{A1 A2 A3:Option Addr}{c1 c2 c3:Nat}{p q r:List (Int×Int)}(h:Blk w b t #[.slice A1 p.length c1,.slice A2 q.length c2,.slice A3 r.length c3])(h1:LinksIn w A1 p)(h2:LinksIn w A2 q)(h3:LinksIn w A3 r):LMat w (some ⟨b,0,none⟩) [p,q,r]:=
 ⟨by simp[vJ],fun _=>⟨b,0,rfl,h.lt,fun k hk=>by
  match k,hk with
  | 0,_=>exact⟨A1,c1,h.cell rfl,h1⟩
  | 1,_=>exact⟨A2,c2,h.cell rfl,h2⟩
  | 2,_=>exact⟨A3,c3,h.cell rfl,h3⟩⟩⟩
theorem LMat.mono{w w':World}{A:Option Addr}{L:List (List (Int×Int))}(h:LMat w A L)(hb:Bel w w'):LMat w' A L:=
 ⟨h.1,fun hne=>by
  obtain⟨b,o,h1,h2,h3⟩:=h.2 hne
  refine⟨b,o,h1,nLL h2 hb.size,fun k hk=>?_⟩
  obtain⟨A',c',h4,h5⟩:=h3 k hk
  exact⟨A',c',hb.cell h2 h4,h5.mono hb⟩⟩
theorem LMat.at_{w':World}{L:List (List (Int×Int))}(h:LMat w A L)(hb:Bel w w')(hk:k<L.length):∃ b o A' c',A=some ⟨b,o,none⟩/\w'.cell? ⟨b,o+k*1,none⟩=some (.slice A' (L[k]).length c')/\LinksIn w' A' L[k]:=by
 obtain⟨b,o,h1,h2,h3⟩:=h.2 (fun e=>by rw[e]at hk;exact absurd hk (aw _));obtain⟨A',c',h4,h5⟩:=h3 k hk;exact⟨b,o,A',c',h1,hb.cell h2 h4,h5.mono hb⟩
def Pv(L:List (List (Int×Int)))(k:Nat):Nat:=(L.take k).flatten.length
theorem Ik{L:List (List (Int×Int))}(hk:k<L.length):(L.take (k+1)).flatten=(L.take k).flatten++L[k]:=by
 rw[List.take_succ_eq_append_getElem hk,List.flatten_append];simp
theorem B8{L:List (List (Int×Int))}(hk:k<L.length):Pv L (k+1)=Pv L k+(L[k]).length:=by
 unfold Pv;rw[Ik hk,List.length_append]
theorem sumM_le(L:List (List (Int×Int)))(k:Nat):Pv L k<=L.flatten.length:=by
 unfold Pv;have h:L.flatten=(L.take k).flatten++(L.drop k).flatten:=by rw[<- List.flatten_append,List.take_append_drop]
 rw[h,List.length_append];omega
theorem F7{L:List (List (Int×Int))}(h:L.length<=k):(L.take k).flatten=L.flatten:=by rw[List.take_of_length_le h]
theorem YX:(Tryd.prog.info? 36).map (·.size)=some 1:=by kernel_rfl
set_option maxHeartbeats 1000000 in
theorem Y9{ob bp cp ct cl i:Nat}{PA TA LA:Option Addr}{c0 c1:Value}{rep ρ:Nat->Nat}(w:World)(a2:Blk w bp 132 #[c0,c1,.slice PA n cp,.slice TA n ct,.slice LA n cl])(a1:Own w ob 3 1 PA n cp (vQ n (vN P)))(hbo:bp<ob)(hu:UF n P rep ρ)(hi:i<n):Calls Tryd.prog 81 #[.pointer (some ⟨bp,0,none⟩),.int .i64 (i:Nat)] w fun e w'=>∃ P',e= .returned (.int .i64 ((rep i:Nat):Int))/\Own w' ob 3 1 PA n cp (vQ n (vN P'))/\UF n P' rep ρ/\Same (aL PA) w w':=by
 obtain⟨q,rfl,hqb,hql,_⟩:=a1.rowc hi;have hS:SameQ [q] w w:=Same.refl _ _;have hnm:=a1.max;refine enter Tryd.func81 Tryd.ntmps81 rfl (aE rfl) (zn7 ?_);refine qk (rgq [1] 5 35) (fun m g w'=>∃(j:Nat) (Q:Nat->Nat),j<n/\m=ρ j/\g 1= .int .i64 (j:Nat)/\Blk w' bp 132 #[c0,c1,.slice (some ⟨q,0,none⟩) n cp,.slice TA n ct,.slice LA n cl]/\Own w' ob 3 1 (some ⟨q,0,none⟩) n cp (vQ n (vN Q))/\SameQ [q] w w'/\UF n Q rep ρ/\rep j=rep i) (ρ i) ?_ (fun m g1 w1 hI=>?_)
 ·exact⟨i,P,hi,rfl,rfl,a2,a1,hS,hu,rfl⟩
 obtain⟨j,Q,hj,hm,h1,a2,a1,hS,hu,hrj⟩:=hI;refine zZ 1 _ h1 nu (zn3 ?_);refine wl (x7 (v:= .pointer (some _)) rfl) (wl (Qk rfl) (zn3 ?_));refine wl (xW (i:=j) U36 xv rfl rfl hj rfl) (wl (qW (v:= .int _ _) U3 rfl rfl (a1.rowq hj)) (zn4 ?_));refine zK rfl (fun c13=>?_) (fun c13=>?_)
 ·have hne:Q j≠j:=fun e=>c13 (by rw[e])
  have hu2:=hu.half hj hne;have hlt:ρ (Q (Q j))<ρ j:=by
   have h1:=hu.ex j hj hne;by_cases e:Q (Q j)=Q j
   ·rw[e];exact h1
   ·exact Nat.lt_trans (hu.ex _ (hu.lt j hj) e) h1
  have hq1:=hu.lt j hj;obtain⟨g0,cur,hA0,_,a4,hszA,hrdA,a3⟩:=a1.open_ oG;cases hA0;refine zn4 ?_;refine K6 19 kR kR (fun w2 s1=>?_);replace hS:=SameQ.trans hS s1 (by simp);refine ws (x7 (v:= .pointer (some _)) rfl) (ws (Qk rfl) (zn3 ?_));refine ws (x7 (v:= .pointer (some _)) rfl) (ws (Qk rfl) (zn2 ?_));refine ws (x7 (v:= .pointer (some _)) rfl) (ws (Qk rfl) (zn3 ?_));refine ws (xW (i:=j) U36 xv rfl rfl hj rfl) ?_;replace a1:=a1.tr0 s1;refine ws (qW (v:= .int _ _) U3 rfl rfl (a1.rowq hj)) (ws (xW (i:=(Q j)) U36 xv rfl rfl hq1 rfl) (ws (qW (v:= .int _ _) U3 rfl rfl (a1.rowq hq1)) (ws (xW (i:=j) U36 xv rfl rfl hj rfl) (Jy ?_))));refine xj (v:= .int _ _) a4.u rfl rfl xv oG rfl rfl (fun w3 hq s2=>?_);replace hS:=SameQ.trans hS s2 (by simp);replace a4:=hq;have a1:Own w3 ob 3 1 (some ⟨q,0,none⟩) n cp (vQ n (vN (VJ Q j (Q (Q j))))):=by
   have h:=a3 _ _ _ a4;rw[show 0+j*1=j by omega,Mk,ux (g':=vN (VJ Q j (Q (Q j)))) (fun x _=>by by_cases e:x=j<;>simp[vN,VJ,e])]at h;exact h
  refine zn3 ?_;refine wl (x7 (v:= .pointer (some _)) rfl) (wl (Qk rfl) (zn3 ?_));refine wl (xW (i:=j) U36 xv rfl rfl hj rfl) (wl (qW (v:= .int _ _) U3 rfl rfl (by have h:=a1.rowq hj;unfold vN at h;rw[uQ]at h;exact h)) (zn3 ?_));refine xY (ρ (Q (Q j))) oG agA ?_;replace a2:=(a2.tr0 s1).tr1 s2 oG;exact⟨Q (Q j),VJ Q j (Q (Q j)),hu.lt _ (hu.lt j hj),rfl,rfl,a2,a1,hS,hu2,by rw[hu.rp _ (hu.lt j hj),hu.rp j hj];exact hrj⟩
 have heq:Q j=j:=by omega
 have hfx:=hu.fx j hj heq;refine Zv ?_;exact⟨Q,YY (by rw[<- hrj,hfx]),a1,hu,by simpa[aL,SameQ]using hS⟩
theorem growl_any(k:Nat)(w:World)(hk:k<=8796093022208):Calls Tryd.prog 95 #[.slice none 0 0,.int .i64 k] w fun e w'=>(∃ A cap,e= .returned (.slice A 0 cap)/\Own w' w.heap.size 109 2 A 0 cap [])/\Bel w w':=by
 refine enT Tryd.func95 Tryd.ntmps95 rfl rfl fun hB=>?_;refine jJ ?_;refine zK rfl (fun c6=>?_) (fun c6=>?_)
 ·exact absurd c6 oG
 refine zn7 ?_;refine wl (r_cap jx rfl) (zn2 ?_);refine wl (Xj rfl rfl rfl dE) (wl (Xj (c:=k) rfl rfl oG oG) (zn9 ?_));refine zK rfl (fun c16=>?_) (fun c16=>?_)
 ·have a3:0<k:=by omega
  refine zn3 ?_;refine wl (r_cap jx rfl) (wl (FX (h:=0) jx qy rfl rfl oG) (wmI rfl ?_));refine wl_appZ jx U3 in109 rfl a3 dE oG oG rfl rfl (fun b22 cap22 w22 a1 a2 hg22 hge hle=>?_);have hB2:Bel w w22:=hB.tr0 a2;refine zn2 ?_;refine wl (FX (h:=0) jx qy rfl rfl oG) (gX ?_)
  first
    | exact⟨⟨_,_,rfl,a1⟩,hB2⟩
    | exact⟨⟨none,0,rfl,Own.nil _ _ _ _⟩,hB⟩
 refine jZ ?_
 first
   | exact⟨⟨_,_,rfl,a1⟩,hB2⟩
   | exact⟨⟨none,0,rfl,Own.nil _ _ _ _⟩,hB⟩
theorem concl_any(A:Option Addr)(c:Nat)(L:List (List (Int×Int)))(w:World)(hM:LMat w A L)(hl:L.length<=1000)(hs:L.flatten.length<=8796093022208):Calls Tryd.prog 82 #[.slice A L.length c] w fun e w'=>(∃ A' cap',e= .returned (.slice A' L.flatten.length cap')/\Own w' w.heap.size 109 2 A' L.flatten.length cap' (lnV L.flatten))/\Bel w w':=by
 refine enT Tryd.func82 Tryd.ntmps82 rfl rfl fun hB=>?_;refine zn19 ?_;refine qk (rgq [3,5] 11 12) (fun m g w'=>∃ k:Nat,k<=L.length/\m=L.length-k/\g 11= .int .i64 k/\g 3= .int .i64 (Pv L k)/\Bel w w') (L.length) ?_ (fun m g3 w1 hI=>?_)
 ·exact⟨0,ad _,rfl,rfl,rfl,hB⟩
 obtain⟨k,hk,hm,h11,h3,hB⟩:=hI;refine zZ 11 _ h11 nu (zZ 3 _ h3 nu (zn6 ?_));refine zK rfl (fun c12=>?_) (fun c12=>?_)
 ·have a3:k<L.length:=by omega
  obtain⟨mb,mo,MA,mc,rfl,a6,hmi⟩:=hM.at_ hB a3;have hss:=B8 a3;have hsl:=sumM_le L (k+1);refine zn7 ?_;refine wl (qW (v:= .slice _ _ _) jx rfl rfl a6) (zn8 ?_);refine wl (X0 (c:=(Pv L (k+1):Nat)) rfl rfl oG oG) (zn9 ?_);refine zK rfl (fun c20=>?_) (fun c20=>?_)
  ·exact absurd c20 oG
  refine zn7 ?_;refine xY (L.length-(k+1)) oG agA ?_;exact⟨k+1,by omega,rfl,rfl,rfl,hB⟩
 have a7:Pv L k=L.flatten.length:=by unfold Pv;rw[F7 oG]
 obtain⟨bz,hbz⟩:∃ z,z=w1.heap.size:=⟨_,rfl⟩
 refine zn8 ?_;have hbs:=Bel.size hB;refine zX kR (growl_any (Pv L k) _ oG) rfl (fun e' w2 hr=>?_);obtain⟨⟨A6,a1,rfl,a2⟩,s1⟩:=hr;replace s1:=sB s1;replace a2:=a2.low hbs;refine⟨_,rfl,?_⟩;refine jJ ?_;refine qk (rgq [6,8] 27 8) (fun m g w'=>∃(k a1:Nat) (A6:Option Addr),k<=L.length/\m=L.length-k/\g 27= .int .i64 k/\g 6= .slice A6 (L.take k).flatten.length a1/\Bel w w'/\Own w' w.heap.size 109 2 A6 (L.take k).flatten.length a1 (lnV (L.take k).flatten)) (L.length) ?_ (fun m g11 w3 hI=>?_)
 ·exact⟨0,a1,A6,ad _,rfl,rfl,rfl,hB.u,a2⟩
 obtain⟨k,a1,A6,hk,hm,h27,h6,hB,a2⟩:=hI;refine zZ 27 _ h27 nu (zZ 6 _ h6 nu (zn6 ?_));refine zK rfl (fun c28=>?_) (fun c28=>?_)
 ·have a3:k<L.length:=by omega
  obtain⟨mb,mo,MA,mc,rfl,a6,hmi⟩:=hM.at_ hB a3;have hss:=B8 a3;have hsl:=sumM_le L (k+1);have hsk:(L.take k).flatten.length=Pv L k:=rfl;refine zn7 ?_;refine wl (qW (v:= .slice _ _ _) jx rfl rfl a6) (zn6 ?_);have hbb:=Bel.size hB;refine wl_appL (e:=109) (news:=lnV (L[k]'a3)) jx in109 rfl dE a2 rfl rfl hmi.news (XX _) (lnV_one _) oG oG hbb (fun AN a4 wN a5 hsN hgN=>?_);have hBN:Bel w wN:=hB.tr hsN (fun g hg=>(a2.lt g hg).1);replace a5:Own wN w.heap.size 109 2 AN (L.take (k+1)).flatten.length a4 (lnV (L.take (k+1)).flatten):=by
    rw[Ik a3,List.length_append,lnV_app];exact a5
  refine zn8 ?_;refine xY (L.length-(k+1)) oG agA ?_;refine⟨k+1,a4,AN,by omega,rfl,rfl,?_,hBN,a5⟩;rw[Ik a3,List.length_append];rfl
 have a7:(L.take k).flatten=L.flatten:=F7 oG;refine Zv ?_;refine⟨⟨A6,a1,?_,?_⟩,hB⟩
 · show Ending.returned (.slice A6 (L.take k).flatten.length a1)=_
   rw[a7]
 · rw[a7]at a2
   exact a2
structure PoolAt(w:World)(ob bp:Nat)(c0 c1:Value)(n:Nat)(PA TA LA:Option Addr)(cp ct cl:Nat)(P:Nat->Nat)(T:Nat->Int)(V:Nat->Value)(L:Nat->List (Int×Int)):Prop where
 bp:Blk w bp 132 #[c0,c1,.slice PA n cp,.slice TA n ct,.slice LA n cl]
 pa:Own w ob 3 1 PA n cp (vQ n (vN P))
 ta:Own w ob 3 1 TA n ct (vQ n (vI T))
 la:Own w ob 105 1 LA n cl (vQ n V)
 rows:∀ x,x<n->RowO w ob w.heap.size (V x) (L x)
 dis:∀ g∈aL PA,¬g∈aL TA
theorem row2_lnV{f h:Nat->Value}(hl:xs.length=m)(hf:∀ k (hk:k<xs.length),f k= .int .i64 (xs[k]).1)(hh:∀ k (hk:k<xs.length),h k= .int .i64 (xs[k]).2):(ky m f h).toList=lnV xs:=by
 refine List.ext_getElem? (fun j=>?_);by_cases hj:j<m*2
 ·have hk:j/2<xs.length:=by omega
  have h1:=Vz xs (j/2) hk;rcases Nat.mod_two_eq_zero_or_one j with e|e
  ·have e2:j=0+j/2*2+0:=by omega
   rw[Array.getElem?_toList];rw[show (ky m f h)[j]? =(ky m f h)[0+j/2*2+0]? from congrArg (fun z=>(ky m f h)[z]?) e2,By oG,hf _ hk];rw[show (lnV xs)[j]? =(lnV xs)[j/2*2]? from congrArg (fun z=>(lnV xs)[z]?) oG,h1.1]
  ·have e2:j=0+j/2*2+1:=by omega
   rw[Array.getElem?_toList];rw[show (ky m f h)[j]? =(ky m f h)[0+j/2*2+1]? from congrArg (fun z=>(ky m f h)[z]?) e2,E3 oG,hh _ hk];rw[show (lnV xs)[j]? =(lnV xs)[j/2*2+1]? from congrArg (fun z=>(lnV xs)[z]?) oG,h1.2]
 ·rw[List.getElem?_eq_none (by simp[ky];omega),List.getElem?_eq_none (by rw[XX];omega)]
def R3(n:Nat)(P:Nat->Nat)(x:Nat):Nat:=if x<n then P x else x
def CJ(n:Nat)(T:Nat->Int)(g:List Nd)(x:Nat):Int:=if x<n then T x else (nd g (x-n)).ty
def shL(n:Nat)(xs:List (Int×Int)):List (Int×Int):=xs.map (fun y=>(y.1,y.2+(n:Int)))
def Hx(n:Nat)(L:Nat->List (Int×Int))(g:List Nd)(x:Nat):List (Int×Int):=if x<n then L x else shL n (nd g (x-n)).ln
def Ok(V:Nat->Value)(m:Nat)(v:Value)(x:Nat):Value:=if x=m then v else V x
theorem rowL_put{V:Nat->Value}:vQ m V++[v]=vQ (m+1) (Ok V m v):=by
 rw[Bq]
 exact ux (fun x hx=>by
  by_cases e:x=m
  ·subst e;simp[Ok]
  ·have:x<m:=by omega
   simp[Ok,e,this])
theorem addP_new:Value.int .i64 ((n+k:Nat):Int)=vN (R3 n P) (n+k):=by
 unfold vN R3;rw[if_neg oG]
theorem addT_new{T:Nat->Int}{g:List Nd}(hk:k<g.length):Value.int .i64 (g[k]).ty=vI (CJ n T g) (n+k):=by
 unfold vI CJ;rw[if_neg oG,show n+k-n=k by omega,yv hk]
theorem oK{base b sz c:Nat}{e t:TypeId}{xs:List Value}{cs:Array Value}(h:Own w base e sz A k c xs)(hb:Blk w b t cs)(hne:e≠t):∀ g∈aL A,g≠b:=fun g hg e1=>by
 obtain⟨c2,h2⟩:=h.typ g hg
 subst e1
 exact hne (oq h2 hb)
theorem Fy{g:Nat->Value}(h:v=g n):vQ n g++[v]=vQ (n+1) g:=by
 rw[Bq]
 exact ux (fun x hx=>by
  by_cases e:x<n
  ·rw[if_pos e]
  ·rw[if_neg e,h,show x=n by omega])
theorem in105:(Tryd.prog.info? 105).map (fun i=>(i.zero,i.size,i.bytes))=some (some (.slice none 0 0),1,24):=by kernel_rfl
theorem X5:(Tryd.prog.info? 109).map (fun i=>(i.zero,i.size,i.bytes))=some (some (.agg #[.int .i64 0,.int .i64 0]),2,16):=by kernel_rfl
theorem Wy:(Tryd.prog.info? 3).map (fun i=>(i.zero,i.size,i.bytes))=some (some (.int .i64 0),1,8):=by kernel_rfl
theorem sz130:(Tryd.prog.info? 130).map (·.size)=some 1:=by kernel_rfl
theorem ze105:(Tryd.prog.info? 105).map (·.zero)=some (some (.slice none 0 0)):=by kernel_rfl
theorem Yw:(Tryd.prog.info? 107).map (·.zero)=some (some (.agg #[.int .i64 0,.slice none 0 0])):=by kernel_rfl
theorem Rq:(Tryd.prog.info? 3).map (·.zero)=some (some (.int .i64 0)):=by kernel_rfl
set_option maxHeartbeats 4000000 in
theorem W4{ob bp cg nf:Nat}{c0 c1:Value}{PA TA LA G:Option Addr}{cp ct cl:Nat}{T:Nat->Int}{V:Nat->Value}{L:Nat->List (Int×Int)}{gr:List Nd}(nt:Nat)(w:World)(hp:PoolAt w ob bp c0 c1 n PA TA LA cp ct cl P T V L)(hbo:bp<ob)(hob:ob<=w.heap.size)(hn:n<=1000000)(hG:∀ w2,Chg ob [bp] w w2->NodesIn w2 G gr)(hk:GOk nt nf gr)(hnf:nf<=1000):Calls Tryd.prog 57 #[.pointer (some ⟨bp,0,none⟩),.agg #[.slice G gr.length cg]] w fun e w'=>(∃ PA' TA' LA' cp' ct' cl' V',e= .returned (.int .i64 (n:Nat))/\PoolAt w' ob bp c0 c1 (n+gr.length) PA' TA' LA' cp' ct' cl' (R3 n P) (CJ n T gr) V' (Hx n L gr))/\Chg ob [bp] w w'/\ob<=w'.heap.size:=by
 have hn6:=hk.le;have hlob:w.heap.size<=w.heap.size:=ae _;obtain⟨a7,a2,a1,a6,a5,bb⟩:=hp;obtain⟨bs,bh⟩:∃ b,b=w.heap.size:=⟨_,rfl⟩
 rw[<- bh]at a5;have a4:bs<=w.heap.size:=aF bh;have a3:Chg ob [bp] w w/\ob<=w.heap.size:=⟨Chg.refl _ _ _,hob⟩
 replace a2:Own w ob 3 1 PA n cp (vQ n (vN (R3 n P))):=by rw[ux (g':=vN P) (fun x hx=>by simp[vN,R3,hx])];exact a2
 replace a1:Own w ob 3 1 TA n ct (vQ n (vI (CJ n T gr))):=by rw[ux (g':=vI T) (fun x hx=>by simp[vI,CJ,hx])];exact a1
 replace a5:∀ x,x<n->RowO w ob bs (V x) (Hx n L gr x):=fun x hx=>by have h:=a5 x hx;simp only[Hx,if_pos hx];exact h
 refine enter Tryd.func57 Tryd.ntmps57 rfl (aE rfl) (zn2 ?_);refine qZ (cs:=#[_]) rfl (fun b3 w1 ab t1 hr=>?_);have:=a7.ob hr;have an:=a2.ob hr;have b8:=a1.ob hr;have ao:=a6.ob hr;have d8:=(nLT a3.2 hr)
 have d6:=(nLT a4 hr)
 replace a5:=qq a5 t1;replace a3:=xx a3 t1;replace a4:=zV a4 t1;refine zn5 ?_;refine wl (x7 (v:= .pointer (some _)) rfl) (wl (Qk rfl) (P0 ?_));replace a7:=a7.tr0 t1;replace a2:=a2.tr0 t1;replace a1:=a1.tr0 t1;replace a6:=a6.tr0 t1;refine qk (rgq (rgq [] 6 5) 19 62) (fun m g w'=>∃(k:Nat) (PA TA LA:Option Addr) (cp ct cl:Nat) (V:Nat->Value),k<=gr.length/\m=gr.length-k/\g 19= .int .i64 k/\Blk w' b3 30 #[.slice G gr.length cg]/\Blk w' bp 132 #[c0,c1,.slice PA (n+k) cp,.slice TA (n+k) ct,.slice LA (n+k) cl]/\Own w' ob 3 1 PA (n+k) cp (vQ (n+k) (vN (R3 n P)))/\Own w' ob 3 1 TA (n+k) ct (vQ (n+k) (vI (CJ n T gr)))/\Own w' ob 105 1 LA (n+k) cl (vQ (n+k) V)/\(∀ x,x<(n+k)->RowO w' ob w'.heap.size (V x) (Hx n L gr x))/\(∀ g∈aL PA,¬g∈aL TA)/\(Chg ob [bp] w w'/\ob<=w'.heap.size)) (gr.length) ?_ (fun m g3 w2 hI=>?_)
 ·exact⟨0,PA,TA,LA,cp,ct,cl,V,ad _,rfl,rfl,ab,a7,a2,a1,a6,fun x hx=>(a5 x hx).up a4,bb,a3⟩
 obtain⟨k,PA,TA,LA,cp,ct,cl,V,hkk,hm,h19,ab,a7,a2,a1,a6,a5,bb,a3⟩:=hI;obtain⟨bs,bh⟩:∃ b,b=w2.heap.size:=⟨_,rfl⟩
 rw[<- bh]at a5;have a4:bs<=w2.heap.size:=aF bh;have hup:=fun g hg=>(a2.lt g hg).2
 have hut:=fun g hg=>(a1.lt g hg).2
 have hul:=fun g hg=>(a6.lt g hg).2
 have hu3:=ab.lt;have dj:=a7.lt;rw[<- bh]at hup hut hul hu3 dj;have an:=oK a2 ab dE;have b8:=oK a1 ab dE;have ao:=oK a6 ab dE;refine zZ 19 _ h19 nu (zn6 ?_);refine zK rfl (fun c20=>?_) (fun c20=>?_)
 ·have a9:k<gr.length:=by omega
  obtain⟨nb,no,LA0,lc,rfl,hnb,hnr,dk⟩:=(hG _ a3.1).at_ (Below.refl _ _:Bel w2 w2) a9;have hmx:=dk.1;unfold vJ at hmx;have hfw:=hk.few k a9;obtain⟨wN,hwN⟩:∃ x,x=w2:=⟨_,rfl⟩
  have bi:Bel wN w2:=by rw[hwN];exact Below.refl _ _
  rw[<- hwN]at hnb hnr dk;refine zn7 ?_;refine wl (xW (i:=k) U28 ZX rfl rfl a9 rfl) (wl (qK EJ rfl rfl (bi.range hnb hnr) ZX) ?_);refine qw (cs:=#[.int .i64 0,.slice none 0 0]) Yw rfl (fun b7 w3 b1 t2 hr=>?_);have:=a7.ob hr;have b9:=a2.ob hr;have b6:=a1.ob hr;have bf:=a6.ob hr;have d7:=(nLT a3.2 hr)
  have:=ab.ob hr;have d5:=(nLT a4 hr)
  have lo7:=bi.ob hr;have bg:=bi.ob hr;replace a5:=qq a5 t2;replace a3:=xx a3 t2;replace a4:=zV a4 t2;refine waI rfl ?_;refine zJ b1 (fun w4 hq t3=>?_);replace a2:=a2.tr0 t2;replace a2:=a2.cB t3;replace a1:=a1.tr0 t2;replace a1:=a1.cB t3;replace a6:=a6.tr0 t2;replace a6:=a6.cB t3;replace a5:=qq a5 t3;replace a3:=xx a3 t3;replace a4:=zV a4 t3;replace b1:=hq;refine zn7 ?_;refine wl_mk (m:=(gr[k]'a9).ln.length) jx X5 rfl rfl oG oG (fun dh w5 b2 t4 hr=>?_);replace a7:=(a7.tr0 t2).tr1 t3 oG;have:=a7.ob hr;have c7:=a2.ob hr;have c3:=a1.ob hr;have cb:=a6.ob hr;have cn:=(nLT a3.2 hr)
  have:=ab.u.ob hr;have cf:=(nLT a4 hr)
  have:=b1.ob hr;have lo27:=bi.u.ob hr;have cx:=bi.u.ob hr;replace a5:=qq a5 t4;replace a3:=xx a3 t4;replace a4:=zV a4 t4;refine zn5 ?_;replace ab:=((ab.tr0 t2).tr1 t3 oG).tr0 t4;replace bi:=((bi.tr0 t2).tr1 t3 bg).tr0 t4;replace a7:=a7.tr0 t4;replace a2:=a2.tr0 t4;replace a1:=a1.tr0 t4;replace a6:=a6.tr0 t4;replace b1:=b1.tr0 t4;replace b2:Blk w5 dh 109 (ky (gr[k]'a9).ln.length (fun _=> .int .i64 0) (fun _=> .int .i64 0)):=by
    have h:=b2;rw[show (Value.agg #[.int .i64 0,.int .i64 0]).cells= #[.int .i64 0,.int .i64 0]from rfl,Bw]at h;exact h
  refine zn8 ?_;refine qk (rgq [9,10] 31 16) (fun m g w'=>∃ j:Nat,j<=(gr[k]'a9).ln.length/\m=(gr[k]'a9).ln.length-j/\g 31= .int .i64 j/\Blk w' b3 30 #[.slice (some ⟨nb,no,none⟩) gr.length cg]/\Blk w' bp 132 #[c0,c1,.slice PA (n+k) cp,.slice TA (n+k) ct,.slice LA (n+k) cl]/\Own w' ob 3 1 PA (n+k) cp (vQ (n+k) (vN (R3 n P)))/\Own w' ob 3 1 TA (n+k) ct (vQ (n+k) (vI (CJ n T gr)))/\Own w' ob 105 1 LA (n+k) cl (vQ (n+k) V)/\(∀ x,x<(n+k)->RowO w' ob bs (V x) (Hx n L gr x))/\bs<=w'.heap.size/\Bel wN w'/\Blk w' b7 107 #[.int .i64 (gr[k]'a9).ty,.slice LA0 (gr[k]'a9).ln.length lc]/\Blk w' dh 109 (ky (gr[k]'a9).ln.length (fun x=>if x<j then .int .i64 (((gr[k]'a9)).ln.getD x (0,0)).1 else .int .i64 0) (fun x=>if x<j then .int .i64 ((((gr[k]'a9)).ln.getD x (0,0)).2+(n:Int))else .int .i64 0))/\(Chg ob [bp] w w'/\ob<=w'.heap.size)) ((gr[k]'a9).ln.length) ?_ (fun m g7 w6 hI=>?_)
  ·refine⟨0,ad _,rfl,rfl,ab,a7,a2,a1,a6,a5,a4,bi,b1,?_,a3⟩;rw[ZJ (f':=fun _=> .int .i64 0) (h':=fun _=> .int .i64 0) (fun x _=>by simp) (fun x _=>by simp)];exact b2
  obtain⟨j,hj,hmj,h31,ab,a7,a2,a1,a6,a5,a4,bi,b1,b2,a3⟩:=hI;refine zZ 31 _ h31 nu (zn6 ?_);refine zK rfl (fun c32=>?_) (fun c32=>?_)
  ·have d9:j<(gr[k]'a9).ln.length:=by omega
   obtain⟨lb,lof,rfl,hlb,hlr⟩:=dk.at_ bi d9;have hxr:=hk.ln k a9 _ (ap d9);refine zn8 ?_;refine wl (qK Y2 rfl rfl hlr qy) ?_;refine qw (cs:=#[.int .i64 0,.int .i64 0]) ZQ rfl (fun b10 w7 da t5 hr=>?_);have:=a7.ob hr;have c8:=a2.ob hr;have c4:=a1.ob hr;have cc:=a6.ob hr;have co:=(nLT a3.2 hr)
   have:=ab.ob hr;have cj:=(nLT a4 hr)
   have:=b1.ob hr;have:=b2.ob hr;have lo10:=bi.ob hr;have cy:=bi.ob hr;replace a5:=qq a5 t5;replace a3:=xx a3 t5;replace a4:=zV a4 t5;refine waI rfl ?_;refine zJ da (fun w8 hq t6=>?_);replace a2:=a2.tr0 t5;replace a2:=a2.cB t6;replace a1:=a1.tr0 t5;replace a1:=a1.cB t6;replace a6:=a6.tr0 t5;replace a6:=a6.cB t6;replace a5:=qq a5 t6;replace a3:=xx a3 t6;replace a4:=zV a4 t6;replace da:=hq;refine jZ ?_;refine wl (X0 (c:=(((gr[k]'a9).ln[j]'d9).2+(n:Int))) rfl rfl oG oG) (VY (wl (xW (i:=j) jx qy rfl rfl d9 rfl) ?_));replace b2:=(b2.tr0 t5).tr1 t6 oG;refine Hy b2 rfl rfl qy (by rw[Y6];show 0+j*2+2<=_;omega) y5 FZ (fun w9 hq t7=>?_);replace a2:=a2.cB t7;replace a1:=a1.cB t7;replace a6:=a6.cB t7;replace a5:=qq a5 t7;replace a3:=xx a3 t7;replace a4:=zV a4 t7;replace b2:=hq
   rw[ZJ (f':=fun x=>if x<j+1 then .int .i64 (((gr[k]'a9)).ln.getD x (0,0)).1 else .int .i64 0) (h':=fun x=>if x<j+1 then .int .i64 ((((gr[k]'a9)).ln.getD x (0,0)).2+(n:Int))else .int .i64 0) (fun x _=>by
     by_cases e:x=j
     · subst e;simp[List.getD,d9]
     · have e1:(x<j+1)↔(x<j):=by omega
       simp[e,e1]) (fun x _=>by
     by_cases e:x=j
     · subst e;simp[List.getD,d9]
     · have e1:(x<j+1)↔(x<j):=by omega
       simp[e,e1])]at b2
   refine zn7 ?_;refine xY ((gr[k]'a9).ln.length-(j+1)) oG agA ?_;replace a7:=((a7.tr0 t5).tr1 t6 oG).tr1 t7 oG;exact⟨j+1,by omega,rfl,rfl,ab.u,a7,a2,a1,a6,a5,a4,bi.u,b1.u,b2,a3⟩
  have hjx:j=(gr[k]'a9).ln.length:=by omega
  subst hjx;refine zn6 ?_
  have a8:=RowO.of (lo:=ob) (xs:=shL n (gr[k]'a9).ln) (cap:=(gr[k]'a9).ln.length) (base:=ob) (ae _) (A:=some ⟨dh,0,none⟩) (w:=w6) (by
    have hl:(shL n (gr[k]'a9).ln).length=(gr[k]'a9).ln.length:=by simp[shL]
    rw[hl];have h:=MX (base:=ob) (sz:=2) (m:=(gr[k]'a9).ln.length) b2 oG (by rw[Y6]) oG
    rw[row2_lnV hl (fun x hx=>by
      have di:x<(gr[k]'a9).ln.length:=by omega
      simp[shL,List.getD,di]) (fun x hx=>by
      have di:x<(gr[k]'a9).ln.length:=by omega
      simp[shL,List.getD,di])]at h
    exact h)
  rw[show (shL n (gr[k]'a9).ln).length=(gr[k]'a9).ln.length by simp[shL]]at a8;obtain⟨s9,hs9⟩:∃ b,b=w6.heap.size:=⟨_,rfl⟩
  rw[<- hs9]at a8;have b5:s9<=w6.heap.size:=aF hs9;refine Zx (wl (x7 (v:= .pointer (some _)) rfl) (wl (x7 (v:= .pointer (some _)) rfl) (wl (Qk rfl) (zn4 ?_))));refine wl (X0 (c:=((n+k:Nat):Int)) rfl rfl oG oG) ?_;refine qj (cs:=#[_]) [(0,.int _ _)] rfl U36 xv Rq dE dE kR rfl (fun b55 w10 dp t8 hr=>?_);have:=a7.ob hr;have c6:=a2.ob hr;have c2:=a1.ob hr;have ca:=a6.ob hr;have cm:=(nLT a3.2 hr)
  have:=ab.ob hr;have ce:=(nLT a4 hr)
  have:=b1.ob hr;have bx:=(nLT b5 hr)
  replace a5:=qq a5 t8;replace a3:=xx a3 t8;replace a4:=zV a4 t8;replace a8:=a8.tr t8 (by simp);replace b5:=zV b5 t8;replace a1:=a1.tr0 t8;have hzz:=fun g hg=>(a1.lt g hg).2
  replace a2:=a2.tr0 t8;refine vZ U36 Wy rfl dE a2 dp rfl rfl rfl y5 dE oG oG a3.2 (fun d3 bv w11 bt t9 hg=>?_);replace a7:=a7.tr0 t8;have cu:d3≠bp:=neA a2 a7.lt hg
  have cw:d3≠b3:=neB ab.u.lt hg (fun g hg=>by have:=an g hg;omega)
  have cv:d3≠b7:=neB b1.u.lt hg (fun g hg=>by have:=b9 g hg;omega)
  replace a7:=a7.ta t9 a2;replace a1:=a1.c t9;replace a6:=a6.tr0 t8;replace a6:=a6.c t9;replace a5:=qq a5 t9;replace a3:=xx a3 t9;replace ab:=ab.tr0 t8;replace ab:=ab.tb t9 (fun g hg=>by have:=an g hg;omega);replace a4:=zV a4 t9;replace b1:=b1.tr0 t8;replace b1:=b1.tb t9 (fun g hg=>by have:=b9 g hg;omega);replace a8:=a8.c t9;replace b5:=zV b5 t9;have bb:∀ g∈aL (some ⟨d3,0,none⟩),¬g∈aL TA:=fun g hg' h=>by
    simp only[aL,List.mem_singleton]at hg';subst hg';rcases hg with hg|hg
    · exact bb _ (by rw[hg];exact aj.2 rfl) h
    · have:=hzz _ h;omega
  replace bt:Own w11 ob 3 1 (some ⟨d3,0,none⟩) (n+k+1) bv (vQ (n+k+1) (vN (R3 n P))):=by rw[Fy addP_new]at bt;exact bt
  have a2:=bt;refine wl (Qk rfl) (zn1 ?_);refine xj (v:= .slice _ _ _) a7 rfl rfl YX (by first|decide|simp) rfl rfl (fun w12 hq bj=>?_);replace a1:=a1.cB bj;replace a6:=a6.cB bj;replace a5:=qq a5 bj;replace a3:=xx a3 bj;replace a4:=zV a4 bj;replace a8:=a8.c bj;replace b5:=zV b5 bj;replace a2:=a2.cB bj;replace a7:=hq;refine zn3 ?_;have zo:=fun g hg=>(a1.lt g hg).2
  refine Yk 11 (rgq [] 59 11) (aL TA) 8 (fun ix v wv=>match ix with|0=>v= .pointer (some ⟨bp,0,none⟩)|1=>v= .pointer (some ⟨bp,0,none⟩)|2=>v= .pointer (some ⟨bp,0,none⟩)|3=>v= .pointer (some ⟨bp,3,none⟩)|4=>v= .slice TA (n+k) ct|5=>v= .pointer (some ⟨b7,0,none⟩)|6=>v= .int .i64 (gr[k]'a9).ty|7=>∃ b,v= .slice (some ⟨b,0,none⟩) 1 1/\w12.heap.size<=b/\Blk wv b 3 #[.int .i64 (gr[k]'a9).ty]|8=>∃ g cap,v= .slice (some ⟨g,0,none⟩) (n+k+1) cap/\Own wv ob 3 1 (some ⟨g,0,none⟩) (n+k+1) cap (vQ (n+k) (vI (CJ n T gr))++[.int .i64 (gr[k]'a9).ty])/\(∀ g2∈aL (some (⟨d3,0,none⟩:Addr)),¬g2∈aL (some (⟨g,0,none⟩:Addr)))|9=>v= .pointer (some ⟨bp,0,none⟩)|10=>v= .pointer (some ⟨bp,3,none⟩)|_=>True) (fun _=>True) kR kR ?_ (fun _ _ _ _=>trivial) ?_ ?_ dE ?_
  ·intro ix v wv wv2 h t11
   match ix,h with
   | 0,h=>exact h
   | 1,h=>exact h
   | 2,h=>exact h
   | 3,h=>exact h
   | 4,h=>exact h
   | 5,h=>exact h
   | 6,h=>exact h
   | 7,h=>
    obtain⟨df,dc,bq,be⟩:=h;exact⟨df,dc,bq,be.tr0 t11⟩
   | 8,h=>
    obtain⟨db,bc,dq,ba,d2⟩:=h;exact⟨db,bc,dq,ba.tr0 t11,d2⟩
   | 9,h=>exact h
   | 10,h=>exact h
   | _+11,h=>exact trivial
  ·intro ix o hix cz b4 gg wx t12 hd
   match ix,hix,cz,b4 with
   | 0,_,_,b4=>
    cases sI b4;refine qV (x7 (v:= .pointer (some _)) rfl) ⟨Same.refl _ _,?_⟩;exact rfl
   | 1,_,_,b4=>
    cases sI b4;refine qV (x7 (v:= .pointer (some _)) rfl) ⟨Same.refl _ _,?_⟩;exact rfl
   | 2,_,_,b4=>
    cases sI b4;refine aX 60 (hd 1 aY) ?_;refine qV (Qk rfl) ⟨Same.refl _ _,?_⟩;exact rfl
   | 3,_,_,b4=>
    cases sI b4;refine aX 61 (hd 2 aY) ?_;refine qV (Z5 R5 YX dE rfl rfl rfl) ⟨Same.refl _ _,?_⟩;exact rfl
   | 4,_,_,b4=>
    cases sI b4;replace a7:=a7.ta t12 a1;refine aX 62 (hd 3 aY) ?_;refine qV (qW (v:= .slice _ _ _) U36 rfl rfl (a7.cell rfl)) ⟨Same.refl _ _,?_⟩;exact rfl
   | 5,_,_,b4=>
    cases sI b4;refine qV (Z5 EJ xv dE rfl rfl rfl) ⟨Same.refl _ _,?_⟩;exact rfl
   | 6,_,_,b4=>
    cases sI b4;replace b1:=b1.tr1 bj oG;replace b1:=b1.tb t12 (fun g hg=>by have:=b6 g hg;omega);refine aX 64 (hd 5 aY) ?_;refine qV (qW (v:= .int _ _) U3 rfl rfl (b1.cell rfl)) ⟨Same.refl _ _,?_⟩;exact rfl
   | 7,_,_,b4=>
    cases sI b4;have hs0:=t12;refine aX 65 (hd 6 aY) ?_;refine jK (fun ops Q K=>?_);refine qj (cs:=#[_]) [(0,.int _ _)] rfl U36 xv Rq dE dE kR rfl (fun df w13 be t13 hr=>?_);exact K _ _ ⟨t13,⟨_,rfl,nLT hs0.size hr,be⟩⟩
   | 8,_,cz,_=>exact absurd rfl cz
   | 9,_,_,b4=>
    cases sI b4;refine aX 59 (hd 0 aY) ?_;refine qV (Qk rfl) ⟨Same.refl _ _,?_⟩;exact rfl
   | 10,_,_,b4=>
    cases sI b4;refine aX 68 (hd 9 aY) ?_;refine qV (Z5 R5 YX dE rfl rfl rfl) ⟨Same.refl _ _,?_⟩;exact rfl
   | _+11,hix,_,_=>exact absurd hix oG
  ·intro o b4 gg wx d4 hd;cases sI b4;replace a5:=qq a5 d4;replace a3:=xx a3 d4;replace a4:=zV a4 d4;replace b5:=zV b5 d4;obtain⟨df,dc,bq,be⟩:=hd 7 (zq kR);refine aX 63 (hd 4 aY) (zz 66 _ dc nu ?_);refine jK (fun ops Q K=>?_);replace a1:=a1.tr0 d4;refine vZ U36 Wy rfl dE a1 be rfl rfl rfl y5 dE oG oG a3.2 (fun db bc w2 ba hs2 dm=>?_);replace a2:=a2.tr0 d4
   refine K _ _ ⟨hs2,⟨_,_,rfl,ba,fun g2 h2 h3=>by
       simp only[aL,List.mem_singleton]at h3;subst h3;rcases dm with hg|hg
       · exact bb _ h2 (by rw[hg];exact aj.2 rfl)
       · have:=(a2.lt _ h2).2;omega⟩,trivial,fun kx v cz h=>?_⟩
   match kx,cz,h with
   | 0,_,h=>exact h
   | 1,_,h=>exact h
   | 2,_,h=>exact h
   | 3,_,h=>exact h
   | 4,_,h=>exact h
   | 5,_,h=>exact h
   | 6,_,h=>exact h
   | 7,_,h=>
    obtain⟨df,dc,bq,be⟩:=h;exact⟨df,dc,bq,be.tr hs2 (fun hx=>by have:=zo _ hx;omega)⟩
   | 8,cz,_=>exact absurd rfl cz
   | 9,_,h=>exact h
   | 10,_,h=>exact h
   | _+11,_,_=>exact trivial
  intro gg w14 bm _ hR;replace a7:=a7.ta bm a1;replace a6:=a6.c bm;replace a5:=qq a5 bm;replace a3:=xx a3 bm;replace ab:=ab.tr1 bj oG;replace ab:=ab.tb bm (fun g hg=>by have:=b8 g hg;omega);replace a4:=zV a4 bm;replace b1:=b1.tr1 bj oG;replace b1:=b1.tb bm (fun g hg=>by have:=b6 g hg;omega);replace a8:=a8.c bm;replace b5:=zV b5 bm;replace a2:=a2.c bm;obtain⟨db,bc,dq,ba,d2⟩:=hR 8 dE;replace ba:Own w14 ob 3 1 (some ⟨db,0,none⟩) (n+k+1) bc (vQ (n+k+1) (vI (CJ n T gr))):=by rw[Fy (addT_new a9)]at ba;exact ba
  have a1:=ba;replace bb:=d2;refine xz 67 _ dq nu (xz 69 _ (hR 10 dE) nu ?_);refine xj (v:= .slice _ _ _) a7 rfl rfl YX (by first|decide|simp) rfl rfl (fun w15 hq bo=>?_);replace a6:=a6.cB bo;replace a5:=qq a5 bo;replace a3:=xx a3 bo;replace a4:=zV a4 bo;replace a8:=a8.c bo;replace b5:=zV b5 bo;replace a2:=a2.cB bo;replace a1:=a1.cB bo;replace a7:=hq;refine zn3 ?_;refine wl (x7 (v:= .pointer (some _)) rfl) (wl (x7 (v:= .pointer (some _)) rfl) (wl (Qk rfl) (zn3 ?_)));refine qj (cs:=#[_]) [(0,.slice _ _ _)] rfl CV kK ze105 dE dE kR rfl (fun b76 w16 dn bk hr=>?_);have:=a7.ob hr;have c9:=a6.ob hr;have ck:=(nLT a3.2 hr)
  have:=ab.u.ob hr;have cd:=(nLT a4 hr)
  have:=b1.u.ob hr;have bw:=(nLT b5 hr)
  have c5:=a2.ob hr;have bz:=a1.ob hr;replace a5:=qq a5 bk;replace a3:=xx a3 bk;replace a4:=zV a4 bk;replace a8:=a8.tr bk (by simp);replace b5:=zV b5 bk;replace a6:=a6.tr0 bk;refine vZ CV in105 rfl dE a6 dn rfl rfl rfl y5 dE oG oG a3.2 (fun dg de w17 br bn hg=>?_);replace a7:=a7.tr0 bk;have bd:dg≠bp:=neA a6 a7.lt hg
  have cr:dg≠b3:=neB ab.u.lt hg (fun g hg=>by have:=ao g hg;omega)
  have cq:dg≠b7:=neB b1.u.lt hg (fun g hg=>by have:=bf g hg;omega)
  replace a7:=a7.ta bn a6;replace a5:=qq a5 bn;replace a3:=xx a3 bn;replace ab:=(ab.tr1 bo oG).tr0 bk;replace ab:=ab.tb bn (fun g hg=>by have:=ao g hg;omega);replace a4:=zV a4 bn;replace a8:=a8.c bn;replace b5:=zV b5 bn;replace a2:=a2.tr0 bk;replace a2:=a2.c bn;replace a1:=a1.tr0 bk;replace a1:=a1.c bn;refine wl (Qk rfl) (zn1 ?_);refine xj (v:= .slice _ _ _) a7 rfl rfl sz130 (by first|decide|simp) rfl rfl (fun w18 hq bu=>?_);replace a5:=qq a5 bu;replace a3:=xx a3 bu;replace a4:=zV a4 bu;replace a8:=a8.c bu;replace b5:=zV b5 bu;replace a2:=a2.cB bu;replace a1:=a1.cB bu;replace br:=br.tr1 bu (neS bd);replace a7:=hq;refine zn7 ?_;refine xY (gr.length-(k+1)) oG agA ?_;refine⟨k+1,some ⟨d3,0,none⟩,some ⟨db,0,none⟩,some ⟨dg,0,none⟩,bv,bc,de,Ok V (n+k) (.slice (some ⟨dh,0,none⟩) (gr[k]'a9).ln.length (gr[k]'a9).ln.length),by omega,rfl,rfl,ab.u,a7,a2,a1,?_,fun x hx=>?_,bb,a3⟩
  · rw[rowL_put]at br;exact br
  · by_cases e:x=n+k
    · subst e
      simp only[Ok,if_true];have e2:Hx n L gr (n+k)=shL n (gr[k]'a9).ln:=by simp only[Hx,if_neg (show ¬n+k<n by omega),show n+k-n=k by omega,yv a9]
      rw[e2];exact a8.up b5
    · simp only[Ok,if_neg e]
      exact(a5 x oG).up a4
 have hke:k=gr.length:=by omega
 refine Zv ?_;refine⟨⟨PA,TA,LA,cp,ct,cl,V,rfl,?_⟩,a3.1,a3.2⟩;rw[hke]at a7 a2 a1 a6 a5;exact⟨a7,a2,a1,a6,fun x hx=>(a5 x hx).up a4,bb⟩
end Go.Proofs.YtmfiholmfieieaaDoor
