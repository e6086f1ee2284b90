/- What these functions of the program compute, at every world: (*glosswright/unify.pool).join. -/
import Derived.Test.YtiofaflajkgiaaaGreatDoorU
import Derived.Test.YtiofaflajkgiaaaGreatDoorZst
import Derived.Test.YtiofaflajkgiaaaGreatDoorPAdd
namespace Go.Proofs.YtiofaflajkgiaaaGreatDoor
open Go.RowKit
open Go.Proofs.Tryz
theorem snocP{W:List (Int×Int)}(h:0<W.length):∃ W1 z,W=W1++[z]:=
 ⟨W.dropLast,W.getLast (fun e=>by rw[e]at h;exact absurd h (aF _)),(List.dropLast_concat_getLast _).symm⟩
theorem range_two{w:World}{b t:Nat}{cs:Array Value}{c0 c1:Value}(h:Blk w b t cs)(h0:cs[0]? =some c0)(h1:cs[1]? =some c1):w.rangeAt b 0 [c0,c1]:=fun j v hj=>by
 match j,hj with
 | 0,hj=>cases hj;exact h.cell h0
 | 1,hj=>cases hj;exact h.cell h1
 | _+2,hj=>cases hj
theorem consP{W:List (Int×Int)}(h:0<W.length):∃ z W1,W=z::W1:=by
 cases W with
 | nil=>exact absurd h (aF _)
 | cons z W1=>exact⟨z,W1,rfl⟩
theorem N0{nf:Nat}:∀ {xs:List (Int×Int)} {lo:Int},Srt xs->(∀ x∈xs,lo<=x.1/\x.1<nf)->0<=lo->lo<=nf->(xs.length:Int)<=nf-lo
 | [],lo,_,_,_,h=>by simp;omega
 | x::xs,lo,hs,hx,h0,hl=>by
  obtain⟨h1,h2⟩:=aM.1 hs
  have h3:=hx x (aw ..)
  have:=N0 (nf:=nf) (lo:=x.1+1) h2 (fun y hy=>by
   have:=h1 y hy
   have:=hx y (aq _ hy)
   omega) oG oG
  rw[List.length_cons];omega
theorem meet_true{l:List Ty}{a b:Nat}(h:(kW l a b).2.1=true):kW l a b=((kW l a b).1,true,false):=by
 unfold kW at h ⊢
 split
 ·rename_i h0;rw[if_pos h0]at h;cases h
 ·rename_i h0
  rw[if_neg h0]at h
  split
  ·rename_i h1;rw[if_pos h1]at h;cases h
  ·rfl
theorem Wq{x y:Int×Int}{xs ys:List (Int×Int)}(h:x.1<y.1):xW (x::xs) (y::ys)=x::xW xs (y::ys)/\QQ (x::xs) (y::ys)=QQ xs (y::ys):=by
 constructor
 ·rw[xW,if_pos h]
 ·rw[QQ,if_pos h]
theorem Wx{x y:Int×Int}{xs ys:List (Int×Int)}(h:y.1<x.1):xW (x::xs) (y::ys)=y::xW (x::xs) ys/\QQ (x::xs) (y::ys)=QQ (x::xs) ys:=by
 constructor
 ·rw[xW,if_neg oG,if_pos h]
 ·rw[QQ,if_neg oG,if_pos h]
theorem Wj{x y:Int×Int}{xs ys:List (Int×Int)}(h:x.1=y.1):xW (x::xs) (y::ys)=x::xW xs ys/\QQ (x::xs) (y::ys)=(x.2,y.2)::QQ xs ys:=by
 constructor
 ·rw[xW,if_neg oG,if_neg oG]
 ·rw[QQ,if_neg oG,if_neg oG]
structure MG(X Y acc xs ys W1 W2:List (Int×Int)):Prop where
 m:xW X Y=acc++xW xs ys
 w:W1++QQ X Y=W2++QQ xs ys
 l:acc.length+xs.length+ys.length<=X.length+Y.length
 l2:W2.length+xs.length<=W1.length+X.length
theorem MG.start(X Y W1:List (Int×Int)):MG X Y [] X Y W1 W1:=⟨rfl,rfl,by simp,ae _⟩
theorem MG.left{X Y acc xs ys W1 W2:List (Int×Int)}{x y:Int×Int}(h:MG X Y acc (x::xs) (y::ys) W1 W2)(hc:x.1<y.1):MG X Y (acc++[x]) xs (y::ys) W1 W2:=
 ⟨by rw[h.m,(Wq hc).1];simp,by rw[h.w,(Wq hc).2],by have:=h.l;simp only[List.length_append,List.length_cons,List.length_nil]at this ⊢;omega,by have:=h.l2;simp only[List.length_cons]at this ⊢;omega⟩
theorem MG.right{X Y acc xs ys W1 W2:List (Int×Int)}{x y:Int×Int}(h:MG X Y acc (x::xs) (y::ys) W1 W2)(hc:y.1<x.1):MG X Y (acc++[y]) (x::xs) ys W1 W2:=
 ⟨by rw[h.m,(Wx hc).1];simp,by rw[h.w,(Wx hc).2],by have:=h.l;simp only[List.length_append,List.length_cons,List.length_nil]at this ⊢;omega,h.l2⟩
theorem MG.both{X Y acc xs ys W1 W2:List (Int×Int)}{x y:Int×Int}(h:MG X Y acc (x::xs) (y::ys) W1 W2)(hc:x.1=y.1):MG X Y (acc++[x]) xs ys W1 (W2++[(x.2,y.2)]):=
 ⟨by rw[h.m,(Wj hc).1];simp,by rw[h.w,(Wj hc).2];simp,by have:=h.l;simp only[List.length_append,List.length_cons,List.length_nil]at this ⊢;omega,by have:=h.l2;simp only[List.length_append,List.length_cons,List.length_nil]at this ⊢;omega⟩
theorem MG.end_{X Y acc xs ys W1 W2:List (Int×Int)}(h:MG X Y acc xs ys W1 W2)(he:¬(0<xs.length/\0<ys.length)):xW X Y= [acc,xs,ys].flatten/\W1++QQ X Y=W2:=by
 have e:xW xs ys=xs++ys/\QQ xs ys= []:=by
  cases xs with
  | nil=>simp[xW,QQ]
  | cons x xs=>
   cases ys with
   | nil=>simp[xW,QQ]
   | cons y ys=>simp at he
 exact⟨by rw[h.m,e.1];simp,by rw[h.w,e.2];simp⟩
theorem cellW{w:World}{ob cap q:Nat}{W1:List (Int×Int)}{z:Int×Int}(h:Own w ob 158 2 (some ⟨q,0,none⟩) (W1++[z]).length cap (lnV (W1++[z]))):w.cell? ⟨q,0+W1.length*2+0*1,none⟩=some (.int .i64 z.1)/\w.cell? ⟨q,0+W1.length*2+1*1,none⟩=some (.int .i64 z.2):=by
 obtain⟨q',e,_,_,hc⟩:=h.cell (fun e=>by have:=congrArg List.length e;rw[Y9]at this;simp at this);cases e;have h2:=J2 (W1++[z]) W1.length (by simp);simp only[List.getElem_append_right (Nat.le_refl W1.length),Nat.sub_self,List.getElem_cons_zero]at h2;have e0:0+W1.length*2+0*1=W1.length*2:=by omega
 have e1:0+W1.length*2+1*1=W1.length*2+1:=by omega
 rw[e0,e1];exact⟨hc _ _ h2.1,hc _ _ h2.2⟩
theorem Suf.rng{w:World}{lo bs g o n c:Nat}{x:Int×Int}{xs:List (Int×Int)}(h:Suf w lo bs (.slice (some ⟨g,o,none⟩) n c) (x::xs)):w.rangeAt g o [.int .i64 x.1,.int .i64 x.2]:=by
 obtain⟨g',o',e,_,h2⟩:=h.cons.at_;cases e;exact h2
theorem cmpI_gt{a b:Int}:0<E4 a b↔b<a:=by unfold E4;split<;>(try split)<;>omega
theorem conc3_any{ob bs b t n1 n2 n3 c1 c2 c3 zl:Nat}{A1 A2 A3:Option Addr}{p q r m:List (Int×Int)}(w:World)(hb:Blk w b t #[.slice A1 n1 c1,.slice A2 n2 c2,.slice A3 n3 c3])(h1:Own w zl 90 2 A1 n1 c1 (lnV p))(hn1:n1=p.length)(h2:Suf w ob bs (.slice A2 n2 c2) q)(h3:Suf w ob bs (.slice A3 n3 c3) r)(hm:m= [p,q,r].flatten)(hl:m.length<=1000000):Calls prog 101 #[.slice (some ⟨b,0,none⟩) 3 3] w fun e w'=>(∃ A' cap',e= .returned (.slice A' m.length cap')/\Own w' w.heap.size 90 2 A' m.length cap' (lnV m))/\Bel w w':=by
 obtain⟨e2,l2⟩:=h2.links;obtain⟨e3,l3⟩:=h3.links;subst e2 e3 hn1 hm;exact concl_any (some ⟨b,0,none⟩) 3 [p,q,r] w (GW hb (BY h1) l2 l3) (by simp) oG
theorem X5{w:World}{ob cap k:Nat}{e:TypeId}{A:Option Addr}{xs:List (Int×Int)}{a b:Int}(h:Own w ob e 2 A (xs.length+k) cap (lnV xs++[Value.int .i64 a,Value.int .i64 b]))(hk:k=1):Own w ob e 2 A (xs++[(a,b)]).length cap (lnV (xs++[(a,b)])):=by
 subst hk;rw[List.length_append];have:lnV (xs++[(a,b)])=lnV xs++[Value.int .i64 a,Value.int .i64 b]:=by rw[lnV_app];rfl
 rw[this];exact h
theorem YK(A:Option Addr)(cap:Nat)(xs:List (Int×Int))(z:Int×Int):Value.slice A (xs.length+1) cap=Value.slice A (xs++[z]).length cap:=by rw[List.length_append];rfl
theorem in158:(prog.info? 158).map (fun i=>(i.zero,i.size,i.bytes))=some (some (.agg #[.int .i64 0,.int .i64 0]),2,16):=by kernel_rfl
theorem Fx:(prog.info? 158).map (·.size)=some 2:=by kernel_rfl
theorem ze158:(prog.info? 158).map (·.zero)=some (some (.agg #[.int .i64 0,.int .i64 0])):=by kernel_rfl
set_option maxRecDepth 100000 in
set_option maxHeartbeats 4000000 in
theorem pjoin_any{ob bp bu bd nf x y:Nat}{PA TA LA:Option Addr}{cp ct cl:Nat}{P rep ρ:Nat->Nat}{T:Nat->Int}{V:Nat->Value}{L:Nat->List (Int×Int)}{l:List Ty}{U:List Nd}{J:List (Nat×Nat)}(w0 w:World)(gc:TabIn w0)(hTI:TableIn w0 l bu bd)(hs:Cz l)(hB:Bel w0 w)(fq:w0.heap.size<=ob)(hp:PoolAt w ob bp (.slice (some ⟨bu,0,none⟩) l.length l.length) (.slice (some ⟨bd,0,none⟩) l.length l.length) U.length PA TA LA cp ct cl P T V L)(hbo:bp<ob)(hob:ob<=w.heap.size)(hn:U.length<=1000000)(hnf:nf<=1000)(hUf:∀ i,i<U.length->∀ z∈(nd U i).ln,0<=z.1/\z.1<nf)(hx:x<U.length)(b3:US l U J P rep ρ T L [((x:Int),(y:Int))]):Calls prog 65 #[.pointer (some ⟨bp,0,none⟩),.int .i64 (x:Nat),.int .i64 (y:Nat)] w fun e w'=>(∃ b,e= .returned (.bool b)/\(b=true->∃ P' rep' ρ' T' V' L',PoolAt w' ob bp (.slice (some ⟨bu,0,none⟩) l.length l.length) (.slice (some ⟨bd,0,none⟩) l.length l.length) U.length PA TA LA cp ct cl P' T' V' L'/\US l U J P' rep' ρ' T' L' [])/\(b=false->¬M1 l U J))/\Chg ob [bp] w w'/\ob<=w'.heap.size:=by
 have em:=fq;have g7:=hs.le;have en:=hs;obtain⟨a7,a3,a5,a6,a8,a4⟩:=hp;obtain⟨qp,rfl,hqp,f2,_⟩:=a3.rowc hx;obtain⟨qt,rfl,hqt,ez,_⟩:=a5.rowc hx;obtain⟨ql,rfl,hql,f3,_⟩:=a6.rowc hx;have npt:qp≠qt:=fun e=>a4 qp (by simp[aL]) (by simp[aL,e])
 have npl:qp≠ql:=fun e=>xj a3 a6 dE qp (by simp[aL]) (by simp[aL,e])
 have ntl:qt≠ql:=fun e=>xj a5 a6 dE qt (by simp[aL]) (by simp[aL,e])
 have bw:∀ g∈aL (some (⟨qt,0,none⟩:Addr)),g≠qp:=fun g hg e=>by simp[aL]at hg;omega
 have c2:∀ g∈aL (some (⟨ql,0,none⟩:Addr)),g≠qp:=fun g hg e=>by simp[aL]at hg;omega
 have bz:∀ g∈aL (some (⟨qp,0,none⟩:Addr)),g≠qt:=fun g hg e=>by simp[aL]at hg;omega
 have c1:∀ g∈aL (some (⟨ql,0,none⟩:Addr)),g≠qt:=fun g hg e=>by simp[aL]at hg;omega
 have c0:∀ g∈aL (some (⟨qp,0,none⟩:Addr)),g≠ql:=fun g hg e=>by simp[aL]at hg;omega
 have bx:∀ g∈aL (some (⟨qt,0,none⟩:Addr)),g≠ql:=fun g hg e=>by simp[aL]at hg;omega
 obtain⟨bs,c3⟩:∃ b,b=w.heap.size:=⟨_,rfl⟩
 rw[<- c3]at a8;have a9:bs<=w.heap.size:=aC c3;have a2:Chg ob [bp] w w/\ob<=w.heap.size:=⟨Chg.refl _ _ _,hob⟩
 obtain⟨M0,hM0,hM0b⟩:∃ M0,roots U.length rep*(nf+1)+1<=M0/\M0<=1001000001:=⟨_,ae _,by
   have h1:=roots_le U.length rep;have h2:=Nat.mul_le_mul (nLT h1 hn) (show nf+1<=1001 by omega)
   omega⟩
 refine enter func65 ntmps65 rfl (ay rfl) (vy ?_);refine wl (jk (v0:= .int _ _) (v1:= .int _ _) (fun v0 v1=>#[v0,v1]) rfl rfl kR) ?_;refine qv (cs:=#[_,_]) [(0,.agg _)] rfl CY Fx ze158 dE dE kR rfl (fun b20 w1 g9 t1 hr=>?_);have:=nLL a7.lt hr;have ea:=(fun(g:Nat) hg=>nLL (a3.lt g hg).2 hr)
 have e9:=(fun(g:Nat) hg=>nLL (a5.lt g hg).2 hr)
 have eb:=(fun(g:Nat) hg=>nLL (a6.lt g hg).2 hr)
 have ei:=(nLT a2.2 hr)
 have ec:=(nLT a9 hr)
 have lo20:=nLT (Bel.size hB) hr;replace a8:=fun x hx=>(a8 x hx).tr t1 (by simp)
 replace a2:=And.intro (a2.1.st t1 a2.2 (by simp)) (nLT a2.2 (Same.size t1));replace a9:=nLT a9 (Same.size t1);refine zn4 ?_;replace a7:=a7.tr0 t1;replace a3:=a3.tr0 t1;replace a5:=a5.tr0 t1;replace a6:=a6.tr0 t1;refine qj (rg (rg [] 6 11) 21 154) (fun m g w'=>∃(W:List (Int×Int)) (WA:Option Addr) (b5:Nat) (P rep ρ:Nat->Nat) (T:Nat->Int) (V:Nat->Value) (L:Nat->List (Int×Int)),m=roots U.length rep*(nf+1)+W.length/\m<=M0/\g 7= .slice WA W.length b5/\Bel w0 w'/\Blk w' bp 128 #[.slice (some ⟨bu,0,none⟩) l.length l.length,.slice (some ⟨bd,0,none⟩) l.length l.length,.slice (some ⟨qp,0,none⟩) U.length cp,.slice (some ⟨qt,0,none⟩) U.length ct,.slice (some ⟨ql,0,none⟩) U.length cl]/\Own w' ob 3 1 (some ⟨qp,0,none⟩) U.length cp (jq U.length (vN P))/\Own w' ob 3 1 (some ⟨qt,0,none⟩) U.length ct (jq U.length (vI T))/\Own w' ob 91 1 (some ⟨ql,0,none⟩) U.length cl (jq U.length V)/\(∀ x,x<U.length->RowO w' ob w'.heap.size (V x) (L x))/\Own w' ob 158 2 WA (W).length b5 (lnV (W))/\(Chg ob [bp] w w'/\ob<=w'.heap.size)/\US l U J P rep ρ T L W) (roots U.length rep*(nf+1)+1) ?_ (fun m g2 w2 hI=>?_)
 ·replace hB:=hB.tr0 t1;exact⟨[((x:Int),(y:Int))],_,_,P,rep,ρ,T,V,L,rfl,hM0,rfl,hB,a7,a3,a5,a6,fun x hx=>(a8 x hx).up a9,I9 g9 oG rfl (by show (1:Nat)<=9223372036854775807;decide),a2,b3⟩
 obtain⟨W,WA,b5,P,rep,ρ,T,V,L,hm,hmM,h7,hB,a7,a3,a5,a6,a8,hW,a2,b3⟩:=hI;obtain⟨bs,c3⟩:∃ b,b=w2.heap.size:=⟨_,rfl⟩
 rw[<- c3]at a8;have a9:bs<=w2.heap.size:=aC c3;have f2:=(a3.lt qp (by simp[aL])).2;have ez:=(a5.lt qt (by simp[aL])).2;have f3:=(a6.lt ql (by simp[aL])).2;have g8:=a7.lt;rw[<- c3]at f2 ez f3 g8;refine zK 7 _ h7 nu (zn8 ?_);refine zV rfl (fun c23=>?_) (fun c23=>?_)
 ·obtain⟨W1,z,rfl⟩:=snocP (show 0<W.length by omega);have hwz:=b3.wr z (by simp);obtain⟨xn,hxn⟩:∃ xn:Nat,z.1=(xn:Int):=⟨z.1.toNat,by omega⟩
  obtain⟨yn,hyn⟩:∃ yn:Nat,z.2=(yn:Int):=⟨z.2.toNat,by omega⟩
  have g1:xn<U.length:=by omega
  have fy:yn<U.length:=by omega
  have ex:z.1.toNat=xn:=by omega
  have ey:z.2.toNat=yn:=by omega
  have cf:(W1++[z]).length=W1.length+1:=by simp
  obtain⟨q,rfl,hqb,hqw,_⟩:=hW.cell (fun e=>by have:=congrArg List.length e;rw[Y9]at this;simp at this);have hqcap:=hW.cap_le;have hqm:=hW.max;refine zn4 ?_;refine V8 17 (rg [] 24 17) (aL (some (⟨qp,0,none⟩:Addr))) 8 (fun ix v wv=>match ix with|0=>v= .pointer (some ⟨bp,0,none⟩)|1=>v= .slice (some ⟨q,0,none⟩) (W1++[z]).length b5|2=>v= .slice (some ⟨q,0,none⟩) (W1++[z]).length b5|3=>v= .int .i64 ((W1++[z]).length:Nat)|4=>v= .int .i64 (W1.length:Nat)|5=>v= .pointer (some ⟨q,0+W1.length*2,none⟩)|6=>v= .pointer (some ⟨q,0+W1.length*2+0*1,none⟩)|7=>v= .int .i64 (xn:Nat)|8=>∃ Q:Nat->Nat,v= .int .i64 ((rep xn:Nat):Int)/\Own wv ob 3 1 (some ⟨qp,0,none⟩) U.length cp (jq U.length (vN Q))/\UF U.length Q rep ρ|9=>v= .pointer (some ⟨bp,0,none⟩)|10=>v= .slice (some ⟨q,0,none⟩) (W1++[z]).length b5|11=>v= .slice (some ⟨q,0,none⟩) (W1++[z]).length b5|12=>v= .int .i64 ((W1++[z]).length:Nat)|13=>v= .int .i64 (W1.length:Nat)|14=>v= .pointer (some ⟨q,0+W1.length*2,none⟩)|15=>v= .pointer (some ⟨q,0+W1.length*2+1*1,none⟩)|16=>v= .int .i64 (yn:Nat)|_=>True) (fun _=>True) kR kR ?_ (fun _ _ _ _=>trivial) ?_ ?_ dE ?_
  ·intro ix v wv wv2 h t2
   match ix,h with
   | 0,h=>exact h
   | 1,h=>exact h
   | 2,h=>exact h
   | 3,h=>exact h
   | 4,h=>exact h
   | 5,h=>exact h
   | 6,h=>exact h
   | 7,h=>exact h
   | 8,h=>
    obtain⟨Q,gl,cd,eu⟩:=h;exact⟨Q,gl,cd.tr0 t2,eu⟩
   | 9,h=>exact h
   | 10,h=>exact h
   | 11,h=>exact h
   | 12,h=>exact h
   | 13,h=>exact h
   | 14,h=>exact h
   | 15,h=>exact h
   | 16,h=>exact h
   | _+17,h=>exact trivial
  ·intro ix o hix el ad gg wx t3 hd
   match ix,hix,el,ad with
   | 0,_,_,ad=>
    cases sI ad;refine qQ (xz (v:= .pointer (some _)) rfl) ⟨Same.refl _ _,?_⟩;exact rfl
   | 1,_,_,ad=>
    cases sI ad;refine qQ (xz (v:= .slice _ _ _) rfl) ⟨Same.refl _ _,?_⟩;exact rfl
   | 2,_,_,ad=>
    cases sI ad;refine qQ (xz (v:= .slice _ _ _) rfl) ⟨Same.refl _ _,?_⟩;exact rfl
   | 3,_,_,ad=>
    cases sI ad;refine aW 26 (hd 2 aX) ?_;refine qQ (Oj CY rfl) ⟨Same.refl _ _,?_⟩;exact rfl
   | 4,_,_,ad=>
    cases sI ad;refine aW 27 (hd 3 aX) ?_;refine qQ (jX (c:=(W1.length:Int)) rfl rfl (by rw[cf];omega) oG) ⟨Same.refl _ _,?_⟩;exact rfl
   | 5,_,_,ad=>
    cases sI ad;refine aW 25 (hd 1 aX) (aW 28 (hd 4 aX) ?_);refine qQ (xX (i:=W1.length) CY Fx rfl rfl (by rw[cf];omega) rfl) ⟨Same.refl _ _,?_⟩;exact rfl
   | 6,_,_,ad=>
    cases sI ad;refine aW 29 (hd 5 aX) ?_;refine qQ (Dx (i:=0) underlying158 qV rfl rfl oG rfl) ⟨Same.refl _ _,?_⟩;exact rfl
   | 7,_,_,ad=>
    cases sI ad;replace hW:=hW.tr t3 (fun g hg hx=>xj hW a3 dE g hg hx);refine aW 30 (hd 6 aX) ?_;refine qQ (qW (v:= .int _ _) U3 rfl rfl (by have h:=(cellW hW).1;rw[hxn]at h;exact h)) ⟨Same.refl _ _,?_⟩;exact rfl
   | 8,_,el,_=>exact absurd rfl el
   | 9,_,_,ad=>
    cases sI ad;refine qQ (xz (v:= .pointer (some _)) rfl) ⟨Same.refl _ _,?_⟩;exact rfl
   | 10,_,_,ad=>
    cases sI ad;refine qQ (xz (v:= .slice _ _ _) rfl) ⟨Same.refl _ _,?_⟩;exact rfl
   | 11,_,_,ad=>
    cases sI ad;refine qQ (xz (v:= .slice _ _ _) rfl) ⟨Same.refl _ _,?_⟩;exact rfl
   | 12,_,_,ad=>
    cases sI ad;refine aW 35 (hd 11 aX) ?_;refine qQ (Oj CY rfl) ⟨Same.refl _ _,?_⟩;exact rfl
   | 13,_,_,ad=>
    cases sI ad;refine aW 36 (hd 12 aX) ?_;refine qQ (jX (c:=(W1.length:Int)) rfl rfl (by rw[cf];omega) oG) ⟨Same.refl _ _,?_⟩;exact rfl
   | 14,_,_,ad=>
    cases sI ad;refine aW 34 (hd 10 aX) (aW 37 (hd 13 aX) ?_);refine qQ (xX (i:=W1.length) CY Fx rfl rfl (by rw[cf];omega) rfl) ⟨Same.refl _ _,?_⟩;exact rfl
   | 15,_,_,ad=>
    cases sI ad;refine aW 38 (hd 14 aX) ?_;refine qQ (Dx (i:=1) underlying158 qV rfl rfl oG rfl) ⟨Same.refl _ _,?_⟩;exact rfl
   | 16,_,_,ad=>
    cases sI ad;replace hW:=hW.tr t3 (fun g hg hx=>xj hW a3 dE g hg hx);refine aW 39 (hd 15 aX) ?_;refine qQ (qW (v:= .int _ _) U3 rfl rfl (by have h:=(cellW hW).2;rw[hyn]at h;exact h)) ⟨Same.refl _ _,?_⟩;exact rfl
   | _+17,hix,_,_=>exact absurd hix oG
  ·intro o ad gg wx t4 hd;cases sI ad;replace a8:=fun x hx=>(a8 x hx).tr t4 (by simp)
   replace a2:=And.intro (a2.1.st t4 a2.2 (by simp)) (nLT a2.2 (Same.size t4));replace a9:=nLT a9 (Same.size t4);refine aW 24 (hd 0 aX) (aW 31 (hd 7 aX) ?_);replace a7:=a7.tr0 t4;replace a3:=a3.tr0 t4;refine vw kR (V0 wx a7 a3 hbo b3.uf g1) rfl (fun e' w2 hr=>?_);obtain⟨Q,rfl,cd,eu,bf⟩:=hr;refine⟨_,rfl,bf,⟨_,rfl,cd,eu⟩,trivial,fun kx v el h=>?_⟩
   match kx,el,h with
   | 0,_,h=>exact h
   | 1,_,h=>exact h
   | 2,_,h=>exact h
   | 3,_,h=>exact h
   | 4,_,h=>exact h
   | 5,_,h=>exact h
   | 6,_,h=>exact h
   | 7,_,h=>exact h
   | 8,el,_=>exact absurd rfl el
   | 9,_,h=>exact h
   | 10,_,h=>exact h
   | 11,_,h=>exact h
   | 12,_,h=>exact h
   | 13,_,h=>exact h
   | 14,_,h=>exact h
   | 15,_,h=>exact h
   | 16,_,h=>exact h
   | _+17,_,_=>exact trivial
  intro gg w3 t5 _ hR;have hs0:=t5;replace hB:=hB.tr t5 (fun g hg=>nLT em (a3.lt g hg).1);replace a7:=a7.ta t5 a3;replace a5:=a5.tr t5 (fun g hg hx=>by first|exact xj a5 a3 dE g hg hx|exact a4 g hg hx|exact a4 g hx hg|(have h1:=(a3.lt g hx).1;(try have:=hzz g hg);omega));replace a6:=a6.tr t5 (fun g hg hx=>by first|exact xj a6 a3 dE g hg hx|exact a4 g hg hx|exact a4 g hx hg|(have h1:=(a3.lt g hx).1;(try have:=hzz g hg);omega));replace a8:=fun x hx=>(a8 x hx).tr t5 (fun g hg=>by first|exact .inl (by have:=((a3).lt g hg).1;omega)|(obtain⟨cs,h⟩:=(a3).typ g hg;exact .inr ⟨_,_,h,by decide⟩))
  replace a2:=And.intro (a2.1.st t5 a2.2 (fun g hg=> .inr (by have:=((a3).lt g hg).1;omega))) (nLT a2.2 (Same.size t5));replace hW:=hW.tr t5 (fun g hg hx=>xj hW a3 dE g hg hx);replace a9:=nLT a9 (Same.size t5);have d0:gg 24= .pointer (some ⟨bp,0,none⟩):=hR 0 dE;have e24:=d0;have d8:∃ Q:Nat->Nat,gg 32= .int .i64 ((rep xn:Nat):Int)/\Own w3 ob 3 1 (some ⟨qp,0,none⟩) U.length cp (jq U.length (vN Q))/\UF U.length Q rep ρ:=hR 8 dE;obtain⟨Q,gl,cd,eu⟩:=d8;have d9:gg 33= .pointer (some ⟨bp,0,none⟩):=hR 9 dE;have e33:=d9;have a3:=cd;refine x9 24 _ e24 nu (x9 32 _ gl nu (x9 33 _ e33 nu (x9 40 _ (hR 16 dE) nu ?_)));refine zW kR (V0 _ a7 a3 hbo eu fy) rfl (fun e' w4 hr=>?_);obtain⟨Q2,rfl,g3,et,t6⟩:=hr;replace hB:=hB.tr t6 (fun g hg=>nLT em (a3.lt g hg).1);replace a7:=a7.ta t6 a3;replace a5:=a5.tr t6 (fun g hg hx=>by first|exact xj a5 a3 dE g hg hx|exact a4 g hg hx|exact a4 g hx hg|(have h1:=(a3.lt g hx).1;(try have:=hzz g hg);omega));replace a6:=a6.tr t6 (fun g hg hx=>by first|exact xj a6 a3 dE g hg hx|exact a4 g hg hx|exact a4 g hx hg|(have h1:=(a3.lt g hx).1;(try have:=hzz g hg);omega));replace a8:=fun x hx=>(a8 x hx).tr t6 (fun g hg=>by first|exact .inl (by have:=((a3).lt g hg).1;omega)|(obtain⟨cs,h⟩:=(a3).typ g hg;exact .inr ⟨_,_,h,by decide⟩))
  replace a2:=And.intro (a2.1.st t6 a2.2 (fun g hg=> .inr (by have:=((a3).lt g hg).1;omega))) (nLT a2.2 (Same.size t6));replace hW:=hW.tr t6 (fun g hg hx=>xj hW a3 dE g hg hx);replace a9:=nLT a9 (Same.size t6);have a3:=g3;refine⟨_,rfl,?_⟩;refine zn9 ?_;refine wl (jX (c:=(W1.length:Int)) rfl rfl (by rw[cf];omega) oG) (wl (Dq (h:=W1.length) CY Fx rfl rfl oG) (zn5 ?_));replace hW:Own w4 ob 158 2 (some ⟨q,0,none⟩) (W1).length b5 (lnV (W1)):=by
    have h:=hW.take (k':=W1.length) oG oG;rw[lnV_take]at h
    simpa using h
  refine zn6 ?_;refine zV rfl (fun c49=>?_) (fun c49=>?_)
  ·have cw:US l U J Q2 rep ρ T L (W1++[z]):=⟨et,b3.ty,b3.srt,b3.wr,b3.only,b3.tcov,b3.lcov,b3.jcov,b3.val,b3.ur⟩
   obtain⟨W2,hW2⟩:∃ W2,W2=W1:=⟨_,rfl⟩
   subst hW2;obtain⟨bb,bj⟩:∃ r,r=rep:=⟨_,rfl⟩
   subst bj;have be:=cw.skip (by rw[ex,ey];omega);refine zn3 ?_;refine xK (roots U.length bb*(nf+1)+W2.length) oG agA ?_
   first
     | exact⟨W2,_,_,Jv Q2 b a,bb,UF.rk rep ρ a b,(fun x=>if x=a then (mm:Int)else T x),_,(fun x=>if x=a then xW (L a) (L b)else L x),rfl,by omega,rfl,hB,a7,a3,a5,a6,a8,hW,a2,be⟩
     | exact⟨W2,_,_,Q2,bb,ρ,T,V,L,rfl,by omega,rfl,hB,a7,a3,a5,a6,fun x hx=>(a8 x hx).up a9,hW,a2,be⟩
  obtain⟨a,ha⟩:∃ a,rep xn=a:=⟨_,rfl⟩
  obtain⟨b,hb⟩:∃ b,rep yn=b:=⟨_,rfl⟩
  have hab:a≠b:=fun e=>c49 (by rw[ha,hb,e])
  have cj:a<U.length:=by rw[<- ha];exact b3.uf.rl _ g1
  have cg:b<U.length:=by rw[<- hb];exact b3.uf.rl _ fy
  have hra:rep a=a:=by rw[<- ha];exact b3.uf.two g1
  have hrb:rep b=b:=by rw[<- hb];exact b3.uf.two fy
  have hta1:=b3.ty a cj;have htb1:=b3.ty b cg;obtain⟨ta,ek⟩:∃ t:Nat,T a=(t:Int):=⟨(T a).toNat,by omega⟩
  obtain⟨tb,ej⟩:∃ t:Nat,T b=(t:Int):=⟨(T b).toNat,by omega⟩
  have hLa:(L a).length<=nf:=by
    have:=N0 (nf:=nf) (lo:=0) (b3.srt a cj) (fun z hz=>by
      obtain⟨u,hu,_,hm⟩:=b3.val a cj hra z hz
      exact hUf u hu z hm) (aK _) oG
    omega
  have hLb:(L b).length<=nf:=by
    have:=N0 (nf:=nf) (lo:=0) (b3.srt b cg) (fun z hz=>by
      obtain⟨u,hu,_,hm⟩:=b3.val b cg hrb z hz
      exact hUf u hu z hm) (aK _) oG
    omega
  have cw:US l U J Q2 rep ρ T L (W1++[z]):=⟨et,b3.ty,b3.srt,b3.wr,b3.only,b3.tcov,b3.lcov,b3.jcov,b3.val,b3.ur⟩
  refine zK 8 _ (congrArg (fun(z:Nat)=>Value.int .i64 (z:Int)) ha) nu (zK 9 _ (congrArg (fun(z:Nat)=>Value.int .i64 (z:Int)) hb) nu (zn3 ?_));refine u5 [] [0,1,2,3,4,5,6,7,8,9,10,11,12,13,14,15,16,17,18,19,20,21,22,23,24,25] rfl (fun w5 t7=>?_);replace a8:=fun x hx=>(a8 x hx).tr t7 (by simp)
  replace a2:=And.intro (a2.1.st t7 a2.2 (by simp)) (nLT a2.2 (Same.size t7));replace a9:=nLT a9 (Same.size t7);refine hl rfl (fun _=>xz (v:= .pointer (some _)) rfl) (hl rfl (fun _=>X1 rfl) (zn1 ?_));replace a7:=a7.tr0 t7;refine hlS rfl U84 rfl rfl (range_two a7 rfl rfl) yv (hl rfl (fun _=>xz (v:= .pointer (some _)) rfl) (hl rfl (fun _=>X1 rfl) (zn3 ?_)));refine hl rfl (fun _=>xX (i:=a) U68 qV rfl rfl cj rfl) ?_;replace a5:=a5.tr0 t7;refine hl1 (v:= .int _ _) rfl U3 rfl rfl (by have h:=a5.rowq cj;unfold vI at h;rw[ek]at h;exact h) (hl rfl (fun _=>xz (v:= .pointer (some _)) rfl) (hl rfl (fun _=>X1 rfl) (zn3 ?_)));refine hl rfl (fun _=>xX (i:=b) U68 qV rfl rfl cg rfl) (hl1 (v:= .int _ _) rfl U3 rfl rfl (by have h:=a5.rowq cg;unfold vI at h;rw[ej]at h;exact h) ?_);refine hcl (fun v wv=>v= .tuple #[.int .i64 ((kW l ta tb).1:Nat),.bool (kW l ta tb).2.1,.bool (kW l ta tb).2.2]) rfl kR (Wk l bu bd ta tb w5 (gc.mono hB.u) (hTI.mono hB.u) en.vt g7 oG oG) rfl (fun e' w2 hr=>?_) (fun v69 w6 t8 d69=>?_)
  ·obtain⟨rfl,t9⟩:=hr;exact⟨_,rfl,sB t9,rfl⟩
  replace a8:=fun x hx=>(a8 x hx).tr t8 (by simp)
  replace a2:=And.intro (a2.1.st t8 a2.2 (by simp)) (nLT a2.2 (Same.size t8));replace a9:=nLT a9 (Same.size t8);have e69:=d69;subst e69;refine zn1 ?_;refine hl rfl (fun _=>y8 (v:=_) rfl rfl) (hl rfl (fun _=>y8 (v:=_) rfl rfl) (hl rfl (fun _=>y8 (v:=_) rfl rfl) (jz ?_)));refine ky rfl (fun hf=>?_) (fun hf=>?_)
  ·have hmf:(kW l ta tb).2.1=false:=by simpa using hf
   have hno:=cw.fail en (by rw[ex,ey,ha,hb,ek,ej,Int.toNat_natCast,Int.toNat_natCast];exact hmf);refine jz ?_;exact⟨⟨false,rfl,fun h=>(by cases h),fun _=>hno⟩,a2.1,a2.2⟩
  have hmt:(kW l ta tb).2.1=true:=by simpa using hf
  have hme:=meet_true hmt;obtain⟨mm,hmm⟩:∃ mm,(kW l ta tb).1=mm:=⟨_,rfl⟩
  rw[hmm]at hme;refine zK 10 _ (congrArg (fun(z:Nat)=>Value.int .i64 (z:Int)) hmm) nu ?_;have be:=cw.join en (a:=a) (b:=b) (m:=mm) (by rw[ex];exact ha) (by rw[ey];exact hb) hab (by rw[ek,ej,Int.toNat_natCast,Int.toNat_natCast];exact hme);refine zn3 ?_;replace a3:=a3.tr0 (t7.t t8);obtain⟨g0,cur,fg,_,b9,cz,d2,bg⟩:=a3.open_ (show 0<U.length by omega);cases fg;replace hW:=hW.tr0 (t7.t t8);have ca:=Z3 hW b9 dE;refine ZV (wl (xz (v:= .pointer (some _)) rfl) (wl (X1 rfl) (zn4 ?_)));refine wl (xX (i:=b) U68 qV rfl rfl cg rfl) ?_;refine xZ (v:= .int _ _) b9 rfl rfl qV oG rfl rfl (fun w7 hq cn=>?_);replace hB:=hB.u.tr1 cn (nLT fq (by assumption));replace a5:=a5.tr0 t8;replace a5:=a5.tr1 cn (fun g hg=>by have:=(a5.lt g hg).1;(try have:=bw g hg);omega);replace a6:=a6.tr0 (t7.t t8);replace a6:=a6.tr1 cn (fun g hg=>by have:=(a6.lt g hg).1;(try have:=c2 g hg);omega);replace a8:=fun x hx=>(a8 x hx).tr cn (fun g hg=>by rw[List.mem_singleton.1 hg];first|exact .inr ⟨_,_,b9,by decide⟩|exact .inl oG)
  replace a2:=And.intro (a2.1.st cn a2.2 (fun g hg=>by have h1:=aj.1 hg;first|(left;rw[h1];simp;done)|(right;omega))) (nLT a2.2 (Same.size cn));replace hW:=hW.tr1 cn (fun g hg=>by have:=(hW.lt g hg).1;(try have:=ca g hg);omega);replace a9:=nLT a9 (Same.size cn);replace b9:=hq;replace a7:=(a7.tr0 t8).tr1 cn oG;have a3:Own w7 ob 3 1 (some ⟨qp,0,none⟩) U.length cp (jq U.length (vN (Jv Q2 b a))):=by
    have h:=bg _ _ _ b9;rw[show 0+b*1=b by omega,Nj,uY (g':=vN (Jv Q2 b a)) (fun x _=>by by_cases e:x=b<;>simp[vN,Jv,e])]at h;exact h
  refine zn3 ?_;clear b9 bg d2 cz;obtain⟨g0,cur,fg,_,b9,cz,d2,bg⟩:=a5.open_ (show 0<U.length by omega);cases fg;have c9:=Z3 hW b9 dE;refine ZV (wl (xz (v:= .pointer (some _)) rfl) (wl (X1 rfl) (zn4 ?_)));refine wl (xX (i:=a) U68 qV rfl rfl cj rfl) ?_;refine xZ (v:= .int _ _) b9 rfl rfl qV oG rfl rfl (fun w8 hq cm=>?_);replace hB:=hB.tr1 cm (nLT fq (by assumption));replace a6:=a6.tr1 cm (fun g hg=>by have:=(a6.lt g hg).1;(try have:=c1 g hg);omega);replace a8:=fun x hx=>(a8 x hx).tr cm (fun g hg=>by rw[List.mem_singleton.1 hg];first|exact .inr ⟨_,_,b9,by decide⟩|exact .inl oG)
  replace a2:=And.intro (a2.1.st cm a2.2 (fun g hg=>by have h1:=aj.1 hg;first|(left;rw[h1];simp;done)|(right;omega))) (nLT a2.2 (Same.size cm));replace hW:=hW.tr1 cm (fun g hg=>by have:=(hW.lt g hg).1;(try have:=c9 g hg);omega);replace a9:=nLT a9 (Same.size cm);replace a3:=a3.tr1 cm (fun g hg=>by have:=(a3.lt g hg).1;(try have:=bz g hg);omega);replace b9:=hq;replace a7:=a7.tr1 cm oG;have a5:Own w8 ob 3 1 (some ⟨qt,0,none⟩) U.length ct (jq U.length (vI (fun x=>if x=a then (mm:Int)else T x))):=by
    have h:=bg _ _ _ b9;rw[show 0+a*1=a by omega,Nj,uY (g':=vI (fun x=>if x=a then (mm:Int)else T x)) (fun x _=>by by_cases e:x=a<;>simp[vI,e])]at h;exact h
  refine zn8 ?_;clear b9 bg d2 cz;obtain⟨Ax,cx,hVa,_⟩:=a8 a cj;obtain⟨Ay,cy,hVb,_⟩:=a8 b cg;obtain⟨zl,cv⟩:∃ z,z=w8.heap.size:=⟨_,rfl⟩
  have an:zl<=w8.heap.size:=aC cv;have g6:w0.heap.size<=zl:=by rw[cv];exact Bel.size hB
  have hbl1:bs<=zl:=by rw[cv];exact a9
  have hol:ob<=zl:=by rw[cv];exact a2.2
  refine Qx kR kR (fun w9 c8=>?_);replace a8:=fun x hx=>(a8 x hx).tr c8 (by simp)
  replace a2:=And.intro (a2.1.st c8 a2.2 (by simp)) (nLT a2.2 (Same.size c8));replace a9:=nLT a9 (Same.size c8);replace an:=nLT an (Same.size c8);refine ws (xz (v:= .pointer (some _)) rfl) (ws (X1 rfl) (zn3 ?_));refine ws (xX (i:=a) B3 oW rfl rfl cj rfl) ?_;replace a6:=a6.tr0 c8;refine ws (qW (v:= .slice Ax (L a).length cx) U91 rfl rfl (by have h:=a6.rowq cj;rw[hVa]at h;exact h)) (ws (xz (v:= .pointer (some _)) rfl) (ws (X1 rfl) (zn3 ?_)));refine ws (xX (i:=b) B3 oW rfl rfl cg rfl) (ws (qW (v:= .slice Ay (L b).length cy) U91 rfl rfl (by have h:=a6.rowq cg;rw[hVb]at h;exact h)) (zn2 ?_));refine uW (zn3 ?_);replace a7:=a7.tr0 c8;replace hW:=hW.tr0 c8;replace a3:=a3.tr0 c8;replace a5:=a5.tr0 c8;refine qj (rg [7,13,14,15,16] 103 61) (fun m g w'=>∃(er xs ys W2:List (Int×Int)) (fp fo fn WA:Option Addr) (fm fl fj b5:Nat),m=xs.length+ys.length/\g 13= .slice fp er.length fm/\g 14= .slice fo xs.length fl/\g 15= .slice fn ys.length fj/\g 7= .slice WA W2.length b5/\Bel w0 w'/\Blk w' bp 128 #[.slice (some ⟨bu,0,none⟩) l.length l.length,.slice (some ⟨bd,0,none⟩) l.length l.length,.slice (some ⟨qp,0,none⟩) U.length cp,.slice (some ⟨qt,0,none⟩) U.length ct,.slice (some ⟨ql,0,none⟩) U.length cl]/\Own w' ob 3 1 (some ⟨qp,0,none⟩) U.length cp (jq U.length (vN (Jv Q2 b a)))/\Own w' ob 3 1 (some ⟨qt,0,none⟩) U.length ct (jq U.length (vI (fun x=>if x=a then (mm:Int)else T x)))/\Own w' ob 91 1 (some ⟨ql,0,none⟩) U.length cl (jq U.length V)/\(∀ x,x<U.length->RowO w' ob bs (V x) (L x))/\Own w' ob 158 2 WA (W2).length b5 (lnV (W2))/\(Chg ob [bp] w w'/\ob<=w'.heap.size)/\bs<=w'.heap.size/\zl<=w'.heap.size/\Own w' zl 90 2 fp er.length fm (lnV er)/\Suf w' ob bs (.slice fo xs.length fl) xs/\Suf w' ob bs (.slice fn ys.length fj) ys/\MG (L a) (L b) er xs ys W1 W2) ((L a).length+(L b).length) ?_ (fun m g13 w10 hI=>?_)
  ·replace hB:=hB.tr0 c8;exact⟨[],L a,L b,W1,none,Ax,Ay,_,0,cx,cy,b5,rfl,rfl,rfl,rfl,rfl,hB,a7,a3,a5,a6,a8,hW,a2,a9,an,Own.nil _ _ _ _,by rw[<- hVa];exact Suf.of (a8 a cj),by rw[<- hVb];exact Suf.of (a8 b cg),MG.start _ _ _⟩
  obtain⟨er,xs,ys,W2,fp,fo,fn,WA,fm,fl,fj,b5,f8,h13,h14,h15,h7,hB,a7,a3,a5,a6,a8,hW,a2,a9,an,a1,b1,b2,e8⟩:=hI;refine zK 13 _ h13 nu (zK 14 _ h14 nu (zK 15 _ h15 nu (zK 7 _ h7 nu (xy (xy ?_)))));refine xk (rg [] 103 8) 110 (.bool (decide (0<xs.length/\0<ys.length))) nu ?_ (fun gq=>?_)
  ·refine zn5 ?_;refine zw 106 rfl (fun gi=>?_) (fun gi=>?_)
   ·refine zn7 ?_;refine zQ (e_R ⟨rfl,agA,?_⟩);exact clA
   refine zn4 ?_;refine zQ (e_R ⟨rfl,agA,?_⟩);exact clA
  refine e_S ?_;refine zV rfl (fun d3=>?_) (fun d3=>?_)
  ·obtain⟨zx,xr,rfl⟩:=consP d3.1;obtain⟨zy,yr,rfl⟩:=consP d3.2;obtain⟨gx,ox,rfl,_,_⟩:=b1.cons.at_;obtain⟨gy,oy,rfl,_,_⟩:=b2.cons.at_;have fa:=e8.l;have e7:=e8.l2;simp only[List.length_cons]at fa e7 f8;refine zn4 ?_;refine u5 [] [0,1,2,3,4,5,6,7,8,9] rfl (fun w11 bv=>?_);replace a8:=fun x hx=>(a8 x hx).tr bv (by simp)
   replace a2:=And.intro (a2.1.st bv a2.2 (by simp)) (nLT a2.2 (Same.size bv));replace a9:=nLT a9 (Same.size bv);replace b1:=b1.tr bv (by simp);replace b2:=b2.tr bv (by simp);replace an:=nLT an (Same.size bv);refine zn1 ?_;refine hl rfl (fun _=>xX (i:=0) U91 qJ rfl rfl (by simp) rfl) (zn1 ?_);refine hl1 (v:= .int _ _) rfl U3 rfl rfl (b1.rng 0 _ rfl) (zn1 ?_);refine hl rfl (fun _=>xX (i:=0) U91 qJ rfl rfl (by simp) rfl) (zn1 ?_);refine hl1 (v:= .int _ _) rfl U3 rfl rfl (b2.rng 0 _ rfl) ?_;refine hcl (fun v wv=>v= .int .i64 (E4 zx.1 zy.1)) rfl kR (OX zx.1 zy.1 w11) rfl (fun e' w2 hr=>?_) (fun v119 w12 bt go=>?_)
   ·obtain⟨rfl,t15⟩:=hr;exact⟨_,rfl,sB t15,rfl⟩
   replace a8:=fun x hx=>(a8 x hx).tr bt (by simp)
   replace a2:=And.intro (a2.1.st bt a2.2 (by simp)) (nLT a2.2 (Same.size bt));replace a9:=nLT a9 (Same.size bt);replace b1:=b1.tr bt (by simp);replace b2:=b2.tr bt (by simp);replace an:=nLT an (Same.size bt);have gn:=go;subst gn;refine kQ ?_;replace a7:=a7.tr0 (bv.t bt);replace a6:=a6.tr0 (bv.t bt);replace a3:=a3.tr0 (bv.t bt);replace a5:=a5.tr0 (bv.t bt);replace hW:=hW.tr0 (bv.t bt);replace a1:=a1.tr0 (bv.t bt);refine zV rfl (fun fk=>?_) (fun fk=>?_)
   ·have b8:=e8.left (cmpI_lt.1 fk);obtain⟨c6,b7⟩:∃ s,s=xr:=⟨_,rfl⟩
    obtain⟨c5,b6⟩:∃ s,s=zy::yr:=⟨_,rfl⟩
    have hml:c6.length+c5.length+1=xr.length+1+(yr.length+1):=by rw[b7,b6,List.length_cons];omega
    refine zn4 ?_;refine wl (xX (i:=0) U91 qJ rfl rfl (by simp) rfl) (wl (qZ U90 rfl rfl b1.rng qJ) ?_);refine qv (cs:=#[_,_]) [(0,.agg _)] rfl U91 qJ Q3 dE dE kR rfl (fun b149 w13 fd br hr=>?_);have:=nLL a7.lt hr;have dk:=(fun(g:Nat) hg=>nLL (a6.lt g hg).2 hr)
    have dw:=(nLT a2.2 hr)
    have dq:=(nLT a9 hr)
    have dg:=(fun(g:Nat) hg=>nLL (a3.lt g hg).2 hr)
    have db:=(fun(g:Nat) hg=>nLL (a5.lt g hg).2 hr)
    have ef:=(fun(g:Nat) hg=>nLL (hW.lt g hg).2 hr)
    have cq:=(fun(g:Nat) hg=>nLL (a1.lt g hg).2 hr)
    have d5:=(nLT an hr)
    have lo149:=nLT (Bel.size hB.u) hr;replace a8:=fun x hx=>(a8 x hx).tr br (by simp)
    replace a2:=And.intro (a2.1.st br a2.2 (by simp)) (nLT a2.2 (Same.size br));replace a9:=nLT a9 (Same.size br);replace b1:=b1.tr br (by simp);replace b2:=b2.tr br (by simp);replace an:=nLT an (Same.size br);replace a1:=a1.tr0 br;refine jv U91 V7 rfl dE a1 fd rfl rfl rfl zJ dE oG oG an (fun gf gs w14 f6 bq hg=>?_);replace a7:=a7.tr0 br;have e5:gf≠bp:=neA a1 a7.lt hg
    replace hB:=hB.u.tr bq (fun g hg=>nLT g6 (a1.lt g hg).1);replace a7:=a7.ta bq a1;replace a6:=a6.tr0 br;replace a6:=a6.tr bq (fun g hg hx=>by first|exact xj a6 a1 dE g hg hx|exact a4 g hg hx|exact a4 g hx hg|(have h1:=(a1.lt g hx).1;(try have:=hzz g hg);omega));replace a8:=fun x hx=>(a8 x hx).tr bq (fun g hg=>by first|exact .inl (by have:=((a1).lt g hg).1;omega)|(obtain⟨cs,h⟩:=(a1).typ g hg;exact .inr ⟨_,_,h,by decide⟩))
    replace a2:=And.intro (a2.1.st bq a2.2 (fun g hg=> .inr (by have:=((a1).lt g hg).1;omega))) (nLT a2.2 (Same.size bq));replace a9:=nLT a9 (Same.size bq);replace a3:=a3.tr0 br;replace a3:=a3.tr bq (fun g hg hx=>by first|exact xj a3 a1 dE g hg hx|exact a4 g hg hx|exact a4 g hx hg|(have h1:=(a1.lt g hx).1;(try have:=hzz g hg);omega));replace a5:=a5.tr0 br;replace a5:=a5.tr bq (fun g hg hx=>by first|exact xj a5 a1 dE g hg hx|exact a4 g hg hx|exact a4 g hx hg|(have h1:=(a1.lt g hx).1;(try have:=hzz g hg);omega));replace hW:=hW.tr0 br;replace hW:=hW.tr bq (fun g hg hx=>xj hW a1 dE g hg hx);replace b1:=b1.tr bq (fun g hg=>by first|exact .inl (by have:=((a1).lt g hg).1;omega)|(obtain⟨cs,h⟩:=(a1).typ g hg;exact .inr ⟨_,_,h,by decide⟩));replace b2:=b2.tr bq (fun g hg=>by first|exact .inl (by have:=((a1).lt g hg).1;omega)|(obtain⟨cs,h⟩:=(a1).typ g hg;exact .inr ⟨_,_,h,by decide⟩));replace an:=nLT an (Same.size bq);have b4:=X5 (k:=1) f6 rfl;refine zn3 ?_;replace b1:=b1.cons.next;rw[<- b7]at b1 b8;rw[<- b6]at b2 b8;refine zn2 ?_;refine wl (r_slL (l:=1) U91 qJ rfl rfl (by simp)) (zn4 ?_);refine xK (c6.length+c5.length) oG agA ?_;exact⟨_,c6,c5,_,_,_,_,_,_,_,_,_,rfl,YK _ _ _ _,by first|rfl|(subst b7;rfl),by first|rfl|(subst b6;rfl),by first|rfl|exact YK _ _ _ _,hB,a7,a3,a5,a6,a8,hW,a2,a9,an,b4,b1,b2,b8⟩
   refine zn7 ?_;refine zV rfl (fun fi=>?_) (fun fi=>?_)
   ·have b8:=e8.right (cmpI_gt.1 fi);obtain⟨c6,b7⟩:∃ s,s=zx::xr:=⟨_,rfl⟩
    obtain⟨c5,b6⟩:∃ s,s=yr:=⟨_,rfl⟩
    have hml:c6.length+c5.length+1=xr.length+1+(yr.length+1):=by rw[b7,b6,List.length_cons];omega
    refine zn4 ?_;refine wl (xX (i:=0) U91 qJ rfl rfl (by simp) rfl) (wl (qZ U90 rfl rfl b2.rng qJ) ?_);refine qv (cs:=#[_,_]) [(0,.agg _)] rfl U91 qJ Q3 dE dE kR rfl (fun b160 w15 fc bo hr=>?_);have:=nLL a7.lt hr;have dj:=(fun(g:Nat) hg=>nLL (a6.lt g hg).2 hr)
    have dv:=(nLT a2.2 hr)
    have dp:=(nLT a9 hr)
    have df:=(fun(g:Nat) hg=>nLL (a3.lt g hg).2 hr)
    have da:=(fun(g:Nat) hg=>nLL (a5.lt g hg).2 hr)
    have ee:=(fun(g:Nat) hg=>nLL (hW.lt g hg).2 hr)
    have co:=(fun(g:Nat) hg=>nLL (a1.lt g hg).2 hr)
    have d4:=(nLT an hr)
    have lo160:=nLT (Bel.size hB.u) hr;replace a8:=fun x hx=>(a8 x hx).tr bo (by simp)
    replace a2:=And.intro (a2.1.st bo a2.2 (by simp)) (nLT a2.2 (Same.size bo));replace a9:=nLT a9 (Same.size bo);replace b1:=b1.tr bo (by simp);replace b2:=b2.tr bo (by simp);replace an:=nLT an (Same.size bo);replace a1:=a1.tr0 bo;refine jv U91 V7 rfl dE a1 fc rfl rfl rfl zJ dE oG oG an (fun ge gp w16 f5 bn hg=>?_);replace a7:=a7.tr0 bo;have dz:ge≠bp:=neA a1 a7.lt hg
    replace hB:=hB.u.tr bn (fun g hg=>nLT g6 (a1.lt g hg).1);replace a7:=a7.ta bn a1;replace a6:=a6.tr0 bo;replace a6:=a6.tr bn (fun g hg hx=>by first|exact xj a6 a1 dE g hg hx|exact a4 g hg hx|exact a4 g hx hg|(have h1:=(a1.lt g hx).1;(try have:=hzz g hg);omega));replace a8:=fun x hx=>(a8 x hx).tr bn (fun g hg=>by first|exact .inl (by have:=((a1).lt g hg).1;omega)|(obtain⟨cs,h⟩:=(a1).typ g hg;exact .inr ⟨_,_,h,by decide⟩))
    replace a2:=And.intro (a2.1.st bn a2.2 (fun g hg=> .inr (by have:=((a1).lt g hg).1;omega))) (nLT a2.2 (Same.size bn));replace a9:=nLT a9 (Same.size bn);replace a3:=a3.tr0 bo;replace a3:=a3.tr bn (fun g hg hx=>by first|exact xj a3 a1 dE g hg hx|exact a4 g hg hx|exact a4 g hx hg|(have h1:=(a1.lt g hx).1;(try have:=hzz g hg);omega));replace a5:=a5.tr0 bo;replace a5:=a5.tr bn (fun g hg hx=>by first|exact xj a5 a1 dE g hg hx|exact a4 g hg hx|exact a4 g hx hg|(have h1:=(a1.lt g hx).1;(try have:=hzz g hg);omega));replace hW:=hW.tr0 bo;replace hW:=hW.tr bn (fun g hg hx=>xj hW a1 dE g hg hx);replace b1:=b1.tr bn (fun g hg=>by first|exact .inl (by have:=((a1).lt g hg).1;omega)|(obtain⟨cs,h⟩:=(a1).typ g hg;exact .inr ⟨_,_,h,by decide⟩));replace b2:=b2.tr bn (fun g hg=>by first|exact .inl (by have:=((a1).lt g hg).1;omega)|(obtain⟨cs,h⟩:=(a1).typ g hg;exact .inr ⟨_,_,h,by decide⟩));replace an:=nLT an (Same.size bn);have b4:=X5 (k:=1) f5 rfl;refine zn3 ?_;replace b2:=b2.cons.next;rw[<- b6]at b2 b8;rw[<- b7]at b1 b8;refine zn2 ?_;refine wl (r_slL (l:=1) U91 qJ rfl rfl (by simp)) (zn4 ?_);refine xK (c6.length+c5.length) oG agA ?_;exact⟨_,c6,c5,_,_,_,_,_,_,_,_,_,rfl,YK _ _ _ _,by first|rfl|(subst b7;rfl),by first|rfl|(subst b6;rfl),by first|rfl|exact YK _ _ _ _,hB,a7,a3,a5,a6,a8,hW,a2,a9,an,b4,b1,b2,b8⟩
   have b8:=e8.both (cmpI_eq.1 oG);obtain⟨c6,b7⟩:∃ s,s=xr:=⟨_,rfl⟩
   obtain⟨c5,b6⟩:∃ s,s=yr:=⟨_,rfl⟩
   have hml:c6.length+c5.length+2=xr.length+1+(yr.length+1):=by rw[b7,b6];omega
   refine zn4 ?_;refine wl (xX (i:=0) U91 qJ rfl rfl (by simp) rfl) (wl (qZ U90 rfl rfl b1.rng qJ) ?_);refine qv (cs:=#[_,_]) [(0,.agg _)] rfl U91 qJ Q3 dE dE kR rfl (fun b124 w17 ff bm hr=>?_);have:=nLL a7.lt hr;have dn:=(fun(g:Nat) hg=>nLL (a6.lt g hg).2 hr)
   have dy:=(nLT a2.2 hr)
   have du:=(nLT a9 hr)
   have di:=(fun(g:Nat) hg=>nLL (a3.lt g hg).2 hr)
   have de:=(fun(g:Nat) hg=>nLL (a5.lt g hg).2 hr)
   have eh:=(fun(g:Nat) hg=>nLL (hW.lt g hg).2 hr)
   have cr:=(fun(g:Nat) hg=>nLL (a1.lt g hg).2 hr)
   have d7:=(nLT an hr)
   have lo124:=nLT (Bel.size hB.u) hr;replace a8:=fun x hx=>(a8 x hx).tr bm (by simp)
   replace a2:=And.intro (a2.1.st bm a2.2 (by simp)) (nLT a2.2 (Same.size bm));replace a9:=nLT a9 (Same.size bm);replace b1:=b1.tr bm (by simp);replace b2:=b2.tr bm (by simp);replace an:=nLT an (Same.size bm);replace a1:=a1.tr0 bm;refine jv U91 V7 rfl dE a1 ff rfl rfl rfl zJ dE oG oG an (fun gh gu w18 f7 bk hg=>?_);replace a7:=a7.tr0 bm;have e6:gh≠bp:=neA a1 a7.lt hg
   replace hB:=hB.u.tr bk (fun g hg=>nLT g6 (a1.lt g hg).1);replace a7:=a7.ta bk a1;replace a6:=a6.tr0 bm;replace a6:=a6.tr bk (fun g hg hx=>by first|exact xj a6 a1 dE g hg hx|exact a4 g hg hx|exact a4 g hx hg|(have h1:=(a1.lt g hx).1;(try have:=hzz g hg);omega));replace a8:=fun x hx=>(a8 x hx).tr bk (fun g hg=>by first|exact .inl (by have:=((a1).lt g hg).1;omega)|(obtain⟨cs,h⟩:=(a1).typ g hg;exact .inr ⟨_,_,h,by decide⟩))
   replace a2:=And.intro (a2.1.st bk a2.2 (fun g hg=> .inr (by have:=((a1).lt g hg).1;omega))) (nLT a2.2 (Same.size bk));replace a9:=nLT a9 (Same.size bk);replace a3:=a3.tr0 bm;replace a3:=a3.tr bk (fun g hg hx=>by first|exact xj a3 a1 dE g hg hx|exact a4 g hg hx|exact a4 g hx hg|(have h1:=(a1.lt g hx).1;(try have:=hzz g hg);omega));replace a5:=a5.tr0 bm;replace a5:=a5.tr bk (fun g hg hx=>by first|exact xj a5 a1 dE g hg hx|exact a4 g hg hx|exact a4 g hx hg|(have h1:=(a1.lt g hx).1;(try have:=hzz g hg);omega));replace hW:=hW.tr0 bm;replace hW:=hW.tr bk (fun g hg hx=>xj hW a1 dE g hg hx);replace b1:=b1.tr bk (fun g hg=>by first|exact .inl (by have:=((a1).lt g hg).1;omega)|(obtain⟨cs,h⟩:=(a1).typ g hg;exact .inr ⟨_,_,h,by decide⟩));replace b2:=b2.tr bk (fun g hg=>by first|exact .inl (by have:=((a1).lt g hg).1;omega)|(obtain⟨cs,h⟩:=(a1).typ g hg;exact .inr ⟨_,_,h,by decide⟩));replace an:=nLT an (Same.size bk);have b4:=X5 (k:=1) f7 rfl;refine zn4 ?_;have zo:=fun g hg=>(hW.lt g hg).2
   refine X6 [] [11] [0,1,2,3,4,5,6,7,8,9,10,11,12] rfl (fun w19 bi=>?_);replace a8:=fun x hx=>(a8 x hx).tr bi (by simp)
   replace a2:=And.intro (a2.1.st bi a2.2 (by simp)) (nLT a2.2 (Same.size bi));replace a9:=nLT a9 (Same.size bi);replace b1:=b1.tr bi (by simp);replace b2:=b2.tr bi (by simp);replace an:=nLT an (Same.size bi);refine zn2 ?_;refine hl rfl (fun _=>xX (i:=0) U91 qJ rfl rfl (by simp) rfl) (zn1 ?_);refine hl1 (v:= .int _ _) rfl U3 rfl rfl (b1.rng 1 _ rfl) (zn1 ?_);refine hl rfl (fun _=>xX (i:=0) U91 qJ rfl rfl (by simp) rfl) (zn1 ?_);refine hl1 (v:= .int _ _) rfl U3 rfl rfl (b2.rng 1 _ rfl) (hl rfl (fun _=>jk (v0:= .int _ _) (v1:= .int _ _) (fun v0 v1=>#[v0,v1]) rfl rfl kR) (h1 rfl ?_));refine qv (cs:=#[_,_]) [(0,.agg _)] rfl CY Fx ze158 dE dE kR rfl (fun b136 w20 fe bc hr=>?_);replace a7:=a7.tr0 bi;have:=nLL a7.lt hr;replace a6:=a6.tr0 bi;have dm:=(fun(g:Nat) hg=>nLL (a6.lt g hg).2 hr)
   have dx:=(nLT a2.2 hr)
   have dr:=(nLT a9 hr)
   replace a3:=a3.tr0 bi;have dh:=(fun(g:Nat) hg=>nLL (a3.lt g hg).2 hr)
   replace a5:=a5.tr0 bi;have dc:=(fun(g:Nat) hg=>nLL (a5.lt g hg).2 hr)
   replace hW:=hW.tr0 bi;have eg:=(fun(g:Nat) hg=>nLL (hW.lt g hg).2 hr)
   have d6:=(nLT an hr)
   replace b4:=b4.tr0 bi;have cu:=(fun(g:Nat) hg=>nLL (b4.lt g hg).2 hr)
   have lo136:=nLT (Bel.size hB.u) hr;have ew:=bc;replace a8:=fun x hx=>(a8 x hx).tr bc (by simp)
   replace a2:=And.intro (a2.1.st bc a2.2 (by simp)) (nLT a2.2 (Same.size bc));replace a9:=nLT a9 (Same.size bc);replace b1:=b1.tr bc (by simp);replace b2:=b2.tr bc (by simp);replace an:=nLT an (Same.size bc);refine zQ (E2 ew (h1 rfl ?_));replace hW:=hW.tr0 bc;refine jv CY in158 rfl dE hW fe rfl rfl rfl zJ dE oG oG a2.2 (fun fh ck w21 ce bf hg137=>?_);replace hB:=hB.tr0 (bi.t bc);replace hB:=hB.tr bf (fun g hg=>nLT em (hW.lt g hg).1);replace a7:=a7.tr0 bc;replace a7:=a7.ta bf hW;replace a6:=a6.tr0 bc;replace a6:=a6.tr bf (fun g hg hx=>by first|exact xj a6 hW dE g hg hx|exact a4 g hg hx|exact a4 g hx hg|(have h1:=(hW.lt g hx).1;(try have:=hzz g hg);omega));replace a8:=fun x hx=>(a8 x hx).tr bf (fun g hg=>by first|exact .inl (by have:=((hW).lt g hg).1;omega)|(obtain⟨cs,h⟩:=(hW).typ g hg;exact .inr ⟨_,_,h,by decide⟩))
   replace a2:=And.intro (a2.1.st bf a2.2 (fun g hg=> .inr (by have:=((hW).lt g hg).1;omega))) (nLT a2.2 (Same.size bf));replace a9:=nLT a9 (Same.size bf);replace a3:=a3.tr0 bc;replace a3:=a3.tr bf (fun g hg hx=>by first|exact xj a3 hW dE g hg hx|exact a4 g hg hx|exact a4 g hx hg|(have h1:=(hW.lt g hx).1;(try have:=hzz g hg);omega));replace a5:=a5.tr0 bc;replace a5:=a5.tr bf (fun g hg hx=>by first|exact xj a5 hW dE g hg hx|exact a4 g hg hx|exact a4 g hx hg|(have h1:=(hW.lt g hx).1;(try have:=hzz g hg);omega));replace b1:=b1.tr bf (fun g hg=>by first|exact .inl (by have:=((hW).lt g hg).1;omega)|(obtain⟨cs,h⟩:=(hW).typ g hg;exact .inr ⟨_,_,h,by decide⟩));replace b2:=b2.tr bf (fun g hg=>by first|exact .inl (by have:=((hW).lt g hg).1;omega)|(obtain⟨cs,h⟩:=(hW).typ g hg;exact .inr ⟨_,_,h,by decide⟩));replace an:=nLT an (Same.size bf);replace b4:=b4.tr0 bc;replace b4:=b4.tr bf (fun g hg hx=>xj b4 hW dE g hg hx);obtain⟨fh,ck,gm,ce⟩:∃ g cap,(.slice (some ⟨fh,0,none⟩) (W2.length+1) ck:Value)= .slice (some ⟨g,0,none⟩) (W2.length+1) cap/\Own w21 ob 158 2 (some ⟨g,0,none⟩) (W2.length+1) cap (lnV W2++[.int .i64 zx.2,.int .i64 zy.2]):=⟨_,_,rfl,ce⟩
   cases gm;refine zQ (Hj [] ?_);have hW:=X5 (k:=1) ce rfl;refine zn3 ?_;replace b1:=b1.cons.next;replace b2:=b2.cons.next;rw[<- b7]at b1 b8;rw[<- b6]at b2 b8;refine Qx kR kR (fun w22 bh=>?_);replace a8:=fun x hx=>(a8 x hx).tr bh (by simp)
   replace a2:=And.intro (a2.1.st bh a2.2 (by simp)) (nLT a2.2 (Same.size bh));replace a9:=nLT a9 (Same.size bh);replace b1:=b1.tr bh (by simp);replace b2:=b2.tr bh (by simp);replace an:=nLT an (Same.size bh);refine zn1 ?_;refine ws (r_slL (l:=1) U91 qJ rfl rfl (by simp)) (zn1 ?_);refine ws (r_slL (l:=1) U91 qJ rfl rfl (by simp)) (zn2 ?_);refine uW (e_B (e_B (xK (c6.length+c5.length) oG agA ?_)));replace hB:=hB.tr0 bh;replace a7:=a7.tr0 bh;replace a6:=a6.tr0 bh;replace a3:=a3.tr0 bh;replace a5:=a5.tr0 bh;replace b4:=b4.tr0 bh;replace hW:=hW.tr0 bh;exact⟨_,c6,c5,_,_,_,_,_,_,_,_,_,rfl,YK _ _ _ _,by first|rfl|(subst b7;rfl),by first|rfl|(subst b6;rfl),by first|rfl|exact YK _ _ _ _,hB,a7,a3,a5,a6,a8,hW,a2,a9,an,b4,b1,b2,b8⟩
  obtain⟨fb,g5⟩:=e8.end_ d3;have fa:=e8.l;have e7:=e8.l2;rw[g5]at be;obtain⟨bb,bj⟩:∃ r,r=UF.un rep a b:=⟨_,rfl⟩
  rw[<- bj]at be;have hrj:=LY cg hrb hra hab;rw[<- bj]at hrj;have g4:=aS (nf+1) (show roots U.length bb+1<=roots U.length rep from hrj);rw[Nat.add_mul,Nat.one_mul]at g4;have f9:(xW (L a) (L b)).length<=1000000:=by rw[fb];simp;omega
  refine zn5 ?_;refine uw 11 (rg [] 164 11) (fun _=>false) (fun ix v wv=>match ix with|0=>v= .pointer (some ⟨bp,0,none⟩)|1=>v= .pointer (some ⟨bp,0,none⟩)|2=>v= .pointer (some ⟨bp,4,none⟩)|3=>v= .slice (some ⟨ql,0,none⟩) U.length cl|4=>v= .int .i64 (a:Nat)|5=>v= .slice fp er.length fm|6=>v= .slice fo xs.length fl|7=>v= .slice fn ys.length fj|8=>∃ b,v= .slice (some ⟨b,0,none⟩) 3 3/\Blk wv b 91 #[.slice fp er.length fm,.slice fo xs.length fl,.slice fn ys.length fj]|9=>∃ AC cc,v= .slice AC (xW (L a) (L b)).length cc/\Own wv ob 90 2 AC (xW (L a) (L b)).length cc (lnV (xW (L a) (L b)))|10=>v= .pointer (some ⟨ql,0+a*1,none⟩)|_=>True) kR kR ?_ ?_ ?_
  ·intro ix v wv wv2 h t25
   match ix,h with
   | 0,h=>exact h
   | 1,h=>exact h
   | 2,h=>exact h
   | 3,h=>exact h
   | 4,h=>exact h
   | 5,h=>exact h
   | 6,h=>exact h
   | 7,h=>exact h
   | 8,h=>
    obtain⟨eq,ep,ba⟩:=h;exact⟨eq,ep,ba.tr0 t25⟩
   | 9,h=>
    obtain⟨AC,cc,eo,f4⟩:=h;exact⟨AC,cc,eo,f4.tr0 t25⟩
   | 10,h=>exact h
   | _+11,h=>exact trivial
  ·intro ix o hix ad gg wx es hd a4
   match ix,hix,ad with
   | 0,_,ad=>
    cases sI ad;exact oVq (xz (v:= .pointer (some _)) rfl) rfl
   | 1,_,ad=>
    cases sI ad;refine aW 164 (hd 0 aX) ?_;exact oVq (X1 rfl) rfl
   | 2,_,ad=>
    cases sI ad;refine aW 165 (hd 1 aX) ?_;exact oVq (uK Rx sz126 dE rfl rfl rfl) rfl
   | 3,_,ad=>
    cases sI ad;refine aW 166 (hd 2 aX) ?_;replace a7:=a7.tr0 es;exact oVq (qW (v:= .slice _ _ _) B3 rfl rfl (a7.cell rfl)) rfl
   | 4,_,ad=>
    cases sI ad;exact oVq (xz (v:= .int _ _) rfl) rfl
   | 5,_,ad=>
    cases sI ad;exact oVq (xz (v:= .slice _ _ _) rfl) rfl
   | 6,_,ad=>
    cases sI ad;exact oVq (xz (v:= .slice _ _ _) rfl) rfl
   | 7,_,ad=>
    cases sI ad;exact oVq (xz (v:= .slice _ _ _) rfl) rfl
   | 8,_,ad=>
    cases sI ad;refine aW 169 (hd 5 aX) (aW 170 (hd 6 aX) (aW 171 (hd 7 aX) ?_));refine jZ (fun ops Q K=>?_);refine qv (cs:=#[_,_,_]) [(0,.slice _ _ _),(1,.slice _ _ _),(2,.slice _ _ _)] rfl B3 oW ze91 dE dE kR rfl (fun eq w23 ba t27 hr=>?_);exact K _ _ ⟨t27,⟨_,rfl,ba⟩,fRq hr ba.lt⟩
   | 9,_,ad=>
    cases sI ad;replace a2:=And.intro (a2.1.st es a2.2 (by simp)) (nLT a2.2 (Same.size es));replace b1:=b1.tr es (by simp);replace b2:=b2.tr es (by simp);obtain⟨eq,ep,ba⟩:=hd 8 (zj kR);refine zz 172 _ ep nu ?_;replace a1:=a1.tr0 es;refine vw kR (conc3_any (m:=(xW (L a) (L b))) wx ba a1 rfl b1 b2 fb f9) rfl (fun e' w2 hr=>?_);obtain⟨⟨AC,cc,rfl,f4⟩,t28⟩:=hr;exact⟨_,rfl,sB t28,⟨_,_,rfl,f4.low a2.2⟩,xQ⟩
   | 10,_,ad=>
    cases sI ad;refine aW 167 (hd 3 aX) (aW 168 (hd 4 aX) ?_);exact oVq (xX (i:=a) B3 oW rfl rfl cj rfl) rfl
   | _+11,hix,_=>exact absurd hix oG
  intro gg w24 c7 hR a4;replace a8:=fun x hx=>(a8 x hx).tr c7 (by simp)
  replace a2:=And.intro (a2.1.st c7 a2.2 (by simp)) (nLT a2.2 (Same.size c7));replace a9:=nLT a9 (Same.size c7);replace an:=nLT an (Same.size c7);obtain⟨AC,cc,eo,f4⟩:=hR 9 dE;have ft:=RowO.of (ae ob) f4;obtain⟨s9,hs9⟩:∃ b,b=w24.heap.size:=⟨_,rfl⟩
  rw[<- hs9]at ft;have fv:s9<=w24.heap.size:=aC hs9;replace a6:=a6.tr0 c7;obtain⟨g0,cur,fg,_,b9,cz,d2,bg⟩:=a6.open_ (show 0<U.length by omega);cases fg;replace hW:=hW.tr0 c7;have cb:=Z3 hW b9 dE;replace a1:=a1.tr0 c7;have ed:=Z3 a1 b9 dE;refine x9 173 _ eo nu (x9 174 _ (hR 10 dE) nu ?_);refine xZ (v:= .slice _ _ _) b9 rfl rfl oW oG rfl rfl (fun fu hq c4=>?_);replace hB:=hB.u.tr1 c4 (nLT fq (by assumption));replace a8:=fun x hx=>(a8 x hx).tr c4 (fun g hg=>by rw[List.mem_singleton.1 hg];first|exact .inr ⟨_,_,b9,by decide⟩|exact .inl oG)
  replace a2:=And.intro (a2.1.st c4 a2.2 (fun g hg=>by have h1:=aj.1 hg;first|(left;rw[h1];simp;done)|(right;omega))) (nLT a2.2 (Same.size c4));replace a9:=nLT a9 (Same.size c4);replace a3:=a3.tr0 c7;replace a3:=a3.tr1 c4 (fun g hg=>by have:=(a3.lt g hg).1;(try have:=c0 g hg);omega);replace a5:=a5.tr0 c7;replace a5:=a5.tr1 c4 (fun g hg=>by have:=(a5.lt g hg).1;(try have:=bx g hg);omega);replace hW:=hW.tr1 c4 (fun g hg=>by have:=(hW.lt g hg).1;(try have:=cb g hg);omega);replace an:=nLT an (Same.size c4);replace ft:=ft.tr c4 (fun g hg=>by rw[List.mem_singleton.1 hg];exact .inr ⟨_,_,b9,by decide⟩);replace fv:=nLT fv (Same.size c4);replace b9:=hq;have a6:Own fu ob 91 1 (some ⟨ql,0,none⟩) U.length cl (jq U.length (OV V a (.slice AC (xW (L a) (L b)).length cc))):=by
    have h:=bg _ _ _ b9;rw[show 0+a*1=a by omega,Nj,uY (g':=OV V a (.slice AC (xW (L a) (L b)).length cc)) (fun x _=>by by_cases e:x=a<;>simp[OV,e])]at h;exact h
  replace a8:∀ x,x<U.length->RowO fu ob fu.heap.size (OV V a (.slice AC (xW (L a) (L b)).length cc) x) (if x=a then (xW (L a) (L b))else L x):=fun x hx=>by
    by_cases e:x=a
    · simp only[OV,if_pos e];exact ft.up fv
    · simp only[OV,if_neg e];exact(a8 x hx).up a9
  refine zQ (e_B (xK (roots U.length bb*(nf+1)+W2.length) oG agA ?_));replace a7:=(a7.tr0 c7).tr1 c4 oG
  first
    | exact⟨W2,_,_,Jv Q2 b a,bb,UF.rk rep ρ a b,(fun x=>if x=a then (mm:Int)else T x),_,(fun x=>if x=a then xW (L a) (L b)else L x),rfl,by omega,rfl,hB,a7,a3,a5,a6,a8,hW,a2,be⟩
    | exact⟨W2,_,_,Q2,bb,ρ,T,V,L,rfl,by omega,rfl,hB,a7,a3,a5,a6,fun x hx=>(a8 x hx).up a9,hW,a2,be⟩
 have hW0:W= []:=aB.1 oG;subst hW0;refine jz ?_;exact⟨⟨true,rfl,fun _=>⟨P,rep,ρ,T,V,L,⟨a7,a3,a5,a6,fun x hx=>(a8 x hx).up a9,a4⟩,b3⟩,fun h=>(by cases h)⟩,a2.1,a2.2⟩
end Go.Proofs.YtiofaflajkgiaaaGreatDoor
