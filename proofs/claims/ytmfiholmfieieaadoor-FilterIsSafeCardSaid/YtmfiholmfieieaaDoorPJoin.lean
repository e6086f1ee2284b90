/- What these functions of the program compute, at every world: (*glosswright/unify.pool).join. -/
import Derived.Test.YtmfiholmfieieaaDoorU
import Derived.Test.YtmfiholmfieieaaDoorZst
import Derived.Test.YtmfiholmfieieaaDoorPAdd
namespace Go.Proofs.YtmfiholmfieieaaDoor
open Go.RowKit
variable {W1 W2 X Y acc xs ys:List (Int×Int)}{b ob:Nat}{w:World}{x y:Int×Int}
theorem snocP{W:List (Int×Int)}(h:0<W.length):∃ W1 z,W=W1++[z]:=
 ⟨W.dropLast,W.getLast (fun e=>by rw[e]at h;exact absurd h (aA _)),(List.dropLast_concat_getLast _).symm⟩
theorem range_two{t:Nat}{cs:Array Value}{c0 c1:Value}(h:Blk w b t cs)(h0:cs[0]? =some c0)(h1:cs[1]? =some c1):w.rangeAt b 0 [c0,c1]:=fun j v hj=>by
 match j,hj with
 | 0,hj=>cases hj;exact h.cell h0
 | 1,hj=>cases hj;exact h.cell h1
 | _+2,hj=>cases hj
theorem consP{W:List (Int×Int)}(h:0<W.length):∃ z W1,W=z::W1:=by
 cases W with
 | nil=>exact absurd h (aA _)
 | cons z W1=>exact⟨z,W1,rfl⟩
theorem IW{nf:Nat}:∀ {xs:List (Int×Int)} {lo:Int},Srt xs->(∀ x∈xs,lo<=x.1/\x.1<nf)->0<=lo->lo<=nf->(xs.length:Int)<=nf-lo
 | [],lo,_,_,_,h=>by simp;omega
 | x::xs,lo,hs,hx,h0,hl=>by
  obtain⟨h1,h2⟩:=aP.1 hs
  have h3:=hx x (au ..)
  have:=IW (nf:=nf) (lo:=x.1+1) h2 (fun y hy=>by
   have:=h1 y hy
   have:=hx y (am _ hy)
   omega) oG oG
  rw[List.length_cons];omega
theorem meet_true{l:List Ty}{a:Nat}(h:(jv l a b).2.1=true):jv l a b=((jv l a b).1,true,false):=by
 unfold jv at h ⊢
 split
 ·rename_i h0;rw[if_pos h0]at h;cases h
 ·rename_i h0
  rw[if_neg h0]at h
  split
  ·rename_i h1;rw[if_pos h1]at h;cases h
  ·rfl
theorem W9(h:x.1<y.1):xQ (x::xs) (y::ys)=x::xQ xs (y::ys)/\Q5 (x::xs) (y::ys)=Q5 xs (y::ys):=by
 constructor
 ·rw[xQ,if_pos h]
 ·rw[Q5,if_pos h]
theorem Wz(h:y.1<x.1):xQ (x::xs) (y::ys)=y::xQ (x::xs) ys/\Q5 (x::xs) (y::ys)=Q5 (x::xs) ys:=by
 constructor
 ·rw[xQ,if_neg oG,if_pos h]
 ·rw[Q5,if_neg oG,if_pos h]
theorem Wq(h:x.1=y.1):xQ (x::xs) (y::ys)=x::xQ xs ys/\Q5 (x::xs) (y::ys)=(x.2,y.2)::Q5 xs ys:=by
 constructor
 ·rw[xQ,if_neg oG,if_neg oG]
 ·rw[Q5,if_neg oG,if_neg oG]
structure MG(X Y acc xs ys W1 W2:List (Int×Int)):Prop where
 m:xQ X Y=acc++xQ xs ys
 w:W1++Q5 X Y=W2++Q5 xs ys
 l:acc.length+xs.length+ys.length<=X.length+Y.length
 l2:W2.length+xs.length<=W1.length+X.length
theorem MG.start(X Y W1:List (Int×Int)):MG X Y [] X Y W1 W1:=⟨rfl,rfl,by simp,ae _⟩
theorem MG.left(h:MG X Y acc (x::xs) (y::ys) W1 W2)(hc:x.1<y.1):MG X Y (acc++[x]) xs (y::ys) W1 W2:=
 ⟨by rw[h.m,(W9 hc).1];simp,by rw[h.w,(W9 hc).2],by have:=h.l;simp only[List.length_append,List.length_cons,List.length_nil]at this ⊢;omega,by have:=h.l2;simp only[List.length_cons]at this ⊢;omega⟩
theorem MG.right(h:MG X Y acc (x::xs) (y::ys) W1 W2)(hc:y.1<x.1):MG X Y (acc++[y]) (x::xs) ys W1 W2:=
 ⟨by rw[h.m,(Wz hc).1];simp,by rw[h.w,(Wz hc).2],by have:=h.l;simp only[List.length_append,List.length_cons,List.length_nil]at this ⊢;omega,h.l2⟩
theorem MG.both(h:MG X Y acc (x::xs) (y::ys) W1 W2)(hc:x.1=y.1):MG X Y (acc++[x]) xs ys W1 (W2++[(x.2,y.2)]):=
 ⟨by rw[h.m,(Wq hc).1];simp,by rw[h.w,(Wq hc).2];simp,by have:=h.l;simp only[List.length_append,List.length_cons,List.length_nil]at this ⊢;omega,by have:=h.l2;simp only[List.length_append,List.length_cons,List.length_nil]at this ⊢;omega⟩
theorem MG.end_(h:MG X Y acc xs ys W1 W2)(he:¬(0<xs.length/\0<ys.length)):xQ X Y= [acc,xs,ys].flatten/\W1++Q5 X Y=W2:=by
 have e:xQ xs ys=xs++ys/\Q5 xs ys= []:=by
  cases xs with
  | nil=>simp[xQ,Q5]
  | cons x xs=>
   cases ys with
   | nil=>simp[xQ,Q5]
   | cons y ys=>simp at he
 exact⟨by rw[h.m,e.1];simp,by rw[h.w,e.2];simp⟩
theorem cellW{cap q:Nat}{z:Int×Int}(h:Own w ob 149 2 (some ⟨q,0,none⟩) (W1++[z]).length cap (lnV (W1++[z]))):w.cell? ⟨q,0+W1.length*2+0*1,none⟩=some (.int .i64 z.1)/\w.cell? ⟨q,0+W1.length*2+1*1,none⟩=some (.int .i64 z.2):=by
 obtain⟨q',e,_,_,hc⟩:=h.cell (fun e=>by have:=congrArg List.length e;rw[XX]at this;simp at this);cases e;have h2:=Vz (W1++[z]) W1.length (by simp);simp only[List.getElem_append_right (Nat.le_refl W1.length),Nat.sub_self,List.getElem_cons_zero]at h2;have e0:0+W1.length*2+0*1=W1.length*2:=by omega
 have e1:0+W1.length*2+1*1=W1.length*2+1:=by omega
 rw[e0,e1];exact⟨hc _ _ h2.1,hc _ _ h2.2⟩
theorem Suf.rng{lo bs g o n c:Nat}(h:Suf w lo bs (.slice (some ⟨g,o,none⟩) n c) (x::xs)):w.rangeAt g o [.int .i64 x.1,.int .i64 x.2]:=by
 obtain⟨g',o',e,_,h2⟩:=h.cons.at_;cases e;exact h2
theorem cmpI_gt{a b:Int}:0<N7 a b↔b<a:=by unfold N7;split<;>(try split)<;>omega
theorem conc3_any{bs t n1 n2 n3 c1 c2 c3 zl:Nat}{A1 A2 A3:Option Addr}{p q r m:List (Int×Int)}(w:World)(hb:Blk w b t #[.slice A1 n1 c1,.slice A2 n2 c2,.slice A3 n3 c3])(h1:Own w zl 109 2 A1 n1 c1 (lnV p))(hn1:n1=p.length)(h2:Suf w ob bs (.slice A2 n2 c2) q)(h3:Suf w ob bs (.slice A3 n3 c3) r)(hm:m= [p,q,r].flatten)(hl:m.length<=1000000):Calls Tryd.prog 82 #[.slice (some ⟨b,0,none⟩) 3 3] w fun e w'=>(∃ A' cap',e= .returned (.slice A' m.length cap')/\Own w' w.heap.size 109 2 A' m.length cap' (lnV m))/\Bel w w':=by
 obtain⟨e2,l2⟩:=h2.links;obtain⟨e3,l3⟩:=h3.links;subst e2 e3 hn1 hm;exact concl_any (some ⟨b,0,none⟩) 3 [p,q,r] w (GQ hb (BK h1) l2 l3) (by simp) oG
theorem Qv{cap k:Nat}{e:TypeId}{A:Option Addr}{a b:Int}(h:Own w ob e 2 A (xs.length+k) cap (lnV xs++[Value.int .i64 a,Value.int .i64 b]))(hk:k=1):Own w ob e 2 A (xs++[(a,b)]).length cap (lnV (xs++[(a,b)])):=by
 subst hk;rw[List.length_append];have:lnV (xs++[(a,b)])=lnV xs++[Value.int .i64 a,Value.int .i64 b]:=by rw[lnV_app];rfl
 rw[this];exact h
theorem Y4(A:Option Addr)(cap:Nat)(xs:List (Int×Int))(z:Int×Int):Value.slice A (xs.length+1) cap=Value.slice A (xs++[z]).length cap:=by rw[List.length_append];rfl
theorem DZ:zk Tryd.prog 52=true:=by kernel_rfl
theorem in149:(Tryd.prog.info? 149).map (fun i=>(i.zero,i.size,i.bytes))=some (some (.agg #[.int .i64 0,.int .i64 0]),2,16):=by kernel_rfl
theorem F6:(Tryd.prog.info? 149).map (·.size)=some 2:=by kernel_rfl
theorem ze149:(Tryd.prog.info? 149).map (·.zero)=some (some (.agg #[.int .i64 0,.int .i64 0])):=by kernel_rfl
set_option maxRecDepth 100000 in
set_option maxHeartbeats 4000000 in
theorem pjoin_any{bp bu bd nf x y:Nat}{PA TA LA:Option Addr}{cp ct cl:Nat}{P rep ρ:Nat->Nat}{T:Nat->Int}{V:Nat->Value}{L:Nat->List (Int×Int)}{l:List Ty}{U:List Nd}{J:List (Nat×Nat)}(w0 w:World)(g8:TabIn w0)(hTI:TableIn w0 l bu bd)(hs:I6 l)(hB:Bel w0 w)(fo:w0.heap.size<=ob)(hp:PoolAt w ob bp (.slice (some ⟨bu,0,none⟩) l.length l.length) (.slice (some ⟨bd,0,none⟩) l.length l.length) U.length PA TA LA cp ct cl P T V L)(hbo:bp<ob)(hob:ob<=w.heap.size)(hn:U.length<=1000000)(hnf:nf<=1000)(hUf:∀ i,i<U.length->∀ z∈(nd U i).ln,0<=z.1/\z.1<nf)(hx:x<U.length)(b1:US l U J P rep ρ T L [((x:Int),(y:Int))]):Calls Tryd.prog 58 #[.pointer (some ⟨bp,0,none⟩),.int .i64 (x:Nat),.int .i64 (y:Nat)] w fun e w'=>(∃ b,e= .returned (.bool b)/\(b=true->∃ P' rep' ρ' T' V' L',PoolAt w' ob bp (.slice (some ⟨bu,0,none⟩) l.length l.length) (.slice (some ⟨bd,0,none⟩) l.length l.length) U.length PA TA LA cp ct cl P' T' V' L'/\US l U J P' rep' ρ' T' L' [])/\(b=false->¬K9 l U J))/\Chg ob [bp] w w'/\ob<=w'.heap.size:=by
 have ec:=fo;have g5:=hs.le;have ed:=hs;obtain⟨a2,a4,a5,a6,a3,cg⟩:=hp;obtain⟨qp,rfl,hqp,ew,_⟩:=a4.rowc hx;obtain⟨qt,rfl,hqt,eu,_⟩:=a5.rowc hx;obtain⟨ql,rfl,hql,ez,_⟩:=a6.rowc hx;have npt:qp≠qt:=fun e=>cg qp (by simp[aL]) (by simp[aL,e])
 have npl:qp≠ql:=fun e=>E6 a4 a6 dE qp (by simp[aL]) (by simp[aL,e])
 have ntl:qt≠ql:=fun e=>E6 a5 a6 dE qt (by simp[aL]) (by simp[aL,e])
 have ei:∀ g∈aL (some (⟨qt,0,none⟩:Addr)),g≠qp:=fun g hg e=>by simp[aL]at hg;omega
 have en:∀ g∈aL (some (⟨ql,0,none⟩:Addr)),g≠qp:=fun g hg e=>by simp[aL]at hg;omega
 have ek:∀ g∈aL (some (⟨qp,0,none⟩:Addr)),g≠qt:=fun g hg e=>by simp[aL]at hg;omega
 have em:∀ g∈aL (some (⟨ql,0,none⟩:Addr)),g≠qt:=fun g hg e=>by simp[aL]at hg;omega
 have el:∀ g∈aL (some (⟨qp,0,none⟩:Addr)),g≠ql:=fun g hg e=>by simp[aL]at hg;omega
 have ej:∀ g∈aL (some (⟨qt,0,none⟩:Addr)),g≠ql:=fun g hg e=>by simp[aL]at hg;omega
 obtain⟨bs,bi⟩:∃ b,b=w.heap.size:=⟨_,rfl⟩
 rw[<- bi]at a3;have a7:bs<=w.heap.size:=aF bi;have a1:Chg ob [bp] w w/\ob<=w.heap.size:=⟨Chg.refl _ _ _,hob⟩
 obtain⟨M0,hM0,hM0b⟩:∃ M0,roots U.length rep*(nf+1)+1<=M0/\M0<=1001000001:=⟨_,ae _,by
   have h1:=roots_le U.length rep;have h2:=Nat.mul_le_mul (nLT h1 hn) (show nf+1<=1001 by omega)
   omega⟩
 refine enter Tryd.func58 Tryd.ntmps58 rfl (aE rfl) (jZ ?_);refine VY ?_;refine qj (cs:=#[_,_]) [(0,.agg _)] rfl CK F6 ze149 dE dE kR rfl (fun b20 w1 g7 t1 hr=>?_);have:=a2.ob hr;have dv:=a4.ob hr;have du:=a5.ob hr;have dw:=a6.ob hr;have e8:=(nLT a1.2 hr)
 have dx:=(nLT a7 hr)
 have lo20:=hB.ob hr;replace a3:=qq a3 t1;replace a1:=xx a1 t1;replace a7:=zV a7 t1;refine zn4 ?_;replace a2:=a2.tr0 t1;replace a4:=a4.tr0 t1;replace a5:=a5.tr0 t1;replace a6:=a6.tr0 t1;refine qk (rgq (rgq [] 6 11) 21 154) (fun m g w'=>∃(W:List (Int×Int)) (WA:Option Addr) (b3:Nat) (P rep ρ:Nat->Nat) (T:Nat->Int) (V:Nat->Value) (L:Nat->List (Int×Int)),m=roots U.length rep*(nf+1)+W.length/\m<=M0/\g 7= .slice WA W.length b3/\Bel w0 w'/\Blk w' bp 132 #[.slice (some ⟨bu,0,none⟩) l.length l.length,.slice (some ⟨bd,0,none⟩) l.length l.length,.slice (some ⟨qp,0,none⟩) U.length cp,.slice (some ⟨qt,0,none⟩) U.length ct,.slice (some ⟨ql,0,none⟩) U.length cl]/\Own w' ob 3 1 (some ⟨qp,0,none⟩) U.length cp (vQ U.length (vN P))/\Own w' ob 3 1 (some ⟨qt,0,none⟩) U.length ct (vQ U.length (vI T))/\Own w' ob 105 1 (some ⟨ql,0,none⟩) U.length cl (vQ U.length V)/\(∀ x,x<U.length->RowO w' ob w'.heap.size (V x) (L x))/\Own w' ob 149 2 WA (W).length b3 (lnV (W))/\(Chg ob [bp] w w'/\ob<=w'.heap.size)/\US l U J P rep ρ T L W) (roots U.length rep*(nf+1)+1) ?_ (fun m g2 w2 hI=>?_)
 ·replace hB:=hB.tr0 t1;exact⟨[((x:Int),(y:Int))],_,_,P,rep,ρ,T,V,L,rfl,hM0,rfl,hB,a2,a4,a5,a6,fun x hx=>(a3 x hx).up a7,MX g7 oG rfl (by show (1:Nat)<=9223372036854775807;decide),a1,b1⟩
 obtain⟨W,WA,b3,P,rep,ρ,T,V,L,hm,hmM,h7,hB,a2,a4,a5,a6,a3,hW,a1,b1⟩:=hI;obtain⟨bs,bi⟩:∃ b,b=w2.heap.size:=⟨_,rfl⟩
 rw[<- bi]at a3;have a7:bs<=w2.heap.size:=aF bi;have ew:=(a4.lt qp (by simp[aL])).2;have eu:=(a5.lt qt (by simp[aL])).2;have ez:=(a6.lt ql (by simp[aL])).2;have g6:=a2.lt;rw[<- bi]at ew eu ez g6;refine zZ 7 _ h7 nu (zn8 ?_);refine zK rfl (fun c23=>?_) (fun c23=>?_)
 ·obtain⟨W1,z,rfl⟩:=snocP (show 0<W.length by omega);have hwz:=b1.wr z (by simp);obtain⟨xn,hxn⟩:∃ xn:Nat,z.1=(xn:Int):=⟨z.1.toNat,by omega⟩
  obtain⟨yn,hyn⟩:∃ yn:Nat,z.2=(yn:Int):=⟨z.2.toNat,by omega⟩
  have fv:xn<U.length:=by omega
  have fu:yn<U.length:=by omega
  have ex:z.1.toNat=xn:=by omega
  have ey:z.2.toNat=yn:=by omega
  have c1:(W1++[z]).length=W1.length+1:=by simp
  obtain⟨q,rfl,hqb,hqw,_⟩:=hW.cell (fun e=>by have:=congrArg List.length e;rw[XX]at this;simp at this);have hqcap:=hW.cap_le;have hqm:=hW.max;refine zn4 ?_;refine Yk 17 (rgq [] 24 17) (aL (some (⟨qp,0,none⟩:Addr))) 8 (fun ix v wv=>match ix with|0=>v= .pointer (some ⟨bp,0,none⟩)|1=>v= .slice (some ⟨q,0,none⟩) (W1++[z]).length b3|2=>v= .slice (some ⟨q,0,none⟩) (W1++[z]).length b3|3=>v= .int .i64 ((W1++[z]).length:Nat)|4=>v= .int .i64 (W1.length:Nat)|5=>v= .pointer (some ⟨q,0+W1.length*2,none⟩)|6=>v= .pointer (some ⟨q,0+W1.length*2+0*1,none⟩)|7=>v= .int .i64 (xn:Nat)|8=>∃ Q:Nat->Nat,v= .int .i64 ((rep xn:Nat):Int)/\Own wv ob 3 1 (some ⟨qp,0,none⟩) U.length cp (vQ U.length (vN Q))/\UF U.length Q rep ρ|9=>v= .pointer (some ⟨bp,0,none⟩)|10=>v= .slice (some ⟨q,0,none⟩) (W1++[z]).length b3|11=>v= .slice (some ⟨q,0,none⟩) (W1++[z]).length b3|12=>v= .int .i64 ((W1++[z]).length:Nat)|13=>v= .int .i64 (W1.length:Nat)|14=>v= .pointer (some ⟨q,0+W1.length*2,none⟩)|15=>v= .pointer (some ⟨q,0+W1.length*2+1*1,none⟩)|16=>v= .int .i64 (yn:Nat)|_=>True) (fun _=>True) kR kR ?_ (fun _ _ _ _=>trivial) ?_ ?_ dE ?_
  ·intro ix v wv wv2 h t2
   match ix,h with
   | 0,h=>exact h
   | 1,h=>exact h
   | 2,h=>exact h
   | 3,h=>exact h
   | 4,h=>exact h
   | 5,h=>exact h
   | 6,h=>exact h
   | 7,h=>exact h
   | 8,h=>
    obtain⟨Q,gh,bz,es⟩:=h;exact⟨Q,gh,bz.tr0 t2,es⟩
   | 9,h=>exact h
   | 10,h=>exact h
   | 11,h=>exact h
   | 12,h=>exact h
   | 13,h=>exact h
   | 14,h=>exact h
   | 15,h=>exact h
   | 16,h=>exact h
   | _+17,h=>exact trivial
  ·intro ix o hix eb a8 gg wx t3 hd
   match ix,hix,eb,a8 with
   | 0,_,_,a8=>
    cases sI a8;refine qV (x7 (v:= .pointer (some _)) rfl) ⟨Same.refl _ _,?_⟩;exact rfl
   | 1,_,_,a8=>
    cases sI a8;refine qV (x7 (v:= .slice _ _ _) rfl) ⟨Same.refl _ _,?_⟩;exact rfl
   | 2,_,_,a8=>
    cases sI a8;refine qV (x7 (v:= .slice _ _ _) rfl) ⟨Same.refl _ _,?_⟩;exact rfl
   | 3,_,_,a8=>
    cases sI a8;refine aX 26 (hd 2 aY) ?_;refine qV (O0 CK rfl) ⟨Same.refl _ _,?_⟩;exact rfl
   | 4,_,_,a8=>
    cases sI a8;refine aX 27 (hd 3 aY) ?_;refine qV (Xj (c:=(W1.length:Int)) rfl rfl (by rw[c1];omega) oG) ⟨Same.refl _ _,?_⟩;exact rfl
   | 5,_,_,a8=>
    cases sI a8;refine aX 25 (hd 1 aY) (aX 28 (hd 4 aY) ?_);refine qV (xW (i:=W1.length) CK F6 rfl rfl (by rw[c1];omega) rfl) ⟨Same.refl _ _,?_⟩;exact rfl
   | 6,_,_,a8=>
    cases sI a8;refine aX 29 (hd 5 aY) ?_;refine qV (JK (i:=0) Tryd.underlying149 xv rfl rfl oG rfl) ⟨Same.refl _ _,?_⟩;exact rfl
   | 7,_,_,a8=>
    cases sI a8;replace hW:=hW.c t3;refine aX 30 (hd 6 aY) ?_;refine qV (qW (v:= .int _ _) U3 rfl rfl (by have h:=(cellW hW).1;rw[hxn]at h;exact h)) ⟨Same.refl _ _,?_⟩;exact rfl
   | 8,_,eb,_=>exact absurd rfl eb
   | 9,_,_,a8=>
    cases sI a8;refine qV (x7 (v:= .pointer (some _)) rfl) ⟨Same.refl _ _,?_⟩;exact rfl
   | 10,_,_,a8=>
    cases sI a8;refine qV (x7 (v:= .slice _ _ _) rfl) ⟨Same.refl _ _,?_⟩;exact rfl
   | 11,_,_,a8=>
    cases sI a8;refine qV (x7 (v:= .slice _ _ _) rfl) ⟨Same.refl _ _,?_⟩;exact rfl
   | 12,_,_,a8=>
    cases sI a8;refine aX 35 (hd 11 aY) ?_;refine qV (O0 CK rfl) ⟨Same.refl _ _,?_⟩;exact rfl
   | 13,_,_,a8=>
    cases sI a8;refine aX 36 (hd 12 aY) ?_;refine qV (Xj (c:=(W1.length:Int)) rfl rfl (by rw[c1];omega) oG) ⟨Same.refl _ _,?_⟩;exact rfl
   | 14,_,_,a8=>
    cases sI a8;refine aX 34 (hd 10 aY) (aX 37 (hd 13 aY) ?_);refine qV (xW (i:=W1.length) CK F6 rfl rfl (by rw[c1];omega) rfl) ⟨Same.refl _ _,?_⟩;exact rfl
   | 15,_,_,a8=>
    cases sI a8;refine aX 38 (hd 14 aY) ?_;refine qV (JK (i:=1) Tryd.underlying149 xv rfl rfl oG rfl) ⟨Same.refl _ _,?_⟩;exact rfl
   | 16,_,_,a8=>
    cases sI a8;replace hW:=hW.c t3;refine aX 39 (hd 15 aY) ?_;refine qV (qW (v:= .int _ _) U3 rfl rfl (by have h:=(cellW hW).2;rw[hyn]at h;exact h)) ⟨Same.refl _ _,?_⟩;exact rfl
   | _+17,hix,_,_=>exact absurd hix oG
  ·intro o a8 gg wx t4 hd;cases sI a8;replace a3:=qq a3 t4;replace a1:=xx a1 t4;replace a7:=zV a7 t4;refine aX 24 (hd 0 aY) (aX 31 (hd 7 aY) ?_);replace a2:=a2.tr0 t4;replace a4:=a4.tr0 t4;refine yK kR (Y9 wx a2 a4 hbo b1.uf fv) rfl (fun e' w2 hr=>?_);obtain⟨Q,rfl,bz,es,be⟩:=hr;refine⟨_,rfl,be,⟨_,rfl,bz,es⟩,trivial,fun kx v eb h=>?_⟩
   match kx,eb,h with
   | 0,_,h=>exact h
   | 1,_,h=>exact h
   | 2,_,h=>exact h
   | 3,_,h=>exact h
   | 4,_,h=>exact h
   | 5,_,h=>exact h
   | 6,_,h=>exact h
   | 7,_,h=>exact h
   | 8,eb,_=>exact absurd rfl eb
   | 9,_,h=>exact h
   | 10,_,h=>exact h
   | 11,_,h=>exact h
   | 12,_,h=>exact h
   | 13,_,h=>exact h
   | 14,_,h=>exact h
   | 15,_,h=>exact h
   | 16,_,h=>exact h
   | _+17,_,_=>exact trivial
  intro gg w3 t5 _ hR;have hs0:=t5;replace hB:=hB.tr t5 (fun g hg=>nLT ec (a4.lt g hg).1);replace a2:=a2.ta t5 a4;replace a5:=a5.c t5;replace a6:=a6.c t5;replace a3:=qq a3 t5;replace a1:=xx a1 t5;replace hW:=hW.c t5;replace a7:=zV a7 t5;have d0:gg 24= .pointer (some ⟨bp,0,none⟩):=hR 0 dE;have e24:=d0;have d8:∃ Q:Nat->Nat,gg 32= .int .i64 ((rep xn:Nat):Int)/\Own w3 ob 3 1 (some ⟨qp,0,none⟩) U.length cp (vQ U.length (vN Q))/\UF U.length Q rep ρ:=hR 8 dE;obtain⟨Q,gh,bz,es⟩:=d8;have d9:gg 33= .pointer (some ⟨bp,0,none⟩):=hR 9 dE;have e33:=d9;have a4:=bz;refine xz 24 _ e24 nu (xz 32 _ gh nu (xz 33 _ e33 nu (xz 40 _ (hR 16 dE) nu ?_)));refine zX kR (Y9 _ a2 a4 hbo es fu) rfl (fun e' w4 hr=>?_);obtain⟨Q2,rfl,fy,er,t6⟩:=hr;replace hB:=hB.tr t6 (fun g hg=>nLT ec (a4.lt g hg).1);replace a2:=a2.ta t6 a4;replace a5:=a5.c t6;replace a6:=a6.c t6;replace a3:=qq a3 t6;replace a1:=xx a1 t6;replace hW:=hW.c t6;replace a7:=zV a7 t6;have a4:=fy;refine⟨_,rfl,?_⟩;refine zn9 ?_;refine wl (Xj (c:=(W1.length:Int)) rfl rfl (by rw[c1];omega) oG) (wl (FX (h:=W1.length) CK F6 rfl rfl oG) (zn5 ?_));replace hW:Own w4 ob 149 2 (some ⟨q,0,none⟩) (W1).length b3 (lnV (W1)):=by
    have h:=hW.take (k':=W1.length) oG oG;rw[lnV_take]at h
    simpa using h
  refine zn6 ?_;refine zK rfl (fun c49=>?_) (fun c49=>?_)
  ·have cd:US l U J Q2 rep ρ T L (W1++[z]):=⟨er,b1.ty,b1.srt,b1.wr,b1.only,b1.tcov,b1.lcov,b1.jcov,b1.val,b1.ur⟩
   obtain⟨W2,hW2⟩:∃ W2,W2=W1:=⟨_,rfl⟩
   subst hW2;obtain⟨b9,bf⟩:∃ r,r=rep:=⟨_,rfl⟩
   subst bf;have ba:=cd.skip (by rw[ex,ey];omega);refine zn3 ?_;refine xY (roots U.length b9*(nf+1)+W2.length) oG agA ?_
   first
     | exact⟨W2,_,_,VJ Q2 b a,b9,UF.rk rep ρ a b,(fun x=>if x=a then (mm:Int)else T x),_,(fun x=>if x=a then xQ (L a) (L b)else L x),rfl,by omega,rfl,hB,a2,a4,a5,a6,a3,hW,a1,ba⟩
     | exact⟨W2,_,_,Q2,b9,ρ,T,V,L,rfl,by omega,rfl,hB,a2,a4,a5,a6,fun x hx=>(a3 x hx).up a7,hW,a1,ba⟩
  obtain⟨a,ha⟩:∃ a,rep xn=a:=⟨_,rfl⟩
  obtain⟨b,hb⟩:∃ b,rep yn=b:=⟨_,rfl⟩
  have hab:a≠b:=fun e=>c49 (by rw[ha,hb,e])
  have c3:a<U.length:=by rw[<- ha];exact b1.uf.rl _ fv
  have c2:b<U.length:=by rw[<- hb];exact b1.uf.rl _ fu
  have hra:rep a=a:=by rw[<- ha];exact b1.uf.two fv
  have hrb:rep b=b:=by rw[<- hb];exact b1.uf.two fu
  have hta1:=b1.ty a c3;have htb1:=b1.ty b c2;obtain⟨ta,ea⟩:∃ t:Nat,T a=(t:Int):=⟨(T a).toNat,by omega⟩
  obtain⟨tb,e9⟩:∃ t:Nat,T b=(t:Int):=⟨(T b).toNat,by omega⟩
  have hLa:(L a).length<=nf:=by
    have:=IW (nf:=nf) (lo:=0) (b1.srt a c3) (fun z hz=>by
      obtain⟨u,hu,_,hm⟩:=b1.val a c3 hra z hz
      exact hUf u hu z hm) (aH _) oG
    omega
  have hLb:(L b).length<=nf:=by
    have:=IW (nf:=nf) (lo:=0) (b1.srt b c2) (fun z hz=>by
      obtain⟨u,hu,_,hm⟩:=b1.val b c2 hrb z hz
      exact hUf u hu z hm) (aH _) oG
    omega
  have cd:US l U J Q2 rep ρ T L (W1++[z]):=⟨er,b1.ty,b1.srt,b1.wr,b1.only,b1.tcov,b1.lcov,b1.jcov,b1.val,b1.ur⟩
  refine zZ 8 _ (congrArg (fun(z:Nat)=>Value.int .i64 (z:Int)) ha) nu (zZ 9 _ (congrArg (fun(z:Nat)=>Value.int .i64 (z:Int)) hb) nu (zn3 ?_));refine uV [] [0,1,2,3,4,5,6,7,8,9,10,11,12,13,14,15,16,17,18,19,20,21,22,23,24,25] rfl (fun w5 t7=>?_);replace a3:=qq a3 t7;replace a1:=xx a1 t7;replace a7:=zV a7 t7;refine hl rfl (fun _=>x7 (v:= .pointer (some _)) rfl) (hl rfl (fun _=>Qk rfl) (zn1 ?_));replace a2:=a2.tr0 t7;refine hlS rfl U76 rfl rfl (range_two a2 rfl rfl) Pk (hl rfl (fun _=>x7 (v:= .pointer (some _)) rfl) (hl rfl (fun _=>Qk rfl) (zn3 ?_)));refine hl rfl (fun _=>xW (i:=a) U36 xv rfl rfl c3 rfl) ?_;replace a5:=a5.tr0 t7;refine hl1 (v:= .int _ _) rfl U3 rfl rfl (by have h:=a5.rowq c3;unfold vI at h;rw[ea]at h;exact h) (hl rfl (fun _=>x7 (v:= .pointer (some _)) rfl) (hl rfl (fun _=>Qk rfl) (zn3 ?_)));refine hl rfl (fun _=>xW (i:=b) U36 xv rfl rfl c2 rfl) (hl1 (v:= .int _ _) rfl U3 rfl rfl (by have h:=a5.rowq c2;unfold vI at h;rw[e9]at h;exact h) ?_);refine hcl (fun v wv=>v= .tuple #[.int .i64 ((jv l ta tb).1:Nat),.bool (jv l ta tb).2.1,.bool (jv l ta tb).2.2]) rfl DZ (D6 l bu bd ta tb w5 (g8.mono hB.u) (hTI.mono hB.u) ed.vt g5 oG oG) rfl (fun e' w2 hr=>?_) (fun v69 w6 t8 d69=>?_)
  ·obtain⟨rfl,t9⟩:=hr;exact⟨_,rfl,sB t9,rfl⟩
  replace a3:=qq a3 t8;replace a1:=xx a1 t8;replace a7:=zV a7 t8;have e69:=d69;subst e69;refine zn1 ?_;refine hl rfl (fun _=>yV (v:=_) rfl rfl) (hl rfl (fun _=>yV (v:=_) rfl rfl) (hl rfl (fun _=>yV (v:=_) rfl rfl) (jJ ?_)));refine jW rfl (fun gs=>?_) (fun gs=>?_)
  ·have hmf:(jv l ta tb).2.1=false:=by simpa using gs
   have hno:=cd.fail ed (by rw[ex,ey,ha,hb,ea,e9,Int.toNat_natCast,Int.toNat_natCast];exact hmf);refine jJ ?_;exact⟨⟨false,rfl,fun h=>(by cases h),fun _=>hno⟩,a1.1,a1.2⟩
  have hmt:(jv l ta tb).2.1=true:=by simpa using gs
  have hme:=meet_true hmt;obtain⟨mm,hmm⟩:∃ mm,(jv l ta tb).1=mm:=⟨_,rfl⟩
  rw[hmm]at hme;refine zZ 10 _ (congrArg (fun(z:Nat)=>Value.int .i64 (z:Int)) hmm) nu ?_;have ba:=cd.join ed (a:=a) (b:=b) (m:=mm) (by rw[ex];exact ha) (by rw[ey];exact hb) hab (by rw[ea,e9,Int.toNat_natCast,Int.toNat_natCast];exact hme);refine zn3 ?_;replace a4:=a4.tr0 (t7.t t8);obtain⟨g0,cur,fe,_,b8,ce,cf,bb⟩:=a4.open_ (show 0<U.length by omega);cases fe;replace hW:=hW.tr0 (t7.t t8);have ep:=oK hW b8 dE;refine Zx (wl (x7 (v:= .pointer (some _)) rfl) (wl (Qk rfl) (zn4 ?_)));refine wl (xW (i:=b) U36 xv rfl rfl c2 rfl) ?_;refine xj (v:= .int _ _) b8 rfl rfl xv oG rfl rfl (fun w7 hq cm=>?_);replace hB:=hB.u.tr1 cm (nLT fo (by assumption));replace a5:=a5.tr0 t8;replace a5:=a5.cB cm;replace a6:=a6.tr0 (t7.t t8);replace a6:=a6.cB cm;replace a3:=qq a3 cm;replace a1:=xx a1 cm;replace hW:=hW.cB cm;replace a7:=zV a7 cm;replace b8:=hq;replace a2:=(a2.tr0 t8).tr1 cm oG;have a4:Own w7 ob 3 1 (some ⟨qp,0,none⟩) U.length cp (vQ U.length (vN (VJ Q2 b a))):=by
    have h:=bb _ _ _ b8;rw[show 0+b*1=b by omega,Mk,ux (g':=vN (VJ Q2 b a)) (fun x _=>by by_cases e:x=b<;>simp[vN,VJ,e])]at h;exact h
  refine zn3 ?_;clear b8 bb cf ce;obtain⟨g0,cur,fe,_,b8,ce,cf,bb⟩:=a5.open_ (show 0<U.length by omega);cases fe;have eo:=oK hW b8 dE;refine Zx (wl (x7 (v:= .pointer (some _)) rfl) (wl (Qk rfl) (zn4 ?_)));refine wl (xW (i:=a) U36 xv rfl rfl c3 rfl) ?_;refine xj (v:= .int _ _) b8 rfl rfl xv oG rfl rfl (fun w8 hq ck=>?_);replace hB:=hB.tr1 ck (nLT fo (by assumption));replace a6:=a6.cB ck;replace a3:=qq a3 ck;replace a1:=xx a1 ck;replace hW:=hW.cB ck;replace a7:=zV a7 ck;replace a4:=a4.cB ck;replace b8:=hq;replace a2:=a2.tr1 ck oG;have a5:Own w8 ob 3 1 (some ⟨qt,0,none⟩) U.length ct (vQ U.length (vI (fun x=>if x=a then (mm:Int)else T x))):=by
    have h:=bb _ _ _ b8;rw[show 0+a*1=a by omega,Mk,ux (g':=vI (fun x=>if x=a then (mm:Int)else T x)) (fun x _=>by by_cases e:x=a<;>simp[vI,e])]at h;exact h
  refine zn8 ?_;clear b8 bb cf ce;obtain⟨Ax,cx,hVa,_⟩:=a3 a c3;obtain⟨Ay,cy,hVb,_⟩:=a3 b c2;obtain⟨zl,cb⟩:∃ z,z=w8.heap.size:=⟨_,rfl⟩
  have ab:zl<=w8.heap.size:=aF cb;have g4:w0.heap.size<=zl:=by rw[cb];exact Bel.size hB
  have hbl1:bs<=zl:=by rw[cb];exact a7
  have hol:ob<=zl:=by rw[cb];exact a1.2
  refine Qw kR kR (fun w9 c6=>?_);replace a3:=qq a3 c6;replace a1:=xx a1 c6;replace a7:=zV a7 c6;replace ab:=zV ab c6;refine ws (x7 (v:= .pointer (some _)) rfl) (ws (Qk rfl) (zn3 ?_));refine ws (xW (i:=a) CV kK rfl rfl c3 rfl) ?_;replace a6:=a6.tr0 c6;refine ws (qW (v:= .slice Ax (L a).length cx) jx rfl rfl (by have h:=a6.rowq c3;rw[hVa]at h;exact h)) (ws (x7 (v:= .pointer (some _)) rfl) (ws (Qk rfl) (zn3 ?_)));refine ws (xW (i:=b) CV kK rfl rfl c2 rfl) (ws (qW (v:= .slice Ay (L b).length cy) jx rfl rfl (by have h:=a6.rowq c2;rw[hVb]at h;exact h)) (zn2 ?_));refine o6 (zn3 ?_);replace a2:=a2.tr0 c6;replace hW:=hW.tr0 c6;replace a4:=a4.tr0 c6;replace a5:=a5.tr0 c6;refine qk (rgq [7,13,14,15,16] 103 61) (fun m g w'=>∃(eh xs ys W2:List (Int×Int)) (fn fm fl WA:Option Addr) (fk fj fh b3:Nat),m=xs.length+ys.length/\g 13= .slice fn eh.length fk/\g 14= .slice fm xs.length fj/\g 15= .slice fl ys.length fh/\g 7= .slice WA W2.length b3/\Bel w0 w'/\Blk w' bp 132 #[.slice (some ⟨bu,0,none⟩) l.length l.length,.slice (some ⟨bd,0,none⟩) l.length l.length,.slice (some ⟨qp,0,none⟩) U.length cp,.slice (some ⟨qt,0,none⟩) U.length ct,.slice (some ⟨ql,0,none⟩) U.length cl]/\Own w' ob 3 1 (some ⟨qp,0,none⟩) U.length cp (vQ U.length (vN (VJ Q2 b a)))/\Own w' ob 3 1 (some ⟨qt,0,none⟩) U.length ct (vQ U.length (vI (fun x=>if x=a then (mm:Int)else T x)))/\Own w' ob 105 1 (some ⟨ql,0,none⟩) U.length cl (vQ U.length V)/\(∀ x,x<U.length->RowO w' ob bs (V x) (L x))/\Own w' ob 149 2 WA (W2).length b3 (lnV (W2))/\(Chg ob [bp] w w'/\ob<=w'.heap.size)/\bs<=w'.heap.size/\zl<=w'.heap.size/\Own w' zl 109 2 fn eh.length fk (lnV eh)/\Suf w' ob bs (.slice fm xs.length fj) xs/\Suf w' ob bs (.slice fl ys.length fh) ys/\MG (L a) (L b) eh xs ys W1 W2) ((L a).length+(L b).length) ?_ (fun m g13 w10 hI=>?_)
  ·replace hB:=hB.tr0 c6;exact⟨[],L a,L b,W1,none,Ax,Ay,_,0,cx,cy,b3,rfl,rfl,rfl,rfl,rfl,hB,a2,a4,a5,a6,a3,hW,a1,a7,ab,Own.nil _ _ _ _,by rw[<- hVa];exact Suf.of (a3 a c3),by rw[<- hVb];exact Suf.of (a3 b c2),MG.start _ _ _⟩
  obtain⟨eh,xs,ys,W2,fn,fm,fl,WA,fk,fj,fh,b3,f6,h13,h14,h15,h7,hB,a2,a4,a5,a6,a3,hW,a1,a7,ab,a9,an,ao,dr⟩:=hI;refine zZ 13 _ h13 nu (zZ 14 _ h14 nu (zZ 15 _ h15 nu (zZ 7 _ h7 nu (yz (yz ?_)))));refine yy (rgq [] 103 8) 110 (.bool (decide (0<xs.length/\0<ys.length))) nu ?_ (fun gq=>?_)
  ·refine zn5 ?_;refine zQ 106 rfl (fun gf=>?_) (fun gf=>?_)
   ·refine zn7 ?_;exact vx
   refine zn4 ?_;exact vx
  refine e_S ?_;refine zK rfl (fun cj=>?_) (fun cj=>?_)
  ·obtain⟨zx,xr,rfl⟩:=consP cj.1;obtain⟨zy,yr,rfl⟩:=consP cj.2;obtain⟨gx,ox,rfl,_,_⟩:=an.cons.at_;obtain⟨gy,oy,rfl,_,_⟩:=ao.cons.at_;have f8:=dr.l;have dq:=dr.l2;simp only[List.length_cons]at f8 dq f6;refine zn4 ?_;refine uV [] [0,1,2,3,4,5,6,7,8,9] rfl (fun w11 bt=>?_);replace a3:=qq a3 bt;replace a1:=xx a1 bt;replace a7:=zV a7 bt;replace an:=an.tr bt (by simp);replace ao:=ao.tr bt (by simp);replace ab:=zV ab bt;refine zn1 ?_;refine hl rfl (fun _=>xW (i:=0) jx qy rfl rfl (by simp) rfl) (zn1 ?_);refine hl1 (v:= .int _ _) rfl U3 rfl rfl (an.rng 0 _ rfl) (zn1 ?_);refine hl rfl (fun _=>xW (i:=0) jx qy rfl rfl (by simp) rfl) (zn1 ?_);refine hl1 (v:= .int _ _) rfl U3 rfl rfl (ao.rng 0 _ rfl) ?_;refine hcl (fun v wv=>v= .int .i64 (N7 zx.1 zy.1)) rfl kR (O9 zx.1 zy.1 w11) rfl (fun e' w2 hr=>?_) (fun v119 w12 br gm=>?_)
   ·obtain⟨rfl,t15⟩:=hr;exact⟨_,rfl,sB t15,rfl⟩
   replace a3:=qq a3 br;replace a1:=xx a1 br;replace a7:=zV a7 br;replace an:=an.tr br (by simp);replace ao:=ao.tr br (by simp);replace ab:=zV ab br;have gl:=gm;subst gl;refine gX ?_;replace a2:=a2.tr0 (bt.t br);replace a6:=a6.tr0 (bt.t br);replace a4:=a4.tr0 (bt.t br);replace a5:=a5.tr0 (bt.t br);replace hW:=hW.tr0 (bt.t br);replace a9:=a9.tr0 (bt.t br);refine zK rfl (fun fi=>?_) (fun fi=>?_)
   ·have b6:=dr.left (cmpI_lt.1 fi);obtain⟨bw,b5⟩:∃ s,s=xr:=⟨_,rfl⟩
    obtain⟨bv,b4⟩:∃ s,s=zy::yr:=⟨_,rfl⟩
    have hml:bw.length+bv.length+1=xr.length+1+(yr.length+1):=by rw[b5,b4,List.length_cons];omega
    refine zn4 ?_;refine wl (xW (i:=0) jx qy rfl rfl (by simp) rfl) (wl (qK Y2 rfl rfl an.rng qy) ?_);refine qj (cs:=#[_,_]) [(0,.agg _)] rfl jx qy ZQ dE dE kR rfl (fun b149 w13 fb bq hr=>?_);have:=a2.ob hr;have d7:=a6.ob hr;have di:=(nLT a1.2 hr)
    have de:=(nLT a7 hr)
    have d3:=a4.ob hr;have cv:=a5.ob hr;have e5:=hW.ob hr;have c8:=a9.ob hr;have co:=(nLT ab hr)
    have lo149:=hB.u.ob hr;replace a3:=qq a3 bq;replace a1:=xx a1 bq;replace a7:=zV a7 bq;replace an:=an.tr bq (by simp);replace ao:=ao.tr bq (by simp);replace ab:=zV ab bq;replace a9:=a9.tr0 bq;refine vZ jx X5 rfl dE a9 fb rfl rfl rfl y5 dE oG oG ab (fun gc go w14 f4 bo hg=>?_);replace a2:=a2.tr0 bq;have dn:gc≠bp:=neA a9 a2.lt hg
    replace hB:=hB.u.tr bo (fun g hg=>nLT g4 (a9.lt g hg).1);replace a2:=a2.ta bo a9;replace a6:=a6.tr0 bq;replace a6:=a6.c bo;replace a3:=qq a3 bo;replace a1:=xx a1 bo;replace a7:=zV a7 bo;replace a4:=a4.tr0 bq;replace a4:=a4.c bo;replace a5:=a5.tr0 bq;replace a5:=a5.c bo;replace hW:=hW.tr0 bq;replace hW:=hW.c bo;replace an:=an.c bo;replace ao:=ao.c bo;replace ab:=zV ab bo;have b2:=Qv (k:=1) f4 rfl;refine zn3 ?_;replace an:=an.cons.next;rw[<- b5]at an b6;rw[<- b4]at ao b6;refine zn2 ?_;refine wl (r_slL (l:=1) jx qy rfl rfl (by simp)) (zn4 ?_);refine xY (bw.length+bv.length) oG agA ?_;exact⟨_,bw,bv,_,_,_,_,_,_,_,_,_,rfl,Y4 _ _ _ _,by first|rfl|(subst b5;rfl),by first|rfl|(subst b4;rfl),by first|rfl|exact Y4 _ _ _ _,hB,a2,a4,a5,a6,a3,hW,a1,a7,ab,b2,an,ao,b6⟩
   refine zn7 ?_;refine zK rfl (fun fg=>?_) (fun fg=>?_)
   ·have b6:=dr.right (cmpI_gt.1 fg);obtain⟨bw,b5⟩:∃ s,s=zx::xr:=⟨_,rfl⟩
    obtain⟨bv,b4⟩:∃ s,s=yr:=⟨_,rfl⟩
    have hml:bw.length+bv.length+1=xr.length+1+(yr.length+1):=by rw[b5,b4,List.length_cons];omega
    refine zn4 ?_;refine wl (xW (i:=0) jx qy rfl rfl (by simp) rfl) (wl (qK Y2 rfl rfl ao.rng qy) ?_);refine qj (cs:=#[_,_]) [(0,.agg _)] rfl jx qy ZQ dE dE kR rfl (fun b160 w15 fa bn hr=>?_);have:=a2.ob hr;have d6:=a6.ob hr;have dh:=(nLT a1.2 hr)
    have dc:=(nLT a7 hr)
    have d2:=a4.ob hr;have cu:=a5.ob hr;have dz:=hW.ob hr;have c7:=a9.ob hr;have cn:=(nLT ab hr)
    have lo160:=hB.u.ob hr;replace a3:=qq a3 bn;replace a1:=xx a1 bn;replace a7:=zV a7 bn;replace an:=an.tr bn (by simp);replace ao:=ao.tr bn (by simp);replace ab:=zV ab bn;replace a9:=a9.tr0 bn;refine vZ jx X5 rfl dE a9 fa rfl rfl rfl y5 dE oG oG ab (fun g9 gn w16 f3 bm hg=>?_);replace a2:=a2.tr0 bn;have dm:g9≠bp:=neA a9 a2.lt hg
    replace hB:=hB.u.tr bm (fun g hg=>nLT g4 (a9.lt g hg).1);replace a2:=a2.ta bm a9;replace a6:=a6.tr0 bn;replace a6:=a6.c bm;replace a3:=qq a3 bm;replace a1:=xx a1 bm;replace a7:=zV a7 bm;replace a4:=a4.tr0 bn;replace a4:=a4.c bm;replace a5:=a5.tr0 bn;replace a5:=a5.c bm;replace hW:=hW.tr0 bn;replace hW:=hW.c bm;replace an:=an.c bm;replace ao:=ao.c bm;replace ab:=zV ab bm;have b2:=Qv (k:=1) f3 rfl;refine zn3 ?_;replace ao:=ao.cons.next;rw[<- b4]at ao b6;rw[<- b5]at an b6;refine zn2 ?_;refine wl (r_slL (l:=1) jx qy rfl rfl (by simp)) (zn4 ?_);refine xY (bw.length+bv.length) oG agA ?_;exact⟨_,bw,bv,_,_,_,_,_,_,_,_,_,rfl,Y4 _ _ _ _,by first|rfl|(subst b5;rfl),by first|rfl|(subst b4;rfl),by first|rfl|exact Y4 _ _ _ _,hB,a2,a4,a5,a6,a3,hW,a1,a7,ab,b2,an,ao,b6⟩
   have b6:=dr.both (cmpI_eq.1 oG);obtain⟨bw,b5⟩:∃ s,s=xr:=⟨_,rfl⟩
   obtain⟨bv,b4⟩:∃ s,s=yr:=⟨_,rfl⟩
   have hml:bw.length+bv.length+2=xr.length+1+(yr.length+1):=by rw[b5,b4];omega
   refine zn4 ?_;refine wl (xW (i:=0) jx qy rfl rfl (by simp) rfl) (wl (qK Y2 rfl rfl an.rng qy) ?_);refine qj (cs:=#[_,_]) [(0,.agg _)] rfl jx qy ZQ dE dE kR rfl (fun b124 w17 fd bk hr=>?_);have:=a2.ob hr;have db:=a6.ob hr;have dk:=(nLT a1.2 hr)
   have dg:=(nLT a7 hr)
   have d5:=a4.ob hr;have cz:=a5.ob hr;have e7:=hW.ob hr;have c9:=a9.ob hr;have cr:=(nLT ab hr)
   have lo124:=hB.u.ob hr;replace a3:=qq a3 bk;replace a1:=xx a1 bk;replace a7:=zV a7 bk;replace an:=an.tr bk (by simp);replace ao:=ao.tr bk (by simp);replace ab:=zV ab bk;replace a9:=a9.tr0 bk;refine vZ jx X5 rfl dE a9 fd rfl rfl rfl y5 dE oG oG ab (fun ge gp w18 f5 bj hg=>?_);replace a2:=a2.tr0 bk;have dp:ge≠bp:=neA a9 a2.lt hg
   replace hB:=hB.u.tr bj (fun g hg=>nLT g4 (a9.lt g hg).1);replace a2:=a2.ta bj a9;replace a6:=a6.tr0 bk;replace a6:=a6.c bj;replace a3:=qq a3 bj;replace a1:=xx a1 bj;replace a7:=zV a7 bj;replace a4:=a4.tr0 bk;replace a4:=a4.c bj;replace a5:=a5.tr0 bk;replace a5:=a5.c bj;replace hW:=hW.tr0 bk;replace hW:=hW.c bj;replace an:=an.c bj;replace ao:=ao.c bj;replace ab:=zV ab bj;have b2:=Qv (k:=1) f5 rfl;refine zn4 ?_;have zo:=fun g hg=>(hW.lt g hg).2
   refine Qy [] [11] [0,1,2,3,4,5,6,7,8,9,10,11,12] rfl (fun w19 bh=>?_);replace a3:=qq a3 bh;replace a1:=xx a1 bh;replace a7:=zV a7 bh;replace an:=an.tr bh (by simp);replace ao:=ao.tr bh (by simp);replace ab:=zV ab bh;refine zn2 ?_;refine hl rfl (fun _=>xW (i:=0) jx qy rfl rfl (by simp) rfl) (zn1 ?_);refine hl1 (v:= .int _ _) rfl U3 rfl rfl (an.rng 1 _ rfl) (zn1 ?_);refine hl rfl (fun _=>xW (i:=0) jx qy rfl rfl (by simp) rfl) (zn1 ?_);refine hl1 (v:= .int _ _) rfl U3 rfl rfl (ao.rng 1 _ rfl) (hl rfl (fun _=>My (v0:= .int _ _) (v1:= .int _ _) (fun v0 v1=>#[v0,v1]) rfl rfl kR) (h1 rfl ?_));refine qj (cs:=#[_,_]) [(0,.agg _)] rfl CK F6 ze149 dE dE kR rfl (fun b136 w20 fc bc hr=>?_);replace a2:=a2.tr0 bh;have:=a2.ob hr;replace a6:=a6.tr0 bh;have da:=a6.ob hr;have dj:=(nLT a1.2 hr)
   have df:=(nLT a7 hr)
   replace a4:=a4.tr0 bh;have d4:=a4.ob hr;replace a5:=a5.tr0 bh;have cw:=a5.ob hr;replace hW:=hW.tr0 bh;have e6:=hW.ob hr;have cq:=(nLT ab hr)
   replace b2:=b2.tr0 bh;have ca:=b2.ob hr;have lo136:=hB.u.ob hr;have et:=bc;replace a3:=qq a3 bc;replace a1:=xx a1 bc;replace a7:=zV a7 bc;replace an:=an.tr bc (by simp);replace ao:=ao.tr bc (by simp);replace ab:=zV ab bc;refine x6 (Y1 et (h1 rfl ?_));replace hW:=hW.tr0 bc;refine vZ CK in149 rfl dE hW fc rfl rfl rfl y5 dE oG oG a1.2 (fun ff c4 w21 c0 be hg137=>?_);replace hB:=hB.tr0 (bh.t bc);replace hB:=hB.tr be (fun g hg=>nLT ec (hW.lt g hg).1);replace a2:=a2.tr0 bc;replace a2:=a2.ta be hW;replace a6:=a6.tr0 bc;replace a6:=a6.c be;replace a3:=qq a3 be;replace a1:=xx a1 be;replace a7:=zV a7 be;replace a4:=a4.tr0 bc;replace a4:=a4.c be;replace a5:=a5.tr0 bc;replace a5:=a5.c be;replace an:=an.c be;replace ao:=ao.c be;replace ab:=zV ab be;replace b2:=b2.tr0 bc;replace b2:=b2.c be;obtain⟨ff,c4,gi,c0⟩:∃ g cap,(.slice (some ⟨ff,0,none⟩) (W2.length+1) c4:Value)= .slice (some ⟨g,0,none⟩) (W2.length+1) cap/\Own w21 ob 149 2 (some ⟨g,0,none⟩) (W2.length+1) cap (lnV W2++[.int .i64 zx.2,.int .i64 zy.2]):=⟨_,_,rfl,c0⟩
   cases gi;refine x6 (CQ [] ?_);have hW:=Qv (k:=1) c0 rfl;refine zn3 ?_;replace an:=an.cons.next;replace ao:=ao.cons.next;rw[<- b5]at an b6;rw[<- b4]at ao b6;refine Qw kR kR (fun w22 bg=>?_);replace a3:=qq a3 bg;replace a1:=xx a1 bg;replace a7:=zV a7 bg;replace an:=an.tr bg (by simp);replace ao:=ao.tr bg (by simp);replace ab:=zV ab bg;refine zn1 ?_;refine ws (r_slL (l:=1) jx qy rfl rfl (by simp)) (zn1 ?_);refine ws (r_slL (l:=1) jx qy rfl rfl (by simp)) (zn2 ?_);refine o6 (e_B (e_B (xY (bw.length+bv.length) oG agA ?_)));replace hB:=hB.tr0 bg;replace a2:=a2.tr0 bg;replace a6:=a6.tr0 bg;replace a4:=a4.tr0 bg;replace a5:=a5.tr0 bg;replace b2:=b2.tr0 bg;replace hW:=hW.tr0 bg;exact⟨_,bw,bv,_,_,_,_,_,_,_,_,_,rfl,Y4 _ _ _ _,by first|rfl|(subst b5;rfl),by first|rfl|(subst b4;rfl),by first|rfl|exact Y4 _ _ _ _,hB,a2,a4,a5,a6,a3,hW,a1,a7,ab,b2,an,ao,b6⟩
  obtain⟨f9,g3⟩:=dr.end_ cj;have f8:=dr.l;have dq:=dr.l2;rw[g3]at ba;obtain⟨b9,bf⟩:∃ r,r=UF.un rep a b:=⟨_,rfl⟩
  rw[<- bf]at ba;have hrj:=LV c2 hrb hra hab;rw[<- bf]at hrj;have g1:=Nat.mul_le_mul_right (nf+1) (show roots U.length b9+1<=roots U.length rep from hrj);rw[Nat.add_mul,Nat.one_mul]at g1;have f7:(xQ (L a) (L b)).length<=1000000:=by rw[f9];simp;omega
  refine zn5 ?_;refine Zj 11 (rgq [] 164 11) (fun _=>false) (fun ix v wv=>match ix with|0=>v= .pointer (some ⟨bp,0,none⟩)|1=>v= .pointer (some ⟨bp,0,none⟩)|2=>v= .pointer (some ⟨bp,4,none⟩)|3=>v= .slice (some ⟨ql,0,none⟩) U.length cl|4=>v= .int .i64 (a:Nat)|5=>v= .slice fn eh.length fk|6=>v= .slice fm xs.length fj|7=>v= .slice fl ys.length fh|8=>∃ b,v= .slice (some ⟨b,0,none⟩) 3 3/\Blk wv b 105 #[.slice fn eh.length fk,.slice fm xs.length fj,.slice fl ys.length fh]|9=>∃ AC cc,v= .slice AC (xQ (L a) (L b)).length cc/\Own wv ob 109 2 AC (xQ (L a) (L b)).length cc (lnV (xQ (L a) (L b)))|10=>v= .pointer (some ⟨ql,0+a*1,none⟩)|_=>True) kR kR ?_ ?_ ?_
  ·intro ix v wv wv2 h t25
   match ix,h with
   | 0,h=>exact h
   | 1,h=>exact h
   | 2,h=>exact h
   | 3,h=>exact h
   | 4,h=>exact h
   | 5,h=>exact h
   | 6,h=>exact h
   | 7,h=>exact h
   | 8,h=>
    obtain⟨eg,ef,b7⟩:=h;exact⟨eg,ef,b7.tr0 t25⟩
   | 9,h=>
    obtain⟨AC,cc,ee,f2⟩:=h;exact⟨AC,cc,ee,f2.tr0 t25⟩
   | 10,h=>exact h
   | _+11,h=>exact trivial
  ·intro ix o hix a8 gg wx t26 hd cg
   match ix,hix,a8 with
   | 0,_,a8=>
    cases sI a8;exact oVq (x7 (v:= .pointer (some _)) rfl) rfl
   | 1,_,a8=>
    cases sI a8;refine aX 164 (hd 0 aY) ?_;exact oVq (Qk rfl) rfl
   | 2,_,a8=>
    cases sI a8;refine aX 165 (hd 1 aY) ?_;exact oVq (Z5 R5 sz130 dE rfl rfl rfl) rfl
   | 3,_,a8=>
    cases sI a8;refine aX 166 (hd 2 aY) ?_;replace a2:=a2.tr0 t26;exact oVq (qW (v:= .slice _ _ _) CV rfl rfl (a2.cell rfl)) rfl
   | 4,_,a8=>
    cases sI a8;exact oVq (x7 (v:= .int _ _) rfl) rfl
   | 5,_,a8=>
    cases sI a8;exact oVq (x7 (v:= .slice _ _ _) rfl) rfl
   | 6,_,a8=>
    cases sI a8;exact oVq (x7 (v:= .slice _ _ _) rfl) rfl
   | 7,_,a8=>
    cases sI a8;exact oVq (x7 (v:= .slice _ _ _) rfl) rfl
   | 8,_,a8=>
    cases sI a8;refine aX 169 (hd 5 aY) (aX 170 (hd 6 aY) (aX 171 (hd 7 aY) ?_));refine jK (fun ops Q K=>?_);refine qj (cs:=#[_,_,_]) [(0,.slice _ _ _),(1,.slice _ _ _),(2,.slice _ _ _)] rfl CV kK ze105 dE dE kR rfl (fun eg w23 b7 t27 hr=>?_);exact K _ _ ⟨t27,⟨_,rfl,b7⟩,fRq hr b7.lt⟩
   | 9,_,a8=>
    cases sI a8;replace a1:=xx a1 t26;replace an:=an.tr t26 (by simp);replace ao:=ao.tr t26 (by simp);obtain⟨eg,ef,b7⟩:=hd 8 (zq kR);refine zz 172 _ ef nu ?_;replace a9:=a9.tr0 t26;refine yK kR (conc3_any (m:=(xQ (L a) (L b))) wx b7 a9 rfl an ao f9 f7) rfl (fun e' w2 hr=>?_);obtain⟨⟨AC,cc,rfl,f2⟩,t28⟩:=hr;exact⟨_,rfl,sB t28,⟨_,_,rfl,f2.low a1.2⟩,xk⟩
   | 10,_,a8=>
    cases sI a8;refine aX 167 (hd 3 aY) (aX 168 (hd 4 aY) ?_);exact oVq (xW (i:=a) CV kK rfl rfl c3 rfl) rfl
   | _+11,hix,_=>exact absurd hix oG
  intro gg w24 c5 hR cg;replace a3:=qq a3 c5;replace a1:=xx a1 c5;replace a7:=zV a7 c5;replace ab:=zV ab c5;obtain⟨AC,cc,ee,f2⟩:=hR 9 dE;have fp:=RowO.of (ae ob) f2;obtain⟨s9,hs9⟩:∃ b,b=w24.heap.size:=⟨_,rfl⟩
  rw[<- hs9]at fp;have ft:s9<=w24.heap.size:=aF hs9;replace a6:=a6.tr0 c5;obtain⟨g0,cur,fe,_,b8,ce,cf,bb⟩:=a6.open_ (show 0<U.length by omega);cases fe;replace hW:=hW.tr0 c5;have eq:=oK hW b8 dE;replace a9:=a9.tr0 c5;have dy:=oK a9 b8 dE;refine xz 173 _ ee nu (xz 174 _ (hR 10 dE) nu ?_);refine xj (v:= .slice _ _ _) b8 rfl rfl kK oG rfl rfl (fun fq hq bx=>?_);replace hB:=hB.u.tr1 bx (nLT fo (by assumption));replace a3:=qq a3 bx;replace a1:=xx a1 bx;replace a7:=zV a7 bx;replace a4:=a4.tr0 c5;replace a4:=a4.cB bx;replace a5:=a5.tr0 c5;replace a5:=a5.cB bx;replace hW:=hW.cB bx;replace ab:=zV ab bx;replace fp:=fp.tr bx (fun g hg=>by rw[List.mem_singleton.1 hg];exact .inr ⟨_,_,b8,by decide⟩);replace ft:=zV ft bx;replace b8:=hq;have a6:Own fq ob 105 1 (some ⟨ql,0,none⟩) U.length cl (vQ U.length (Ok V a (.slice AC (xQ (L a) (L b)).length cc))):=by
    have h:=bb _ _ _ b8;rw[show 0+a*1=a by omega,Mk,ux (g':=Ok V a (.slice AC (xQ (L a) (L b)).length cc)) (fun x _=>by by_cases e:x=a<;>simp[Ok,e])]at h;exact h
  replace a3:∀ x,x<U.length->RowO fq ob fq.heap.size (Ok V a (.slice AC (xQ (L a) (L b)).length cc) x) (if x=a then (xQ (L a) (L b))else L x):=fun x hx=>by
    by_cases e:x=a
    · simp only[Ok,if_pos e];exact fp.up ft
    · simp only[Ok,if_neg e];exact(a3 x hx).up a7
  refine x6 (e_B (xY (roots U.length b9*(nf+1)+W2.length) oG agA ?_));replace a2:=(a2.tr0 c5).tr1 bx oG
  first
    | exact⟨W2,_,_,VJ Q2 b a,b9,UF.rk rep ρ a b,(fun x=>if x=a then (mm:Int)else T x),_,(fun x=>if x=a then xQ (L a) (L b)else L x),rfl,by omega,rfl,hB,a2,a4,a5,a6,a3,hW,a1,ba⟩
    | exact⟨W2,_,_,Q2,b9,ρ,T,V,L,rfl,by omega,rfl,hB,a2,a4,a5,a6,fun x hx=>(a3 x hx).up a7,hW,a1,ba⟩
 have hW0:W= []:=aI.1 oG;subst hW0;refine jJ ?_;exact⟨⟨true,rfl,fun _=>⟨P,rep,ρ,T,V,L,⟨a2,a4,a5,a6,fun x hx=>(a3 x hx).up a7,cg⟩,b1⟩,fun h=>(by cases h)⟩,a1.1,a1.2⟩
end Go.Proofs.YtmfiholmfieieaaDoor
