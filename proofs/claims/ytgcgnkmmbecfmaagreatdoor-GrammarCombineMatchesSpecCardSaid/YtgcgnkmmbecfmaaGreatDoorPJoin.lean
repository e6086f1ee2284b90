/- What these functions of the program compute, at every world: (*glosswright/unify.pool).join. -/
import Derived.Test.YtgcgnkmmbecfmaaGreatDoorU
import Derived.Test.YtgcgnkmmbecfmaaGreatDoorZst
import Derived.Test.YtgcgnkmmbecfmaaGreatDoorPAdd
namespace Go.Proofs.YtgcgnkmmbecfmaaGreatDoor
open Go.RowKit
open Go.Proofs.Tryz
variable {W1 W2 X Y acc xs ys:List (Int×Int)}{b ob:Nat}{w:World}{x y:Int×Int}
theorem snocP{W:List (Int×Int)}(h:0<W.length):∃ W1 z,W=W1++[z]:=
 ⟨W.dropLast,W.getLast (fun e=>by rw[e]at h;exact absurd h (aH _)),(List.dropLast_concat_getLast _).symm⟩
theorem range_two{t:Nat}{cs:Array Value}{c0 c1:Value}(h:Blk w b t cs)(h0:cs[0]? =some c0)(h1:cs[1]? =some c1):w.rangeAt b 0 [c0,c1]:=fun j v hj=>by
 match j,hj with
 | 0,hj=>cases hj;exact h.cell h0
 | 1,hj=>cases hj;exact h.cell h1
 | _+2,hj=>cases hj
theorem consP{W:List (Int×Int)}(h:0<W.length):∃ z W1,W=z::W1:=by
 cases W with
 | nil=>exact absurd h (aH _)
 | cons z W1=>exact⟨z,W1,rfl⟩
theorem Jz{nf:Nat}:∀ {xs:List (Int×Int)} {lo:Int},Srt xs->(∀ x∈xs,lo<=x.1/\x.1<nf)->0<=lo->lo<=nf->(xs.length:Int)<=nf-lo
 | [],lo,_,_,_,h=>by simp;omega
 | x::xs,lo,hs,hx,h0,hl=>by
  obtain⟨h1,h2⟩:=aO.1 hs
  have h3:=hx x (aB ..)
  have:=Jz (nf:=nf) (lo:=x.1+1) h2 (fun y hy=>by
   have:=h1 y hy
   have:=hx y (ar _ hy)
   omega) oG oG
  rw[List.length_cons];omega
theorem meet_true{l:List Ty}{a:Nat}(h:(meet l a b).2.1=true):meet l a b=((meet l a b).1,true,false):=by
 unfold meet at h ⊢
 split
 ·rename_i h0;rw[if_pos h0]at h;cases h
 ·rename_i h0
  rw[if_neg h0]at h
  split
  ·rename_i h1;rw[if_pos h1]at h;cases h
  ·rfl
theorem LV(h:x.1<y.1):y7 (x::xs) (y::ys)=x::y7 xs (y::ys)/\Zv (x::xs) (y::ys)=Zv xs (y::ys):=by
 constructor
 ·rw[y7,if_pos h]
 ·rw[Zv,if_pos h]
theorem LW(h:y.1<x.1):y7 (x::xs) (y::ys)=y::y7 (x::xs) ys/\Zv (x::xs) (y::ys)=Zv (x::xs) ys:=by
 constructor
 ·rw[y7,if_neg oG,if_pos h]
 ·rw[Zv,if_neg oG,if_pos h]
theorem LY(h:x.1=y.1):y7 (x::xs) (y::ys)=x::y7 xs ys/\Zv (x::xs) (y::ys)=(x.2,y.2)::Zv xs ys:=by
 constructor
 ·rw[y7,if_neg oG,if_neg oG]
 ·rw[Zv,if_neg oG,if_neg oG]
structure MG(X Y acc xs ys W1 W2:List (Int×Int)):Prop where
 m:y7 X Y=acc++y7 xs ys
 w:W1++Zv X Y=W2++Zv xs ys
 l:acc.length+xs.length+ys.length<=X.length+Y.length
 l2:W2.length+xs.length<=W1.length+X.length
theorem MG.start(X Y W1:List (Int×Int)):MG X Y [] X Y W1 W1:=⟨rfl,rfl,by simp,ah _⟩
theorem MG.left(h:MG X Y acc (x::xs) (y::ys) W1 W2)(hc:x.1<y.1):MG X Y (acc++[x]) xs (y::ys) W1 W2:=
 ⟨by rw[h.m,(LV hc).1];simp,by rw[h.w,(LV hc).2],by have:=h.l;simp only[List.length_append,List.length_cons,List.length_nil]at this ⊢;omega,by have:=h.l2;simp only[List.length_cons]at this ⊢;omega⟩
theorem MG.right(h:MG X Y acc (x::xs) (y::ys) W1 W2)(hc:y.1<x.1):MG X Y (acc++[y]) (x::xs) ys W1 W2:=
 ⟨by rw[h.m,(LW hc).1];simp,by rw[h.w,(LW hc).2],by have:=h.l;simp only[List.length_append,List.length_cons,List.length_nil]at this ⊢;omega,h.l2⟩
theorem MG.both(h:MG X Y acc (x::xs) (y::ys) W1 W2)(hc:x.1=y.1):MG X Y (acc++[x]) xs ys W1 (W2++[(x.2,y.2)]):=
 ⟨by rw[h.m,(LY hc).1];simp,by rw[h.w,(LY hc).2];simp,by have:=h.l;simp only[List.length_append,List.length_cons,List.length_nil]at this ⊢;omega,by have:=h.l2;simp only[List.length_append,List.length_cons,List.length_nil]at this ⊢;omega⟩
theorem MG.end_(h:MG X Y acc xs ys W1 W2)(he:¬(0<xs.length/\0<ys.length)):y7 X Y= [acc,xs,ys].flatten/\W1++Zv X Y=W2:=by
 have e:y7 xs ys=xs++ys/\Zv xs ys= []:=by
  cases xs with
  | nil=>simp[y7,Zv]
  | cons x xs=>
   cases ys with
   | nil=>simp[y7,Zv]
   | cons y ys=>simp at he
 exact⟨by rw[h.m,e.1];simp,by rw[h.w,e.2];simp⟩
theorem cellW{cap q:Nat}{z:Int×Int}(h:Own w ob 154 2 (some ⟨q,0,none⟩) (W1++[z]).length cap (lnV (W1++[z]))):w.cell? ⟨q,0+W1.length*2+0*1,none⟩=some (.int .i64 z.1)/\w.cell? ⟨q,0+W1.length*2+1*1,none⟩=some (.int .i64 z.2):=by
 obtain⟨q',e,_,_,hc⟩:=h.cell (fun e=>by have:=congrArg List.length e;rw[Q6]at this;simp at this);cases e;have h2:=YY (W1++[z]) W1.length (by simp);simp only[List.getElem_append_right (Nat.le_refl W1.length),Nat.sub_self,List.getElem_cons_zero]at h2;have e0:0+W1.length*2+0*1=W1.length*2:=by omega
 have e1:0+W1.length*2+1*1=W1.length*2+1:=by omega
 rw[e0,e1];exact⟨hc _ _ h2.1,hc _ _ h2.2⟩
theorem Suf.rng{lo bs g o n c:Nat}(h:Suf w lo bs (.slice (some ⟨g,o,none⟩) n c) (x::xs)):w.rangeAt g o [.int .i64 x.1,.int .i64 x.2]:=by
 obtain⟨g',o',e,_,h2⟩:=h.cons.at_;cases e;exact h2
theorem cmpI_gt{a b:Int}:0<EZ a b↔b<a:=by unfold EZ;split<;>(try split)<;>omega
theorem conc3_any{bs t n1 n2 n3 c1 c2 c3 zl:Nat}{A1 A2 A3:Option Addr}{p q r m:List (Int×Int)}(w:World)(hb:Blk w b t #[.slice A1 n1 c1,.slice A2 n2 c2,.slice A3 n3 c3])(h1:Own w zl 83 2 A1 n1 c1 (lnV p))(hn1:n1=p.length)(h2:Suf w ob bs (.slice A2 n2 c2) q)(h3:Suf w ob bs (.slice A3 n3 c3) r)(hm:m= [p,q,r].flatten)(hl:m.length<=1000000):Calls prog 97 #[.slice (some ⟨b,0,none⟩) 3 3] w fun e w'=>(∃ A' cap',e= .returned (.slice A' m.length cap')/\Own w' w.heap.size 83 2 A' m.length cap' (lnV m))/\Bel w w':=by
 obtain⟨e2,l2⟩:=h2.links;obtain⟨e3,l3⟩:=h3.links;subst e2 e3 hn1 hm;exact concl_any (some ⟨b,0,none⟩) 3 [p,q,r] w (lmat_three hb (Oj h1) l2 l3) (by simp) oG
theorem Xq{cap k:Nat}{e:TypeId}{A:Option Addr}{a b:Int}(h:Own w ob e 2 A (xs.length+k) cap (lnV xs++[Value.int .i64 a,Value.int .i64 b]))(hk:k=1):Own w ob e 2 A (xs++[(a,b)]).length cap (lnV (xs++[(a,b)])):=by
 subst hk;rw[List.length_append];have:lnV (xs++[(a,b)])=lnV xs++[Value.int .i64 a,Value.int .i64 b]:=by rw[E9];rfl
 rw[this];exact h
theorem Vv(A:Option Addr)(cap:Nat)(xs:List (Int×Int))(z:Int×Int):Value.slice A (xs.length+1) cap=Value.slice A (xs++[z]).length cap:=by rw[List.length_append];rfl
theorem in154:(prog.info? 154).map (fun i=>(i.zero,i.size,i.bytes))=some (some (.agg #[.int .i64 0,.int .i64 0]),2,16):=by kernel_rfl
theorem HX:(prog.info? 154).map (·.size)=some 2:=by kernel_rfl
theorem MZ:(prog.info? 74).map (·.size)=some 2:=by kernel_rfl
theorem ze154:(prog.info? 154).map (·.zero)=some (some (.agg #[.int .i64 0,.int .i64 0])):=by kernel_rfl
set_option maxRecDepth 100000 in
set_option maxHeartbeats 4000000 in
theorem pjoin_any{bp bu bd nf x y:Nat}{PA TA LA:Option Addr}{cp ct cl:Nat}{P rep ρ:Nat->Nat}{T:Nat->Int}{V:Nat->Value}{L:Nat->List (Int×Int)}{l:List Ty}{U:List Nd}{J:List (Nat×Nat)}(w0 w:World)(gf:TabIn w0)(hTI:TableIn w0 l bu bd)(hs:V5 l)(hB:Bel w0 w)(fu:w0.heap.size<=ob)(hp:PoolAt w ob bp (.slice (some ⟨bu,0,none⟩) l.length l.length) (.slice (some ⟨bd,0,none⟩) l.length l.length) U.length PA TA LA cp ct cl P T V L)(hbo:bp<ob)(hob:ob<=w.heap.size)(hn:U.length<=1000000)(hnf:nf<=1000)(hUf:∀ i,i<U.length->∀ z∈(nd U i).ln,0<=z.1/\z.1<nf)(hx:x<U.length)(b3:US l U J P rep ρ T L [((x:Int),(y:Int))]):Calls prog 80 #[.pointer (some ⟨bp,0,none⟩),.int .i64 (x:Nat),.int .i64 (y:Nat)] w fun e w'=>(∃ b,e= .returned (.bool b)/\(b=true->∃ P' rep' ρ' T' V' L',PoolAt w' ob bp (.slice (some ⟨bu,0,none⟩) l.length l.length) (.slice (some ⟨bd,0,none⟩) l.length l.length) U.length PA TA LA cp ct cl P' T' V' L'/\US l U J P' rep' ρ' T' L' [])/\(b=false->¬EY l U J))/\Chg ob [bp] w w'/\ob<=w'.heap.size:=by
 have ef:=fu;have g9:=hs.le;have eg:=hs;obtain⟨a2,a4,a5,a9,a3,cm⟩:=hp;obtain⟨qp,rfl,hqp,f4,_⟩:=a4.rowc hx;obtain⟨qt,rfl,hqt,f3,_⟩:=a5.rowc hx;obtain⟨ql,rfl,hql,f5,_⟩:=a9.rowc hx;have npt:qp≠qt:=fun e=>cm qp (by simp[aL]) (by simp[aL,e])
 have npl:qp≠ql:=fun e=>Fy a4 a9 dE qp (by simp[aL]) (by simp[aL,e])
 have ntl:qt≠ql:=fun e=>Fy a5 a9 dE qt (by simp[aL]) (by simp[aL,e])
 have el:∀ g∈aL (some (⟨qt,0,none⟩:Addr)),g≠qp:=fun g hg e=>by simp[aL]at hg;omega
 have er:∀ g∈aL (some (⟨ql,0,none⟩:Addr)),g≠qp:=fun g hg e=>by simp[aL]at hg;omega
 have en:∀ g∈aL (some (⟨qp,0,none⟩:Addr)),g≠qt:=fun g hg e=>by simp[aL]at hg;omega
 have ep:∀ g∈aL (some (⟨ql,0,none⟩:Addr)),g≠qt:=fun g hg e=>by simp[aL]at hg;omega
 have eo:∀ g∈aL (some (⟨qp,0,none⟩:Addr)),g≠ql:=fun g hg e=>by simp[aL]at hg;omega
 have em:∀ g∈aL (some (⟨qt,0,none⟩:Addr)),g≠ql:=fun g hg e=>by simp[aL]at hg;omega
 obtain⟨bs,bm⟩:∃ b,b=w.heap.size:=⟨_,rfl⟩
 rw[<- bm]at a3;have ab:bs<=w.heap.size:=ay bm;have a1:Chg ob [bp] w w/\ob<=w.heap.size:=⟨Chg.refl _ _ _,hob⟩
 obtain⟨M0,hM0,hM0b⟩:∃ M0,roots U.length rep*(nf+1)+1<=M0/\M0<=1001000001:=⟨_,ah _,by
   have h1:=roots_le U.length rep;have h2:=Nat.mul_le_mul (nLT h1 hn) (show nf+1<=1001 by omega)
   omega⟩
 refine enter func80 ntmps80 rfl (aD rfl) (yW ?_);refine wl (vw (v0:= .int _ _) (v1:= .int _ _) (fun v0 v1=>#[v0,v1]) rfl rfl kR) ?_;refine qV (cs:=#[_,_]) [(0,.agg _)] rfl SX HX ze154 dE dE kR rfl (fun b20 w1 ge t1 hr=>?_);have:=a2.ob hr;have dy:=a4.ob hr;have dx:=a5.ob hr;have dz:=a9.ob hr;have eb:=(nLT a1.2 hr)
 have e5:=(nLT ab hr)
 have lo20:=hB.ob hr;replace a3:=qj a3 t1;replace a1:=y6 a1 t1;replace ab:=zV ab t1;refine zn4 ?_;replace a2:=a2.tr0 t1;replace a4:=a4.tr0 t1;replace a5:=a5.tr0 t1;replace a9:=a9.tr0 t1;refine qx (rg (rg [] 6 11) 21 154) (fun m g w'=>∃(W:List (Int×Int)) (WA:Option Addr) (b5:Nat) (P rep ρ:Nat->Nat) (T:Nat->Int) (V:Nat->Value) (L:Nat->List (Int×Int)),m=roots U.length rep*(nf+1)+W.length/\m<=M0/\g 7= .slice WA W.length b5/\Bel w0 w'/\Blk w' bp 132 #[.slice (some ⟨bu,0,none⟩) l.length l.length,.slice (some ⟨bd,0,none⟩) l.length l.length,.slice (some ⟨qp,0,none⟩) U.length cp,.slice (some ⟨qt,0,none⟩) U.length ct,.slice (some ⟨ql,0,none⟩) U.length cl]/\Own w' ob 3 1 (some ⟨qp,0,none⟩) U.length cp (jZ U.length (vN P))/\Own w' ob 3 1 (some ⟨qt,0,none⟩) U.length ct (jZ U.length (vI T))/\Own w' ob 78 1 (some ⟨ql,0,none⟩) U.length cl (jZ U.length V)/\(∀ x,x<U.length->RowO w' ob w'.heap.size (V x) (L x))/\Own w' ob 154 2 WA (W).length b5 (lnV (W))/\(Chg ob [bp] w w'/\ob<=w'.heap.size)/\US l U J P rep ρ T L W) (roots U.length rep*(nf+1)+1) ?_ (fun m g2 w2 hI=>?_)
 ·replace hB:=hB.tr0 t1;exact⟨[((x:Int),(y:Int))],_,_,P,rep,ρ,T,V,L,rfl,hM0,rfl,hB,a2,a4,a5,a9,fun x hx=>(a3 x hx).up ab,YK ge oG rfl (by show (1:Nat)<=9223372036854775807;decide),a1,b3⟩
 obtain⟨W,WA,b5,P,rep,ρ,T,V,L,hm,hmM,h7,hB,a2,a4,a5,a9,a3,hW,a1,b3⟩:=hI;obtain⟨bs,bm⟩:∃ b,b=w2.heap.size:=⟨_,rfl⟩
 rw[<- bm]at a3;have ab:bs<=w2.heap.size:=ay bm;have f4:=(a4.lt qp (by simp[aL])).2;have f3:=(a5.lt qt (by simp[aL])).2;have f5:=(a9.lt ql (by simp[aL])).2;have gc:=a2.lt;rw[<- bm]at f4 f3 f5 gc;refine zX 7 _ h7 nu (zn8 ?_);refine zQ rfl (fun c23=>?_) (fun c23=>?_)
 ·obtain⟨W1,z,rfl⟩:=snocP (show 0<W.length by omega);have hwz:=b3.wr z (by simp);obtain⟨xn,hxn⟩:∃ xn:Nat,z.1=(xn:Int):=⟨z.1.toNat,by omega⟩
  obtain⟨yn,hyn⟩:∃ yn:Nat,z.2=(yn:Int):=⟨z.2.toNat,by omega⟩
  have g4:xn<U.length:=by omega
  have g3:yn<U.length:=by omega
  have ex:z.1.toNat=xn:=by omega
  have ey:z.2.toNat=yn:=by omega
  have c4:(W1++[z]).length=W1.length+1:=by simp
  obtain⟨q,rfl,hqb,hqw,_⟩:=hW.cell (fun e=>by have:=congrArg List.length e;rw[Q6]at this;simp at this);have hqcap:=hW.cap_le;have hqm:=hW.max;refine zn4 ?_;refine J1 17 (rg [] 24 17) (aL (some (⟨qp,0,none⟩:Addr))) 8 (fun ix v wv=>match ix with|0=>v= .pointer (some ⟨bp,0,none⟩)|1=>v= .slice (some ⟨q,0,none⟩) (W1++[z]).length b5|2=>v= .slice (some ⟨q,0,none⟩) (W1++[z]).length b5|3=>v= .int .i64 ((W1++[z]).length:Nat)|4=>v= .int .i64 (W1.length:Nat)|5=>v= .pointer (some ⟨q,0+W1.length*2,none⟩)|6=>v= .pointer (some ⟨q,0+W1.length*2+0*1,none⟩)|7=>v= .int .i64 (xn:Nat)|8=>∃ Q:Nat->Nat,v= .int .i64 ((rep xn:Nat):Int)/\Own wv ob 3 1 (some ⟨qp,0,none⟩) U.length cp (jZ U.length (vN Q))/\UF U.length Q rep ρ|9=>v= .pointer (some ⟨bp,0,none⟩)|10=>v= .slice (some ⟨q,0,none⟩) (W1++[z]).length b5|11=>v= .slice (some ⟨q,0,none⟩) (W1++[z]).length b5|12=>v= .int .i64 ((W1++[z]).length:Nat)|13=>v= .int .i64 (W1.length:Nat)|14=>v= .pointer (some ⟨q,0+W1.length*2,none⟩)|15=>v= .pointer (some ⟨q,0+W1.length*2+1*1,none⟩)|16=>v= .int .i64 (yn:Nat)|_=>True) (fun _=>True) kR kR ?_ (fun _ _ _ _=>trivial) ?_ ?_ dE ?_
  ·intro ix v wv wv2 h t2
   match ix,h with
   | 0,h=>exact h
   | 1,h=>exact h
   | 2,h=>exact h
   | 3,h=>exact h
   | 4,h=>exact h
   | 5,h=>exact h
   | 6,h=>exact h
   | 7,h=>exact h
   | 8,h=>
    obtain⟨Q,gn,c2,ez⟩:=h;exact⟨Q,gn,c2.tr0 t2,ez⟩
   | 9,h=>exact h
   | 10,h=>exact h
   | 11,h=>exact h
   | 12,h=>exact h
   | 13,h=>exact h
   | 14,h=>exact h
   | 15,h=>exact h
   | 16,h=>exact h
   | _+17,h=>exact trivial
  ·intro ix o hix ee ac gg wx t3 hd
   match ix,hix,ee,ac with
   | 0,_,_,ac=>
    cases sI ac;refine qZ (xz (v:= .pointer (some _)) rfl) ⟨Same.refl _ _,?_⟩;exact rfl
   | 1,_,_,ac=>
    cases sI ac;refine qZ (xz (v:= .slice _ _ _) rfl) ⟨Same.refl _ _,?_⟩;exact rfl
   | 2,_,_,ac=>
    cases sI ac;refine qZ (xz (v:= .slice _ _ _) rfl) ⟨Same.refl _ _,?_⟩;exact rfl
   | 3,_,_,ac=>
    cases sI ac;refine a7 26 (hd 2 a8) ?_;refine qZ (E1 SX rfl) ⟨Same.refl _ _,?_⟩;exact rfl
   | 4,_,_,ac=>
    cases sI ac;refine a7 27 (hd 3 a8) ?_;refine qZ (kZ (c:=(W1.length:Int)) rfl rfl (by rw[c4];omega) oG) ⟨Same.refl _ _,?_⟩;exact rfl
   | 5,_,_,ac=>
    cases sI ac;refine a7 25 (hd 1 a8) (a7 28 (hd 4 a8) ?_);refine qZ (x9 (i:=W1.length) SX HX rfl rfl (by rw[c4];omega) rfl) ⟨Same.refl _ _,?_⟩;exact rfl
   | 6,_,_,ac=>
    cases sI ac;refine a7 29 (hd 5 a8) ?_;refine qZ (CQ (i:=0) underlying154 xX rfl rfl oG rfl) ⟨Same.refl _ _,?_⟩;exact rfl
   | 7,_,_,ac=>
    cases sI ac;replace hW:=hW.c t3;refine a7 30 (hd 6 a8) ?_;refine qZ (qy (v:= .int _ _) U3 rfl rfl (by have h:=(cellW hW).1;rw[hxn]at h;exact h)) ⟨Same.refl _ _,?_⟩;exact rfl
   | 8,_,ee,_=>exact absurd rfl ee
   | 9,_,_,ac=>
    cases sI ac;refine qZ (xz (v:= .pointer (some _)) rfl) ⟨Same.refl _ _,?_⟩;exact rfl
   | 10,_,_,ac=>
    cases sI ac;refine qZ (xz (v:= .slice _ _ _) rfl) ⟨Same.refl _ _,?_⟩;exact rfl
   | 11,_,_,ac=>
    cases sI ac;refine qZ (xz (v:= .slice _ _ _) rfl) ⟨Same.refl _ _,?_⟩;exact rfl
   | 12,_,_,ac=>
    cases sI ac;refine a7 35 (hd 11 a8) ?_;refine qZ (E1 SX rfl) ⟨Same.refl _ _,?_⟩;exact rfl
   | 13,_,_,ac=>
    cases sI ac;refine a7 36 (hd 12 a8) ?_;refine qZ (kZ (c:=(W1.length:Int)) rfl rfl (by rw[c4];omega) oG) ⟨Same.refl _ _,?_⟩;exact rfl
   | 14,_,_,ac=>
    cases sI ac;refine a7 34 (hd 10 a8) (a7 37 (hd 13 a8) ?_);refine qZ (x9 (i:=W1.length) SX HX rfl rfl (by rw[c4];omega) rfl) ⟨Same.refl _ _,?_⟩;exact rfl
   | 15,_,_,ac=>
    cases sI ac;refine a7 38 (hd 14 a8) ?_;refine qZ (CQ (i:=1) underlying154 xX rfl rfl oG rfl) ⟨Same.refl _ _,?_⟩;exact rfl
   | 16,_,_,ac=>
    cases sI ac;replace hW:=hW.c t3;refine a7 39 (hd 15 a8) ?_;refine qZ (qy (v:= .int _ _) U3 rfl rfl (by have h:=(cellW hW).2;rw[hyn]at h;exact h)) ⟨Same.refl _ _,?_⟩;exact rfl
   | _+17,hix,_,_=>exact absurd hix oG
  ·intro o ac gg wx t4 hd;cases sI ac;replace a3:=qj a3 t4;replace a1:=y6 a1 t4;replace ab:=zV ab t4;refine a7 24 (hd 0 a8) (a7 31 (hd 7 a8) ?_);replace a2:=a2.tr0 t4;replace a4:=a4.tr0 t4;refine vZ kR (VV wx a2 a4 hbo b3.uf g4) rfl (fun e' w2 hr=>?_);obtain⟨Q,rfl,c2,ez,bh⟩:=hr;refine⟨_,rfl,bh,⟨_,rfl,c2,ez⟩,trivial,fun kx v ee h=>?_⟩
   match kx,ee,h with
   | 0,_,h=>exact h
   | 1,_,h=>exact h
   | 2,_,h=>exact h
   | 3,_,h=>exact h
   | 4,_,h=>exact h
   | 5,_,h=>exact h
   | 6,_,h=>exact h
   | 7,_,h=>exact h
   | 8,ee,_=>exact absurd rfl ee
   | 9,_,h=>exact h
   | 10,_,h=>exact h
   | 11,_,h=>exact h
   | 12,_,h=>exact h
   | 13,_,h=>exact h
   | 14,_,h=>exact h
   | 15,_,h=>exact h
   | 16,_,h=>exact h
   | _+17,_,_=>exact trivial
  intro gg w3 t5 _ hR;have hs0:=t5;replace hB:=hB.tr t5 (fun g hg=>nLT ef (a4.lt g hg).1);replace a2:=a2.ta t5 a4;replace a5:=a5.c t5;replace a9:=a9.c t5;replace a3:=qj a3 t5;replace a1:=y6 a1 t5;replace hW:=hW.c t5;replace ab:=zV ab t5;have d0:gg 24= .pointer (some ⟨bp,0,none⟩):=hR 0 dE;have e24:=d0;have d8:∃ Q:Nat->Nat,gg 32= .int .i64 ((rep xn:Nat):Int)/\Own w3 ob 3 1 (some ⟨qp,0,none⟩) U.length cp (jZ U.length (vN Q))/\UF U.length Q rep ρ:=hR 8 dE;obtain⟨Q,gn,c2,ez⟩:=d8;have d9:gg 33= .pointer (some ⟨bp,0,none⟩):=hR 9 dE;have e33:=d9;have a4:=c2;refine xj 24 _ e24 nu (xj 32 _ gn nu (xj 33 _ e33 nu (xj 40 _ (hR 16 dE) nu ?_)));refine qq kR (VV _ a2 a4 hbo ez g3) rfl (fun e' w4 hr=>?_);obtain⟨Q2,rfl,g5,ew,t6⟩:=hr;replace hB:=hB.tr t6 (fun g hg=>nLT ef (a4.lt g hg).1);replace a2:=a2.ta t6 a4;replace a5:=a5.c t6;replace a9:=a9.c t6;replace a3:=qj a3 t6;replace a1:=y6 a1 t6;replace hW:=hW.c t6;replace ab:=zV ab t6;have a4:=g5;refine⟨_,rfl,?_⟩;refine zn9 ?_;refine wl (kZ (c:=(W1.length:Int)) rfl rfl (by rw[c4];omega) oG) (wl (I7 (h:=W1.length) SX HX rfl rfl oG) (zn5 ?_));replace hW:Own w4 ob 154 2 (some ⟨q,0,none⟩) (W1).length b5 (lnV (W1)):=by
    have h:=hW.take (k':=W1.length) oG oG;rw[lnV_take]at h
    simpa using h
  refine zn6 ?_;refine zQ rfl (fun c49=>?_) (fun c49=>?_)
  ·have cg:US l U J Q2 rep ρ T L (W1++[z]):=⟨ew,b3.ty,b3.srt,b3.wr,b3.only,b3.tcov,b3.lcov,b3.jcov,b3.val,b3.ur⟩
   obtain⟨W2,hW2⟩:∃ W2,W2=W1:=⟨_,rfl⟩
   subst hW2;obtain⟨bc,bi⟩:∃ r,r=rep:=⟨_,rfl⟩
   subst bi;have be:=cg.skip (by rw[ex,ey];omega);refine zn3 ?_;refine x8 (roots U.length bc*(nf+1)+W2.length) oG agA ?_
   first
     | exact⟨W2,_,_,Jx Q2 b a,bc,UF.rk rep ρ a b,(fun x=>if x=a then (mm:Int)else T x),_,(fun x=>if x=a then y7 (L a) (L b)else L x),rfl,by omega,rfl,hB,a2,a4,a5,a9,a3,hW,a1,be⟩
     | exact⟨W2,_,_,Q2,bc,ρ,T,V,L,rfl,by omega,rfl,hB,a2,a4,a5,a9,fun x hx=>(a3 x hx).up ab,hW,a1,be⟩
  obtain⟨a,ha⟩:∃ a,rep xn=a:=⟨_,rfl⟩
  obtain⟨b,hb⟩:∃ b,rep yn=b:=⟨_,rfl⟩
  have hab:a≠b:=fun e=>c49 (by rw[ha,hb,e])
  have c6:a<U.length:=by rw[<- ha];exact b3.uf.rl _ g4
  have c5:b<U.length:=by rw[<- hb];exact b3.uf.rl _ g3
  have hra:rep a=a:=by rw[<- ha];exact b3.uf.two g4
  have hrb:rep b=b:=by rw[<- hb];exact b3.uf.two g3
  have hta1:=b3.ty a c6;have htb1:=b3.ty b c5;obtain⟨ta,ed⟩:∃ t:Nat,T a=(t:Int):=⟨(T a).toNat,by omega⟩
  obtain⟨tb,ec⟩:∃ t:Nat,T b=(t:Int):=⟨(T b).toNat,by omega⟩
  have hLa:(L a).length<=nf:=by
    have:=Jz (nf:=nf) (lo:=0) (b3.srt a c6) (fun z hz=>by
      obtain⟨u,hu,_,hm⟩:=b3.val a c6 hra z hz
      exact hUf u hu z hm) (aM _) oG
    omega
  have hLb:(L b).length<=nf:=by
    have:=Jz (nf:=nf) (lo:=0) (b3.srt b c5) (fun z hz=>by
      obtain⟨u,hu,_,hm⟩:=b3.val b c5 hrb z hz
      exact hUf u hu z hm) (aM _) oG
    omega
  have cg:US l U J Q2 rep ρ T L (W1++[z]):=⟨ew,b3.ty,b3.srt,b3.wr,b3.only,b3.tcov,b3.lcov,b3.jcov,b3.val,b3.ur⟩
  refine zX 8 _ (congrArg (fun(z:Nat)=>Value.int .i64 (z:Int)) ha) nu (zX 9 _ (congrArg (fun(z:Nat)=>Value.int .i64 (z:Int)) hb) nu (zn3 ?_));refine uz [] [0,1,2,3,4,5,6,7,8,9,10,11,12,13,14,15,16,17,18,19,20,21,22,23,24,25] rfl (fun w5 t7=>?_);replace a3:=qj a3 t7;replace a1:=y6 a1 t7;replace ab:=zV ab t7;refine hl rfl (fun _=>xz (v:= .pointer (some _)) rfl) (hl rfl (fun _=>X8 rfl) (zn1 ?_));replace a2:=a2.tr0 t7;refine hlS rfl U74 rfl rfl (range_two a2 rfl rfl) MZ (hl rfl (fun _=>xz (v:= .pointer (some _)) rfl) (hl rfl (fun _=>X8 rfl) (zn3 ?_)));refine hl rfl (fun _=>x9 (i:=a) U59 xX rfl rfl c6 rfl) ?_;replace a5:=a5.tr0 t7;refine hl1 (v:= .int _ _) rfl U3 rfl rfl (by have h:=a5.rowq c6;unfold vI at h;rw[ed]at h;exact h) (hl rfl (fun _=>xz (v:= .pointer (some _)) rfl) (hl rfl (fun _=>X8 rfl) (zn3 ?_)));refine hl rfl (fun _=>x9 (i:=b) U59 xX rfl rfl c5 rfl) (hl1 (v:= .int _ _) rfl U3 rfl rfl (by have h:=a5.rowq c5;unfold vI at h;rw[ec]at h;exact h) ?_);refine hcl (fun v wv=>v= .tuple #[.int .i64 ((meet l ta tb).1:Nat),.bool (meet l ta tb).2.1,.bool (meet l ta tb).2.2]) rfl kR (G4 l bu bd ta tb w5 (gf.mono hB.u) (hTI.mono hB.u) eg.vt g9 oG oG) rfl (fun e' w2 hr=>?_) (fun v69 w6 t8 d69=>?_)
  ·obtain⟨rfl,t9⟩:=hr;exact⟨_,rfl,sB t9,rfl⟩
  replace a3:=qj a3 t8;replace a1:=y6 a1 t8;replace ab:=zV ab t8;have e69:=d69;subst e69;refine zn1 ?_;refine hl rfl (fun _=>vY (v:=_) rfl rfl) (hl rfl (fun _=>vY (v:=_) rfl rfl) (hl rfl (fun _=>vY (v:=_) rfl rfl) (vj ?_)));refine jQ rfl (fun hw=>?_) (fun hw=>?_)
  ·have hmf:(meet l ta tb).2.1=false:=by simpa using hw
   have hno:=cg.fail eg (by rw[ex,ey,ha,hb,ed,ec,Int.toNat_natCast,Int.toNat_natCast];exact hmf);refine vj ?_;exact⟨⟨false,rfl,fun h=>(by cases h),fun _=>hno⟩,a1.1,a1.2⟩
  have hmt:(meet l ta tb).2.1=true:=by simpa using hw
  have hme:=meet_true hmt;obtain⟨mm,hmm⟩:∃ mm,(meet l ta tb).1=mm:=⟨_,rfl⟩
  rw[hmm]at hme;refine zX 10 _ (congrArg (fun(z:Nat)=>Value.int .i64 (z:Int)) hmm) nu ?_;have be:=cg.join eg (a:=a) (b:=b) (m:=mm) (by rw[ex];exact ha) (by rw[ey];exact hb) hab (by rw[ed,ec,Int.toNat_natCast,Int.toNat_natCast];exact hme);refine zn3 ?_;replace a4:=a4.tr0 (t7.t t8);obtain⟨g0,cur,fi,_,bb,cj,ck,bf⟩:=a4.open_ (show 0<U.length by omega);cases fi;replace hW:=hW.tr0 (t7.t t8);have et:=Zk hW bb dE;refine oK (wl (xz (v:= .pointer (some _)) rfl) (wl (X8 rfl) (zn4 ?_)));refine wl (x9 (i:=b) U59 xX rfl rfl c5 rfl) ?_;refine xQ (v:= .int _ _) bb rfl rfl xX oG rfl rfl (fun w7 hq cq=>?_);replace hB:=hB.u.tr1 cq (nLT fu (by assumption));replace a5:=a5.tr0 t8;replace a5:=a5.cB cq;replace a9:=a9.tr0 (t7.t t8);replace a9:=a9.cB cq;replace a3:=qj a3 cq;replace a1:=y6 a1 cq;replace hW:=hW.cB cq;replace ab:=zV ab cq;replace bb:=hq;replace a2:=(a2.tr0 t8).tr1 cq oG;have a4:Own w7 ob 3 1 (some ⟨qp,0,none⟩) U.length cp (jZ U.length (vN (Jx Q2 b a))):=by
    have h:=bf _ _ _ bb;rw[show 0+b*1=b by omega,NV,oQ (g':=vN (Jx Q2 b a)) (fun x _=>by by_cases e:x=b<;>simp[vN,Jx,e])]at h;exact h
  refine zn3 ?_;clear bb bf ck cj;obtain⟨g0,cur,fi,_,bb,cj,ck,bf⟩:=a5.open_ (show 0<U.length by omega);cases fi;have es:=Zk hW bb dE;refine oK (wl (xz (v:= .pointer (some _)) rfl) (wl (X8 rfl) (zn4 ?_)));refine wl (x9 (i:=a) U59 xX rfl rfl c6 rfl) ?_;refine xQ (v:= .int _ _) bb rfl rfl xX oG rfl rfl (fun w8 hq co=>?_);replace hB:=hB.tr1 co (nLT fu (by assumption));replace a9:=a9.cB co;replace a3:=qj a3 co;replace a1:=y6 a1 co;replace hW:=hW.cB co;replace ab:=zV ab co;replace a4:=a4.cB co;replace bb:=hq;replace a2:=a2.tr1 co oG;have a5:Own w8 ob 3 1 (some ⟨qt,0,none⟩) U.length ct (jZ U.length (vI (fun x=>if x=a then (mm:Int)else T x))):=by
    have h:=bf _ _ _ bb;rw[show 0+a*1=a by omega,NV,oQ (g':=vI (fun x=>if x=a then (mm:Int)else T x)) (fun x _=>by by_cases e:x=a<;>simp[vI,e])]at h;exact h
  refine zn8 ?_;clear bb bf ck cj;obtain⟨Ax,cx,hVa,_⟩:=a3 a c6;obtain⟨Ay,cy,hVb,_⟩:=a3 b c5;obtain⟨zl,cf⟩:∃ z,z=w8.heap.size:=⟨_,rfl⟩
  have ao:zl<=w8.heap.size:=ay cf;have g8:w0.heap.size<=zl:=by rw[cf];exact Bel.size hB
  have hbl1:bs<=zl:=by rw[cf];exact ab
  have hol:ob<=zl:=by rw[cf];exact a1.2
  refine oZ kR kR (fun w9 c9=>?_);replace a3:=qj a3 c9;replace a1:=y6 a1 c9;replace ab:=zV ab c9;replace ao:=zV ao c9;refine ws (xz (v:= .pointer (some _)) rfl) (ws (X8 rfl) (zn3 ?_));refine ws (x9 (i:=a) SJ gk rfl rfl c6 rfl) ?_;replace a9:=a9.tr0 c9;refine ws (qy (v:= .slice Ax (L a).length cx) U78 rfl rfl (by have h:=a9.rowq c6;rw[hVa]at h;exact h)) (ws (xz (v:= .pointer (some _)) rfl) (ws (X8 rfl) (zn3 ?_)));refine ws (x9 (i:=b) SJ gk rfl rfl c5 rfl) (ws (qy (v:= .slice Ay (L b).length cy) U78 rfl rfl (by have h:=a9.rowq c5;rw[hVb]at h;exact h)) (zn2 ?_));refine ux (zn3 ?_);replace a2:=a2.tr0 c9;replace hW:=hW.tr0 c9;replace a4:=a4.tr0 c9;replace a5:=a5.tr0 c9;refine qx (rg [7,13,14,15,16] 103 61) (fun m g w'=>∃(ek xs ys W2:List (Int×Int)) (ft fq fp WA:Option Addr) (fo fn fl b5:Nat),m=xs.length+ys.length/\g 13= .slice ft ek.length fo/\g 14= .slice fq xs.length fn/\g 15= .slice fp ys.length fl/\g 7= .slice WA W2.length b5/\Bel w0 w'/\Blk w' bp 132 #[.slice (some ⟨bu,0,none⟩) l.length l.length,.slice (some ⟨bd,0,none⟩) l.length l.length,.slice (some ⟨qp,0,none⟩) U.length cp,.slice (some ⟨qt,0,none⟩) U.length ct,.slice (some ⟨ql,0,none⟩) U.length cl]/\Own w' ob 3 1 (some ⟨qp,0,none⟩) U.length cp (jZ U.length (vN (Jx Q2 b a)))/\Own w' ob 3 1 (some ⟨qt,0,none⟩) U.length ct (jZ U.length (vI (fun x=>if x=a then (mm:Int)else T x)))/\Own w' ob 78 1 (some ⟨ql,0,none⟩) U.length cl (jZ U.length V)/\(∀ x,x<U.length->RowO w' ob bs (V x) (L x))/\Own w' ob 154 2 WA (W2).length b5 (lnV (W2))/\(Chg ob [bp] w w'/\ob<=w'.heap.size)/\bs<=w'.heap.size/\zl<=w'.heap.size/\Own w' zl 83 2 ft ek.length fo (lnV ek)/\Suf w' ob bs (.slice fq xs.length fn) xs/\Suf w' ob bs (.slice fp ys.length fl) ys/\MG (L a) (L b) ek xs ys W1 W2) ((L a).length+(L b).length) ?_ (fun m g13 w10 hI=>?_)
  ·replace hB:=hB.tr0 c9;exact⟨[],L a,L b,W1,none,Ax,Ay,_,0,cx,cy,b5,rfl,rfl,rfl,rfl,rfl,hB,a2,a4,a5,a9,a3,hW,a1,ab,ao,Own.nil _ _ _ _,by rw[<- hVa];exact Suf.of (a3 a c6),by rw[<- hVb];exact Suf.of (a3 b c5),MG.start _ _ _⟩
  obtain⟨ek,xs,ys,W2,ft,fq,fp,WA,fo,fn,fl,b5,fa,h13,h14,h15,h7,hB,a2,a4,a5,a9,a3,hW,a1,ab,ao,an,b1,b2,dw⟩:=hI;refine zX 13 _ h13 nu (zX 14 _ h14 nu (zX 15 _ h15 nu (zX 7 _ h7 nu (xV (xV ?_)))));refine xw (rg [] 103 8) 110 (.bool (decide (0<xs.length/\0<ys.length))) nu ?_ (fun gq=>?_)
  ·refine zn5 ?_;refine zw 106 rfl (fun gm=>?_) (fun gm=>?_)
   ·refine zn7 ?_;refine zJ (e_R ⟨rfl,agA,?_⟩);exact clA
   refine zn4 ?_;refine zJ (e_R ⟨rfl,agA,?_⟩);exact clA
  refine e_S ?_;refine zQ rfl (fun cn=>?_) (fun cn=>?_)
  ·obtain⟨zx,xr,rfl⟩:=consP cn.1;obtain⟨zy,yr,rfl⟩:=consP cn.2;obtain⟨gx,ox,rfl,_,_⟩:=b1.cons.at_;obtain⟨gy,oy,rfl,_,_⟩:=b2.cons.at_;have fc:=dw.l;have dv:=dw.l2;simp only[List.length_cons]at fc dv fa;refine zn4 ?_;refine uz [] [0,1,2,3,4,5,6,7,8,9] rfl (fun w11 bx=>?_);replace a3:=qj a3 bx;replace a1:=y6 a1 bx;replace ab:=zV ab bx;replace b1:=b1.tr bx (by simp);replace b2:=b2.tr bx (by simp);replace ao:=zV ao bx;refine zn1 ?_;refine hl rfl (fun _=>x9 (i:=0) U78 qv rfl rfl (by simp) rfl) (zn1 ?_);refine hl1 (v:= .int _ _) rfl U3 rfl rfl (b1.rng 0 _ rfl) (zn1 ?_);refine hl rfl (fun _=>x9 (i:=0) U78 qv rfl rfl (by simp) rfl) (zn1 ?_);refine hl1 (v:= .int _ _) rfl U3 rfl rfl (b2.rng 0 _ rfl) ?_;refine hcl (fun v wv=>v= .int .i64 (EZ zx.1 zy.1)) rfl kR (Py zx.1 zy.1 w11) rfl (fun e' w2 hr=>?_) (fun v119 w12 bw gu=>?_)
   ·obtain⟨rfl,t15⟩:=hr;exact⟨_,rfl,sB t15,rfl⟩
   replace a3:=qj a3 bw;replace a1:=y6 a1 bw;replace ab:=zV ab bw;replace b1:=b1.tr bw (by simp);replace b2:=b2.tr bw (by simp);replace ao:=zV ao bw;have gp:=gu;subst gp;refine jq ?_;replace a2:=a2.tr0 (bx.t bw);replace a9:=a9.tr0 (bx.t bw);replace a4:=a4.tr0 (bx.t bw);replace a5:=a5.tr0 (bx.t bw);replace hW:=hW.tr0 (bx.t bw);replace an:=an.tr0 (bx.t bw);refine zQ rfl (fun fm=>?_) (fun fm=>?_)
   ·have b8:=dw.left (cmpI_lt.1 fm);obtain⟨c0,b7⟩:∃ s,s=xr:=⟨_,rfl⟩
    obtain⟨bz,b6⟩:∃ s,s=zy::yr:=⟨_,rfl⟩
    have hml:c0.length+bz.length+1=xr.length+1+(yr.length+1):=by rw[b7,b6,List.length_cons];omega
    refine zn4 ?_;refine wl (x9 (i:=0) U78 qv rfl rfl (by simp) rfl) (wl (qw U83 rfl rfl b1.rng qv) ?_);refine qV (cs:=#[_,_]) [(0,.agg _)] rfl U78 qv Qj dE dE kR rfl (fun b149 w13 ff bv hr=>?_);have:=a2.ob hr;have dc:=a9.ob hr;have dm:=(nLT a1.2 hr)
    have dh:=(nLT ab hr)
    have d6:=a4.ob hr;have d2:=a5.ob hr;have e8:=hW.ob hr;have cb:=an.ob hr;have cu:=(nLT ao hr)
    have lo149:=hB.u.ob hr;replace a3:=qj a3 bv;replace a1:=y6 a1 bv;replace ab:=zV ab bv;replace b1:=b1.tr bv (by simp);replace b2:=b2.tr bv (by simp);replace ao:=zV ao bv;replace an:=an.tr0 bv;refine j7 U78 XX rfl dE an ff rfl rfl rfl qz dE oG oG ao (fun gi hh w14 f8 bt hg=>?_);replace a2:=a2.tr0 bv;have dr:gi≠bp:=neA an a2.lt hg
    replace hB:=hB.u.tr bt (fun g hg=>nLT g8 (an.lt g hg).1);replace a2:=a2.ta bt an;replace a9:=a9.tr0 bv;replace a9:=a9.c bt;replace a3:=qj a3 bt;replace a1:=y6 a1 bt;replace ab:=zV ab bt;replace a4:=a4.tr0 bv;replace a4:=a4.c bt;replace a5:=a5.tr0 bv;replace a5:=a5.c bt;replace hW:=hW.tr0 bv;replace hW:=hW.c bt;replace b1:=b1.c bt;replace b2:=b2.c bt;replace ao:=zV ao bt;have b4:=Xq (k:=1) f8 rfl;refine zn3 ?_;replace b1:=b1.cons.next;rw[<- b7]at b1 b8;rw[<- b6]at b2 b8;refine zn2 ?_;refine wl (T9 (l:=1) U78 qv rfl rfl (by simp)) (zn4 ?_);refine x8 (c0.length+bz.length) oG agA ?_;exact⟨_,c0,bz,_,_,_,_,_,_,_,_,_,rfl,Vv _ _ _ _,by first|rfl|(subst b7;rfl),by first|rfl|(subst b6;rfl),by first|rfl|exact Vv _ _ _ _,hB,a2,a4,a5,a9,a3,hW,a1,ab,ao,b4,b1,b2,b8⟩
   refine zn7 ?_;refine zQ rfl (fun fk=>?_) (fun fk=>?_)
   ·have b8:=dw.right (cmpI_gt.1 fk);obtain⟨c0,b7⟩:∃ s,s=zx::xr:=⟨_,rfl⟩
    obtain⟨bz,b6⟩:∃ s,s=yr:=⟨_,rfl⟩
    have hml:c0.length+bz.length+1=xr.length+1+(yr.length+1):=by rw[b7,b6,List.length_cons];omega
    refine zn4 ?_;refine wl (x9 (i:=0) U78 qv rfl rfl (by simp) rfl) (wl (qw U83 rfl rfl b2.rng qv) ?_);refine qV (cs:=#[_,_]) [(0,.agg _)] rfl U78 qv Qj dE dE kR rfl (fun b160 w15 fe br hr=>?_);have:=a2.ob hr;have db:=a9.ob hr;have dk:=(nLT a1.2 hr)
    have dg:=(nLT ab hr)
    have d5:=a4.ob hr;have cz:=a5.ob hr;have e7:=hW.ob hr;have ca:=an.ob hr;have cr:=(nLT ao hr)
    have lo160:=hB.u.ob hr;replace a3:=qj a3 br;replace a1:=y6 a1 br;replace ab:=zV ab br;replace b1:=b1.tr br (by simp);replace b2:=b2.tr br (by simp);replace ao:=zV ao br;replace an:=an.tr0 br;refine j7 U78 XX rfl dE an fe rfl rfl rfl qz dE oG oG ao (fun gh hf w16 f7 bq hg=>?_);replace a2:=a2.tr0 br;have dq:gh≠bp:=neA an a2.lt hg
    replace hB:=hB.u.tr bq (fun g hg=>nLT g8 (an.lt g hg).1);replace a2:=a2.ta bq an;replace a9:=a9.tr0 br;replace a9:=a9.c bq;replace a3:=qj a3 bq;replace a1:=y6 a1 bq;replace ab:=zV ab bq;replace a4:=a4.tr0 br;replace a4:=a4.c bq;replace a5:=a5.tr0 br;replace a5:=a5.c bq;replace hW:=hW.tr0 br;replace hW:=hW.c bq;replace b1:=b1.c bq;replace b2:=b2.c bq;replace ao:=zV ao bq;have b4:=Xq (k:=1) f7 rfl;refine zn3 ?_;replace b2:=b2.cons.next;rw[<- b6]at b2 b8;rw[<- b7]at b1 b8;refine zn2 ?_;refine wl (T9 (l:=1) U78 qv rfl rfl (by simp)) (zn4 ?_);refine x8 (c0.length+bz.length) oG agA ?_;exact⟨_,c0,bz,_,_,_,_,_,_,_,_,_,rfl,Vv _ _ _ _,by first|rfl|(subst b7;rfl),by first|rfl|(subst b6;rfl),by first|rfl|exact Vv _ _ _ _,hB,a2,a4,a5,a9,a3,hW,a1,ab,ao,b4,b1,b2,b8⟩
   have b8:=dw.both (cmpI_eq.1 oG);obtain⟨c0,b7⟩:∃ s,s=xr:=⟨_,rfl⟩
   obtain⟨bz,b6⟩:∃ s,s=yr:=⟨_,rfl⟩
   have hml:c0.length+bz.length+2=xr.length+1+(yr.length+1):=by rw[b7,b6];omega
   refine zn4 ?_;refine wl (x9 (i:=0) U78 qv rfl rfl (by simp) rfl) (wl (qw U83 rfl rfl b1.rng qv) ?_);refine qV (cs:=#[_,_]) [(0,.agg _)] rfl U78 qv Qj dE dE kR rfl (fun b124 w17 fh bo hr=>?_);have:=a2.ob hr;have df:=a9.ob hr;have dp:=(nLT a1.2 hr)
   have dj:=(nLT ab hr)
   have da:=a4.ob hr;have d4:=a5.ob hr;have ea:=hW.ob hr;have cd:=an.ob hr;have cw:=(nLT ao hr)
   have lo124:=hB.u.ob hr;replace a3:=qj a3 bo;replace a1:=y6 a1 bo;replace ab:=zV ab bo;replace b1:=b1.tr bo (by simp);replace b2:=b2.tr bo (by simp);replace ao:=zV ao bo;replace an:=an.tr0 bo;refine j7 U78 XX rfl dE an fh rfl rfl rfl qz dE oG oG ao (fun gl ht w18 f9 bn hg=>?_);replace a2:=a2.tr0 bo;have du:gl≠bp:=neA an a2.lt hg
   replace hB:=hB.u.tr bn (fun g hg=>nLT g8 (an.lt g hg).1);replace a2:=a2.ta bn an;replace a9:=a9.tr0 bo;replace a9:=a9.c bn;replace a3:=qj a3 bn;replace a1:=y6 a1 bn;replace ab:=zV ab bn;replace a4:=a4.tr0 bo;replace a4:=a4.c bn;replace a5:=a5.tr0 bo;replace a5:=a5.c bn;replace hW:=hW.tr0 bo;replace hW:=hW.c bn;replace b1:=b1.c bn;replace b2:=b2.c bn;replace ao:=zV ao bn;have b4:=Xq (k:=1) f9 rfl;refine zn4 ?_;have zo:=fun g hg=>(hW.lt g hg).2
   refine Qz [] [11] [0,1,2,3,4,5,6,7,8,9,10,11,12] rfl (fun w19 bk=>?_);replace a3:=qj a3 bk;replace a1:=y6 a1 bk;replace ab:=zV ab bk;replace b1:=b1.tr bk (by simp);replace b2:=b2.tr bk (by simp);replace ao:=zV ao bk;refine zn2 ?_;refine hl rfl (fun _=>x9 (i:=0) U78 qv rfl rfl (by simp) rfl) (zn1 ?_);refine hl1 (v:= .int _ _) rfl U3 rfl rfl (b1.rng 1 _ rfl) (zn1 ?_);refine hl rfl (fun _=>x9 (i:=0) U78 qv rfl rfl (by simp) rfl) (zn1 ?_);refine hl1 (v:= .int _ _) rfl U3 rfl rfl (b2.rng 1 _ rfl) (hl rfl (fun _=>vw (v0:= .int _ _) (v1:= .int _ _) (fun v0 v1=>#[v0,v1]) rfl rfl kR) (h1 rfl ?_));refine qV (cs:=#[_,_]) [(0,.agg _)] rfl SX HX ze154 dE dE kR rfl (fun b136 w20 fg bg hr=>?_);replace a2:=a2.tr0 bk;have:=a2.ob hr;replace a9:=a9.tr0 bk;have de:=a9.ob hr;have dn:=(nLT a1.2 hr)
   have di:=(nLT ab hr)
   replace a4:=a4.tr0 bk;have d7:=a4.ob hr;replace a5:=a5.tr0 bk;have d3:=a5.ob hr;replace hW:=hW.tr0 bk;have e9:=hW.ob hr;have cv:=(nLT ao hr)
   replace b4:=b4.tr0 bk;have ce:=b4.ob hr;have lo136:=hB.u.ob hr;have f2:=bg;replace a3:=qj a3 bg;replace a1:=y6 a1 bg;replace ab:=zV ab bg;replace b1:=b1.tr bg (by simp);replace b2:=b2.tr bg (by simp);replace ao:=zV ao bg;refine zJ (K9 f2 (h1 rfl ?_));replace hW:=hW.tr0 bg;refine j7 SX in154 rfl dE hW fg rfl rfl rfl qz dE oG oG a1.2 (fun fj c7 w21 c3 bh hg137=>?_);replace hB:=hB.tr0 (bk.t bg);replace hB:=hB.tr bh (fun g hg=>nLT ef (hW.lt g hg).1);replace a2:=a2.tr0 bg;replace a2:=a2.ta bh hW;replace a9:=a9.tr0 bg;replace a9:=a9.c bh;replace a3:=qj a3 bh;replace a1:=y6 a1 bh;replace ab:=zV ab bh;replace a4:=a4.tr0 bg;replace a4:=a4.c bh;replace a5:=a5.tr0 bg;replace a5:=a5.c bh;replace b1:=b1.c bh;replace b2:=b2.c bh;replace ao:=zV ao bh;replace b4:=b4.tr0 bg;replace b4:=b4.c bh;obtain⟨fj,c7,go,c3⟩:∃ g cap,(.slice (some ⟨fj,0,none⟩) (W2.length+1) c7:Value)= .slice (some ⟨g,0,none⟩) (W2.length+1) cap/\Own w21 ob 154 2 (some ⟨g,0,none⟩) (W2.length+1) cap (lnV W2++[.int .i64 zx.2,.int .i64 zy.2]):=⟨_,_,rfl,c3⟩
   cases go;refine zJ (D0 [] ?_);have hW:=Xq (k:=1) c3 rfl;refine zn3 ?_;replace b1:=b1.cons.next;replace b2:=b2.cons.next;rw[<- b7]at b1 b8;rw[<- b6]at b2 b8;refine oZ kR kR (fun w22 bj=>?_);replace a3:=qj a3 bj;replace a1:=y6 a1 bj;replace ab:=zV ab bj;replace b1:=b1.tr bj (by simp);replace b2:=b2.tr bj (by simp);replace ao:=zV ao bj;refine zn1 ?_;refine ws (T9 (l:=1) U78 qv rfl rfl (by simp)) (zn1 ?_);refine ws (T9 (l:=1) U78 qv rfl rfl (by simp)) (zn2 ?_);refine ux (e_B (e_B (x8 (c0.length+bz.length) oG agA ?_)));replace hB:=hB.tr0 bj;replace a2:=a2.tr0 bj;replace a9:=a9.tr0 bj;replace a4:=a4.tr0 bj;replace a5:=a5.tr0 bj;replace b4:=b4.tr0 bj;replace hW:=hW.tr0 bj;exact⟨_,c0,bz,_,_,_,_,_,_,_,_,_,rfl,Vv _ _ _ _,by first|rfl|(subst b7;rfl),by first|rfl|(subst b6;rfl),by first|rfl|exact Vv _ _ _ _,hB,a2,a4,a5,a9,a3,hW,a1,ab,ao,b4,b1,b2,b8⟩
  obtain⟨fd,g7⟩:=dw.end_ cn;have fc:=dw.l;have dv:=dw.l2;rw[g7]at be;obtain⟨bc,bi⟩:∃ r,r=UF.un rep a b:=⟨_,rfl⟩
  rw[<- bi]at be;have hrj:=Cv c5 hrb hra hab;rw[<- bi]at hrj;have g6:=aV (nf+1) (show roots U.length bc+1<=roots U.length rep from hrj);rw[Nat.add_mul,Nat.one_mul]at g6;have fb:(y7 (L a) (L b)).length<=1000000:=by rw[fd];simp;omega
  refine zn5 ?_;refine oW 11 (rg [] 164 11) (fun _=>false) (fun ix v wv=>match ix with|0=>v= .pointer (some ⟨bp,0,none⟩)|1=>v= .pointer (some ⟨bp,0,none⟩)|2=>v= .pointer (some ⟨bp,4,none⟩)|3=>v= .slice (some ⟨ql,0,none⟩) U.length cl|4=>v= .int .i64 (a:Nat)|5=>v= .slice ft ek.length fo|6=>v= .slice fq xs.length fn|7=>v= .slice fp ys.length fl|8=>∃ b,v= .slice (some ⟨b,0,none⟩) 3 3/\Blk wv b 78 #[.slice ft ek.length fo,.slice fq xs.length fn,.slice fp ys.length fl]|9=>∃ AC cc,v= .slice AC (y7 (L a) (L b)).length cc/\Own wv ob 83 2 AC (y7 (L a) (L b)).length cc (lnV (y7 (L a) (L b)))|10=>v= .pointer (some ⟨ql,0+a*1,none⟩)|_=>True) kR kR ?_ ?_ ?_
  ·intro ix v wv wv2 h t25
   match ix,h with
   | 0,h=>exact h
   | 1,h=>exact h
   | 2,h=>exact h
   | 3,h=>exact h
   | 4,h=>exact h
   | 5,h=>exact h
   | 6,h=>exact h
   | 7,h=>exact h
   | 8,h=>
    obtain⟨ej,ei,b9⟩:=h;exact⟨ej,ei,b9.tr0 t25⟩
   | 9,h=>
    obtain⟨AC,cc,eh,f6⟩:=h;exact⟨AC,cc,eh,f6.tr0 t25⟩
   | 10,h=>exact h
   | _+11,h=>exact trivial
  ·intro ix o hix ac gg wx t26 hd cm
   match ix,hix,ac with
   | 0,_,ac=>
    cases sI ac;exact oVq (xz (v:= .pointer (some _)) rfl) rfl
   | 1,_,ac=>
    cases sI ac;refine a7 164 (hd 0 a8) ?_;exact oVq (X8 rfl) rfl
   | 2,_,ac=>
    cases sI ac;refine a7 165 (hd 1 a8) ?_;exact oVq (u6 WQ sz130 dE rfl rfl rfl) rfl
   | 3,_,ac=>
    cases sI ac;refine a7 166 (hd 2 a8) ?_;replace a2:=a2.tr0 t26;exact oVq (qy (v:= .slice _ _ _) SJ rfl rfl (a2.cell rfl)) rfl
   | 4,_,ac=>
    cases sI ac;exact oVq (xz (v:= .int _ _) rfl) rfl
   | 5,_,ac=>
    cases sI ac;exact oVq (xz (v:= .slice _ _ _) rfl) rfl
   | 6,_,ac=>
    cases sI ac;exact oVq (xz (v:= .slice _ _ _) rfl) rfl
   | 7,_,ac=>
    cases sI ac;exact oVq (xz (v:= .slice _ _ _) rfl) rfl
   | 8,_,ac=>
    cases sI ac;refine a7 169 (hd 5 a8) (a7 170 (hd 6 a8) (a7 171 (hd 7 a8) ?_));refine jK (fun ops Q K=>?_);refine qV (cs:=#[_,_,_]) [(0,.slice _ _ _),(1,.slice _ _ _),(2,.slice _ _ _)] rfl SJ gk ze78 dE dE kR rfl (fun ej w23 b9 t27 hr=>?_);exact K _ _ ⟨t27,⟨_,rfl,b9⟩,fRq hr b9.lt⟩
   | 9,_,ac=>
    cases sI ac;replace a1:=y6 a1 t26;replace b1:=b1.tr t26 (by simp);replace b2:=b2.tr t26 (by simp);obtain⟨ej,ei,b9⟩:=hd 8 (zk kR);refine zq 172 _ ei nu ?_;replace an:=an.tr0 t26;refine vZ kR (conc3_any (m:=(y7 (L a) (L b))) wx b9 an rfl b1 b2 fd fb) rfl (fun e' w2 hr=>?_);obtain⟨⟨AC,cc,rfl,f6⟩,t28⟩:=hr;exact⟨_,rfl,sB t28,⟨_,_,rfl,f6.low a1.2⟩,y8⟩
   | 10,_,ac=>
    cases sI ac;refine a7 167 (hd 3 a8) (a7 168 (hd 4 a8) ?_);exact oVq (x9 (i:=a) SJ gk rfl rfl c6 rfl) rfl
   | _+11,hix,_=>exact absurd hix oG
  intro gg w24 c8 hR cm;replace a3:=qj a3 c8;replace a1:=y6 a1 c8;replace ab:=zV ab c8;replace ao:=zV ao c8;obtain⟨AC,cc,eh,f6⟩:=hR 9 dE;have fv:=RowO.of (ah ob) f6;obtain⟨s9,hs9⟩:∃ b,b=w24.heap.size:=⟨_,rfl⟩
  rw[<- hs9]at fv;have g1:s9<=w24.heap.size:=ay hs9;replace a9:=a9.tr0 c8;obtain⟨g0,cur,fi,_,bb,cj,ck,bf⟩:=a9.open_ (show 0<U.length by omega);cases fi;replace hW:=hW.tr0 c8;have eu:=Zk hW bb dE;replace an:=an.tr0 c8;have e6:=Zk an bb dE;refine xj 173 _ eh nu (xj 174 _ (hR 10 dE) nu ?_);refine xQ (v:= .slice _ _ _) bb rfl rfl gk oG rfl rfl (fun fy hq c1=>?_);replace hB:=hB.u.tr1 c1 (nLT fu (by assumption));replace a3:=qj a3 c1;replace a1:=y6 a1 c1;replace ab:=zV ab c1;replace a4:=a4.tr0 c8;replace a4:=a4.cB c1;replace a5:=a5.tr0 c8;replace a5:=a5.cB c1;replace hW:=hW.cB c1;replace ao:=zV ao c1;replace fv:=fv.tr c1 (fun g hg=>by rw[List.mem_singleton.1 hg];exact .inr ⟨_,_,bb,by decide⟩);replace g1:=zV g1 c1;replace bb:=hq;have a9:Own fy ob 78 1 (some ⟨ql,0,none⟩) U.length cl (jZ U.length (VK V a (.slice AC (y7 (L a) (L b)).length cc))):=by
    have h:=bf _ _ _ bb;rw[show 0+a*1=a by omega,NV,oQ (g':=VK V a (.slice AC (y7 (L a) (L b)).length cc)) (fun x _=>by by_cases e:x=a<;>simp[VK,e])]at h;exact h
  replace a3:∀ x,x<U.length->RowO fy ob fy.heap.size (VK V a (.slice AC (y7 (L a) (L b)).length cc) x) (if x=a then (y7 (L a) (L b))else L x):=fun x hx=>by
    by_cases e:x=a
    · simp only[VK,if_pos e];exact fv.up g1
    · simp only[VK,if_neg e];exact(a3 x hx).up ab
  refine zJ (e_B (x8 (roots U.length bc*(nf+1)+W2.length) oG agA ?_));replace a2:=(a2.tr0 c8).tr1 c1 oG
  first
    | exact⟨W2,_,_,Jx Q2 b a,bc,UF.rk rep ρ a b,(fun x=>if x=a then (mm:Int)else T x),_,(fun x=>if x=a then y7 (L a) (L b)else L x),rfl,by omega,rfl,hB,a2,a4,a5,a9,a3,hW,a1,be⟩
    | exact⟨W2,_,_,Q2,bc,ρ,T,V,L,rfl,by omega,rfl,hB,a2,a4,a5,a9,fun x hx=>(a3 x hx).up ab,hW,a1,be⟩
 have hW0:W= []:=aK.1 oG;subst hW0;refine vj ?_;exact⟨⟨true,rfl,fun _=>⟨P,rep,ρ,T,V,L,⟨a2,a4,a5,a9,fun x hx=>(a3 x hx).up ab,cm⟩,b3⟩,fun h=>(by cases h)⟩,a1.1,a1.2⟩
end Go.Proofs.YtgcgnkmmbecfmaaGreatDoor
