/- What these functions of the program compute, at every world: (*glosswright/unify.pool).join. -/
import Derived.Test.YtdgnllfbooklcaaDoorU
import Derived.Test.YtdgnllfbooklcaaDoorSim
import Derived.Test.YtdgnllfbooklcaaDoorPAdd
namespace Go.Proofs.YtdgnllfbooklcaaDoor
open Go.RowKit
theorem snocP {W:List (Int×Int)} (h:0 < W.length):∃ W1 z,W=W1 ++ [z]:=
  ⟨W.dropLast,W.getLast (fun e=>by rw [e] at h;exact absurd h (Nat.lt_irrefl _)),(List.dropLast_concat_getLast _).symm⟩
theorem range_two {w:World} {b t:Nat} {cs:Array Value} {c0 c1:Value} (h:Blk w b t cs) (h0:cs[0]? =some c0) (h1:cs[1]? =some c1):w.rangeAt b 0 [c0,c1]:=fun j v hj=>by
  match j,hj with
  | 0,hj=>cases hj;exact h.cell h0
  | 1,hj=>cases hj;exact h.cell h1
  | _ + 2,hj=>cases hj
theorem consP {W:List (Int×Int)} (h:0 < W.length):∃ z W1,W=z :: W1:=by
  cases W with
  | nil=>exact absurd h (Nat.lt_irrefl _)
  | cons z W1=>exact⟨z,W1,rfl⟩
theorem K7 {nf:Nat}:∀ {xs:List (Int×Int)} {lo:Int},Srt xs→(∀ x ∈ xs,lo≤x.1∧x.1 < nf)→0≤lo→lo≤nf→(xs.length:Int)≤nf - lo
  | [],lo,_,_,_,h=>by simp;omega
  | x :: xs,lo,hs,hx,h0,hl=>by
    obtain⟨h1,h2⟩:=List.pairwise_cons.1 hs
    have h3:=hx x (List.mem_cons_self ..)
    have:=K7 (nf:=nf) (lo:=x.1 + 1) h2 (fun y hy=>by
      have:=h1 y hy
      have:=hx y (List.mem_cons_of_mem _ hy)
      omega) om om
    rw [List.length_cons];omega
theorem meet_true {l:List Ty} {a b:Nat} (h:(jj l a b).2.1=true):jj l a b=((jj l a b).1,true,false):=by
  unfold jj at h ⊢
  split
  · rename_i h0;rw [if_pos h0] at h;cases h
  · rename_i h0
    rw [if_neg h0] at h
    split
    · rename_i h1;rw [if_pos h1] at h;cases h
    · rfl
theorem T6 {x y:Int×Int} {xs ys:List (Int×Int)} (h:x.1 < y.1):xQ (x :: xs) (y :: ys)=x :: xQ xs (y :: ys)∧Zz (x :: xs) (y :: ys)=Zz xs (y :: ys):=by
  constructor
  · rw [xQ,if_pos h]
  · rw [Zz,if_pos h]
theorem T7 {x y:Int×Int} {xs ys:List (Int×Int)} (h:y.1 < x.1):xQ (x :: xs) (y :: ys)=y :: xQ (x :: xs) ys∧Zz (x :: xs) (y :: ys)=Zz (x :: xs) ys:=by
  constructor
  · rw [xQ,if_neg om,if_pos h]
  · rw [Zz,if_neg om,if_pos h]
theorem T8 {x y:Int×Int} {xs ys:List (Int×Int)} (h:x.1=y.1):xQ (x :: xs) (y :: ys)=x :: xQ xs ys∧Zz (x :: xs) (y :: ys)=(x.2,y.2) :: Zz xs ys:=by
  constructor
  · rw [xQ,if_neg om,if_neg om]
  · rw [Zz,if_neg om,if_neg om]
structure MG (X Y acc xs ys W1 W2:List (Int×Int)):Prop where
  m:xQ X Y=acc ++ xQ xs ys
  w:W1 ++ Zz X Y=W2 ++ Zz xs ys
  l:acc.length + xs.length + ys.length≤X.length + Y.length
  l2:W2.length + xs.length≤W1.length + X.length
theorem MG.start (X Y W1:List (Int×Int)):MG X Y [] X Y W1 W1:=⟨rfl,rfl,by simp,Nat.le_refl _⟩
theorem MG.left {X Y acc xs ys W1 W2:List (Int×Int)} {x y:Int×Int} (h:MG X Y acc (x :: xs) (y :: ys) W1 W2) (hc:x.1 < y.1):MG X Y (acc ++ [x]) xs (y :: ys) W1 W2:=
  ⟨by rw [h.m,(T6 hc).1];simp,by rw [h.w,(T6 hc).2],by have:=h.l;simp only [List.length_append,List.length_cons,List.length_nil] at this ⊢;omega,by have:=h.l2;simp only [List.length_cons] at this ⊢;omega⟩
theorem MG.right {X Y acc xs ys W1 W2:List (Int×Int)} {x y:Int×Int} (h:MG X Y acc (x :: xs) (y :: ys) W1 W2) (hc:y.1 < x.1):MG X Y (acc ++ [y]) (x :: xs) ys W1 W2:=
  ⟨by rw [h.m,(T7 hc).1];simp,by rw [h.w,(T7 hc).2],by have:=h.l;simp only [List.length_append,List.length_cons,List.length_nil] at this ⊢;omega,h.l2⟩
theorem MG.both {X Y acc xs ys W1 W2:List (Int×Int)} {x y:Int×Int} (h:MG X Y acc (x :: xs) (y :: ys) W1 W2) (hc:x.1=y.1):MG X Y (acc ++ [x]) xs ys W1 (W2 ++ [(x.2,y.2)]):=
  ⟨by rw [h.m,(T8 hc).1];simp,by rw [h.w,(T8 hc).2];simp,by have:=h.l;simp only [List.length_append,List.length_cons,List.length_nil] at this ⊢;omega,by have:=h.l2;simp only [List.length_append,List.length_cons,List.length_nil] at this ⊢;omega⟩
theorem MG.end_ {X Y acc xs ys W1 W2:List (Int×Int)} (h:MG X Y acc xs ys W1 W2) (he:¬(0 < xs.length∧0 < ys.length)):xQ X Y= [acc,xs,ys].flatten∧W1 ++ Zz X Y=W2:=by
  have e:xQ xs ys=xs ++ ys∧Zz xs ys= []:=by
    cases xs with
    | nil=>simp [xQ,Zz]
    | cons x xs=>
      cases ys with
      | nil=>simp [xQ,Zz]
      | cons y ys=>simp at he
  exact⟨by rw [h.m,e.1];simp,by rw [h.w,e.2];simp⟩
theorem cellW {w:World} {ob cap q:Nat} {W1:List (Int×Int)} {z:Int×Int} (h:Own w ob 134 2 (some ⟨q,0,none⟩) (W1 ++ [z]).length cap (lnV (W1 ++ [z]))):w.cell? ⟨q,0 + W1.length * 2 + 0 * 1,none⟩=some (.int .i64 z.1)∧w.cell? ⟨q,0 + W1.length * 2 + 1 * 1,none⟩=some (.int .i64 z.2):=by
  obtain⟨q',e,_,_,hc⟩:=h.cell (fun e=>by have:=congrArg List.length e;rw [Qy] at this;simp at this);cases e;have h2:=Y3 (W1 ++ [z]) W1.length (by simp);simp only [List.getElem_append_right (Nat.le_refl W1.length),Nat.sub_self,List.getElem_cons_zero] at h2;have e0:0 + W1.length * 2 + 0 * 1=W1.length * 2:=by omega
  have e1:0 + W1.length * 2 + 1 * 1=W1.length * 2 + 1:=by omega
  rw [e0,e1];exact⟨hc _ _ h2.1,hc _ _ h2.2⟩
theorem Suf.rng {w:World} {lo bs g o n c:Nat} {x:Int×Int} {xs:List (Int×Int)} (h:Suf w lo bs (.slice (some ⟨g,o,none⟩) n c) (x :: xs)):w.rangeAt g o [.int .i64 x.1,.int .i64 x.2]:=by
  obtain⟨g',o',e,_,h2⟩:=h.cons.at_;cases e;exact h2
theorem cmpI_gt {a b:Int}:0 < Iz a b ↔ b < a:=by unfold Iz;split <;> (try split) <;> omega
theorem conc3_any {ob bs b t n1 n2 n3 c1 c2 c3 zl:Nat} {A1 A2 A3:Option Addr} {p q r m:List (Int×Int)} (w:World) (hb:Blk w b t #[.slice A1 n1 c1,.slice A2 n2 c2,.slice A3 n3 c3]) (h1:Own w zl 95 2 A1 n1 c1 (lnV p)) (hn1:n1=p.length) (h2:Suf w ob bs (.slice A2 n2 c2) q) (h3:Suf w ob bs (.slice A3 n3 c3) r) (hm:m= [p,q,r].flatten) (hl:m.length≤1000000):Calls Tryd.prog 70 #[.slice (some ⟨b,0,none⟩) 3 3] w fun e w'=>(∃ A' cap',e= .returned (.slice A' m.length cap')∧Own w' w.heap.size 95 2 A' m.length cap' (lnV m))∧Bel w w':=by
  obtain⟨e2,l2⟩:=h2.links;obtain⟨e3,l3⟩:=h3.links;subst e2 e3 hn1 hm;exact concl_any (some ⟨b,0,none⟩) 3 [p,q,r] w (W3 hb (D7 h1) l2 l3) (by simp) om
theorem ZX {w:World} {ob cap k:Nat} {e:TypeId} {A:Option Addr} {xs:List (Int×Int)} {a b:Int} (h:Own w ob e 2 A (xs.length + k) cap (lnV xs ++ [Value.int .i64 a,Value.int .i64 b])) (hk:k=1):Own w ob e 2 A (xs ++ [(a,b)]).length cap (lnV (xs ++ [(a,b)])):=by
  subst hk;rw [List.length_append];have:lnV (xs ++ [(a,b)])=lnV xs ++ [Value.int .i64 a,Value.int .i64 b]:=by rw [L6];rfl
  rw [this];exact h
theorem X4 (A:Option Addr) (cap:Nat) (xs:List (Int×Int)) (z:Int×Int):Value.slice A (xs.length + 1) cap=Value.slice A (xs ++ [z]).length cap:=by rw [List.length_append];rfl
theorem Wj:zZ Tryd.prog 64=true:=by kernel_rfl
theorem fn68:zZ Tryd.prog 68=true:=by kernel_rfl
theorem fn70:zZ Tryd.prog 70=true:=by kernel_rfl
theorem in134:(Tryd.prog.info? 134).map (fun i=>(i.zero,i.size,i.bytes))=some (some (.agg #[.int .i64 0,.int .i64 0]),2,16):=by kernel_rfl
theorem Sq:(Tryd.prog.info? 134).map (·.size)=some 2:=by kernel_rfl
theorem ze134:(Tryd.prog.info? 134).map (·.zero)=some (some (.agg #[.int .i64 0,.int .i64 0])):=by kernel_rfl
set_option maxRecDepth 100000 in
set_option maxHeartbeats 4000000 in
theorem pjoin_any {ob bp bu bd nf x y:Nat} {PA TA LA:Option Addr} {cp ct cl:Nat} {P rep ρ:Nat→Nat} {T:Nat→Int} {V:Nat→Value} {L:Nat→List (Int×Int)} {l:List Ty} {U:List Nd} {J:List (Nat×Nat)} (w0 w:World) (hTab:TabIn w0) (hTI:TableIn w0 l bu bd) (hs:Ok l) (hB:Bel w0 w) (hw0:w0.heap.size≤ob) (hp:PoolAt w ob bp (.slice (some ⟨bu,0,none⟩) l.length l.length) (.slice (some ⟨bd,0,none⟩) l.length l.length) U.length PA TA LA cp ct cl P T V L) (hbo:bp < ob) (hob:ob≤w.heap.size) (hn:U.length≤1000000) (hnf:nf≤1000) (hUf:∀ i,i < U.length→∀ z ∈ (nd U i).ln,0≤z.1∧z.1 < nf) (hx:x < U.length) (hus:US l U J P rep ρ T L [((x:Int),(y:Int))]):Calls Tryd.prog 57 #[.pointer (some ⟨bp,0,none⟩),.int .i64 (x:Nat),.int .i64 (y:Nat)] w fun e w'=>(∃ b,e= .returned (.bool b)∧(b=true→∃ P' rep' ρ' T' V' L',PoolAt w' ob bp (.slice (some ⟨bu,0,none⟩) l.length l.length) (.slice (some ⟨bd,0,none⟩) l.length l.length) U.length PA TA LA cp ct cl P' T' V' L'∧US l U J P' rep' ρ' T' L' [])∧(b=false→¬DQ l U J))∧Chg ob [bp] w w'∧ob≤w'.heap.size:=by
 have hlob:=hw0;have hl60:=hs.le;have hSnd:=hs;obtain⟨hbp,hpa,hta,hla,hrw,hdis⟩:=hp;obtain⟨qp,rfl,hqp,hqpl,_⟩:=hpa.rowc hx;obtain⟨qt,rfl,hqt,hqtl,_⟩:=hta.rowc hx;obtain⟨ql,rfl,hql,hqll,_⟩:=hla.rowc hx;have npt:qp≠qt:=fun e=>hdis qp (by simp [aL]) (by simp [aL,e])
 have npl:qp≠ql:=fun e=>x9 hpa hla dE qp (by simp [aL]) (by simp [aL,e])
 have ntl:qt≠ql:=fun e=>x9 hta hla dE qt (by simp [aL]) (by simp [aL,e])
 have or_hta_qp:∀ g ∈ aL (some (⟨qt,0,none⟩:Addr)),g≠qp:=fun g hg e=>by simp [aL] at hg;omega
 have or_hla_qp:∀ g ∈ aL (some (⟨ql,0,none⟩:Addr)),g≠qp:=fun g hg e=>by simp [aL] at hg;omega
 have or_hpa_qt:∀ g ∈ aL (some (⟨qp,0,none⟩:Addr)),g≠qt:=fun g hg e=>by simp [aL] at hg;omega
 have or_hla_qt:∀ g ∈ aL (some (⟨ql,0,none⟩:Addr)),g≠qt:=fun g hg e=>by simp [aL] at hg;omega
 have or_hpa_ql:∀ g ∈ aL (some (⟨qp,0,none⟩:Addr)),g≠ql:=fun g hg e=>by simp [aL] at hg;omega
 have or_hta_ql:∀ g ∈ aL (some (⟨qt,0,none⟩:Addr)),g≠ql:=fun g hg e=>by simp [aL] at hg;omega
 obtain⟨bs,hbse⟩:∃ b,b=w.heap.size:=⟨_,rfl⟩
 rw [← hbse] at hrw;have hbz:bs≤w.heap.size:=Nat.le_of_eq hbse;have hCS:Chg ob [bp] w w∧ob≤w.heap.size:=⟨Chg.refl _ _ _,hob⟩
 obtain⟨M0,hM0,hM0b⟩:∃ M0,roots U.length rep * (nf + 1) + 1≤M0∧M0≤1001000001:=⟨_,Nat.le_refl _,by
   have h1:=roots_le U.length rep;have h2:=Nat.mul_le_mul (nLT h1 hn) (show nf + 1≤1001 by omega)
   omega⟩
 refine enter Tryd.func57 Tryd.ntmps57 rfl (Nat.le_of_ble_eq_true rfl) (jy ?_);refine wl (Z9 (v0:= .int _ _) (v1:= .int _ _) (fun v0 v1=>#[v0,v1]) rfl rfl kR) ?_;refine qZ (cs:=#[_,_]) [(0,.agg _)] rfl Pv Sq ze134 dE dE kR rfl (fun b20 w1 hb20 t1 hr=>?_);have:=nLL hbp.lt hr;have or_hpa_b20:=(fun(g:Nat) hg=>nLL (hpa.lt g hg).2 hr)
 have or_hta_b20:=(fun(g:Nat) hg=>nLL (hta.lt g hg).2 hr)
 have or_hla_b20:=(fun(g:Nat) hg=>nLL (hla.lt g hg).2 hr)
 have or_hCS_b20:=(nLT hCS.2 hr)
 have or_hbz_b20:=(nLT hbz hr)
 have lo20:=nLT (Bel.size hB) hr;replace hrw:=fun x hx=>(hrw x hx).tr t1 (by simp)
 replace hCS:=And.intro (hCS.1.st t1 hCS.2 (by simp)) (nLT hCS.2 (Same.size t1));replace hbz:=nLT hbz (Same.size t1);refine zn4 ?_;replace hB:=hB.tr0 t1;replace hbp:=hbp.tr0 t1;replace hpa:=hpa.tr0 t1;replace hta:=hta.tr0 t1;replace hla:=hla.tr0 t1;refine qJ [6,7,8,9,10,11,12,13,14,15,16,21,22,23,24,25,26,27,28,29,30,31,32,33,34,35,36,37,38,39,40,41,42,43,44,45,46,47,48,49,50,51,52,53,54,55,56,57,58,59,60,61,62,63,64,65,66,67,68,69,70,71,72,73,74,75,76,77,78,79,80,81,82,83,84,85,86,87,88,89,90,91,92,93,94,95,96,97,98,99,100,101,102,103,104,105,106,107,108,109,110,111,112,113,114,115,116,117,118,119,120,121,122,123,124,125,126,127,128,129,130,131,132,133,134,135,136,137,138,139,140,141,142,143,144,145,146,147,148,149,150,151,152,153,154,155,156,157,158,159,160,161,162,163,164,165,166,167,168,169,170,171,172,173,174] (fun m g w'=>∃ (W:List (Int×Int)) (WA:Option Addr) (capW:Nat) (P rep ρ:Nat→Nat) (T:Nat→Int) (V:Nat→Value) (L:Nat→List (Int×Int)),m=roots U.length rep * (nf + 1) + W.length∧m≤M0∧g 7= .slice WA W.length capW∧Bel w0 w'∧Blk w' bp 125 #[.slice (some ⟨bu,0,none⟩) l.length l.length,.slice (some ⟨bd,0,none⟩) l.length l.length,.slice (some ⟨qp,0,none⟩) U.length cp,.slice (some ⟨qt,0,none⟩) U.length ct,.slice (some ⟨ql,0,none⟩) U.length cl]∧Own w' ob 3 1 (some ⟨qp,0,none⟩) U.length cp (vj U.length (vN P))∧Own w' ob 3 1 (some ⟨qt,0,none⟩) U.length ct (vj U.length (vI T))∧Own w' ob 91 1 (some ⟨ql,0,none⟩) U.length cl (vj U.length V)∧(∀ x,x < U.length→RowO w' ob w'.heap.size (V x) (L x))∧Own w' ob 134 2 WA (W).length capW (lnV (W))∧(Chg ob [bp] w w'∧ob≤w'.heap.size)∧US l U J P rep ρ T L W) (roots U.length rep * (nf + 1) + 1) ?_ (fun m g2 w2 hI=>?_)
 ·exact⟨[((x:Int),(y:Int))],_,_,P,rep,ρ,T,V,L,rfl,hM0,rfl,hB,hbp,hpa,hta,hla,fun x hx=>(hrw x hx).up hbz,CZ hb20 om rfl (by show (1:Nat)≤9223372036854775807;decide),hCS,hus⟩
 obtain⟨W,WA,capW,P,rep,ρ,T,V,L,hm,hmM,h7,hB,hbp,hpa,hta,hla,hrw,hW,hCS,hus⟩:=hI;obtain⟨bs,hbse⟩:∃ b,b=w2.heap.size:=⟨_,rfl⟩
 rw [← hbse] at hrw;have hbz:bs≤w2.heap.size:=Nat.le_of_eq hbse;have hqpl:=(hpa.lt qp (by simp [aL])).2;have hqtl:=(hta.lt qt (by simp [aL])).2;have hqll:=(hla.lt ql (by simp [aL])).2;have hbpl:=hbp.lt;rw [← hbse] at hqpl hqtl hqll hbpl;refine zQ 7 _ h7 nu (zn8 ?_);refine zJ rfl (fun c23=>?_) (fun c23=>?_)
 ·obtain⟨W1,z,rfl⟩:=snocP (show 0 < W.length by omega);have hwz:=hus.wr z (by simp);obtain⟨xn,hxn⟩:∃ xn:Nat,z.1=(xn:Int):=⟨z.1.toNat,by omega⟩
  obtain⟨yn,hyn⟩:∃ yn:Nat,z.2=(yn:Int):=⟨z.2.toNat,by omega⟩
  have hxl:xn < U.length:=by omega
  have hyl:yn < U.length:=by omega
  have ex:z.1.toNat=xn:=by omega
  have ey:z.2.toNat=yn:=by omega
  have hlen:(W1 ++ [z]).length=W1.length + 1:=by simp
  obtain⟨q,rfl,hqb,hqw,_⟩:=hW.cell (fun e=>by have:=congrArg List.length e;rw [Qy] at this;simp at this);have hqcap:=hW.cap_le;have hqm:=hW.max;refine zn4 ?_;refine Qq 17 [24,25,26,27,28,29,30,31,32,33,34,35,36,37,38,39,40] (aL (some (⟨qp,0,none⟩:Addr))) 8 (fun ix v wv=>match ix with | 0=>v= .pointer (some ⟨bp,0,none⟩) | 1=>v= .slice (some ⟨q,0,none⟩) (W1 ++ [z]).length capW | 2=>v= .slice (some ⟨q,0,none⟩) (W1 ++ [z]).length capW | 3=>v= .int .i64 ((W1 ++ [z]).length:Nat) | 4=>v= .int .i64 (W1.length:Nat) | 5=>v= .pointer (some ⟨q,0 + W1.length * 2,none⟩) | 6=>v= .pointer (some ⟨q,0 + W1.length * 2 + 0 * 1,none⟩) | 7=>v= .int .i64 (xn:Nat) | 8=>∃ Q:Nat→Nat,v= .int .i64 ((rep xn:Nat):Int)∧Own wv ob 3 1 (some ⟨qp,0,none⟩) U.length cp (vj U.length (vN Q))∧UF U.length Q rep ρ | 9=>v= .pointer (some ⟨bp,0,none⟩) | 10=>v= .slice (some ⟨q,0,none⟩) (W1 ++ [z]).length capW | 11=>v= .slice (some ⟨q,0,none⟩) (W1 ++ [z]).length capW | 12=>v= .int .i64 ((W1 ++ [z]).length:Nat) | 13=>v= .int .i64 (W1.length:Nat) | 14=>v= .pointer (some ⟨q,0 + W1.length * 2,none⟩) | 15=>v= .pointer (some ⟨q,0 + W1.length * 2 + 1 * 1,none⟩) | 16=>v= .int .i64 (yn:Nat) | _=>True) (fun _=>True) kR kR ?_ (fun _ _ _ _=>trivial) ?_ ?_ dE ?_
  ·intro ix v wv wv2 h t2
   match ix,h with
   | 0,h=>exact h
   | 1,h=>exact h
   | 2,h=>exact h
   | 3,h=>exact h
   | 4,h=>exact h
   | 5,h=>exact h
   | 6,h=>exact h
   | 7,h=>exact h
   | 8,h=>
    obtain⟨Q,e32,hpaQ,huQ⟩:=h;exact⟨Q,e32,hpaQ.tr0 t2,huQ⟩
   | 9,h=>exact h
   | 10,h=>exact h
   | 11,h=>exact h
   | 12,h=>exact h
   | 13,h=>exact h
   | 14,h=>exact h
   | 15,h=>exact h
   | 16,h=>exact h
   | _ + 17,h=>exact trivial
  ·intro ix o hix hne hoq gg wx t3 hd
   match ix,hix,hne,hoq with
   | 0,_,_,hoq=>
    cases sI hoq;refine qQ (x5 (v:= .pointer (some _)) rfl) ⟨Same.refl _ _,?_⟩;exact rfl
   | 1,_,_,hoq=>
    cases sI hoq;refine qQ (x5 (v:= .slice _ _ _) rfl) ⟨Same.refl _ _,?_⟩;exact rfl
   | 2,_,_,hoq=>
    cases sI hoq;refine qQ (x5 (v:= .slice _ _ _) rfl) ⟨Same.refl _ _,?_⟩;exact rfl
   | 3,_,_,hoq=>
    cases sI hoq;refine zq 26 _ (hd 2 (zj kR)) nu ?_;refine qQ (MW Pv rfl) ⟨Same.refl _ _,?_⟩;exact rfl
   | 4,_,_,hoq=>
    cases sI hoq;refine zq 27 _ (hd 3 (zj kR)) nu ?_;refine qQ (J7 (c:=(W1.length:Int)) rfl rfl (by rw [hlen];omega) om) ⟨Same.refl _ _,?_⟩;exact rfl
   | 5,_,_,hoq=>
    cases sI hoq;refine zq 25 _ (hd 1 (zj kR)) nu (zq 28 _ (hd 4 (zj kR)) nu ?_);refine qQ (yJ (i:=W1.length) Pv Sq rfl rfl (by rw [hlen];omega) rfl) ⟨Same.refl _ _,?_⟩;exact rfl
   | 6,_,_,hoq=>
    cases sI hoq;refine zq 29 _ (hd 5 (zj kR)) nu ?_;refine qQ (EZ (i:=0) Tryd.underlying134 xq rfl rfl om rfl) ⟨Same.refl _ _,?_⟩;exact rfl
   | 7,_,_,hoq=>
    cases sI hoq;replace hW:=hW.tr t3 (fun g hg hx=>x9 hW hpa dE g hg hx);refine zq 30 _ (hd 6 (zj kR)) nu ?_;refine qQ (qK (v:= .int _ _) U3 rfl rfl (by have h:=(cellW hW).1;rw [hxn] at h;exact h)) ⟨Same.refl _ _,?_⟩;exact rfl
   | 8,_,hne,_=>exact absurd rfl hne
   | 9,_,_,hoq=>
    cases sI hoq;refine qQ (x5 (v:= .pointer (some _)) rfl) ⟨Same.refl _ _,?_⟩;exact rfl
   | 10,_,_,hoq=>
    cases sI hoq;refine qQ (x5 (v:= .slice _ _ _) rfl) ⟨Same.refl _ _,?_⟩;exact rfl
   | 11,_,_,hoq=>
    cases sI hoq;refine qQ (x5 (v:= .slice _ _ _) rfl) ⟨Same.refl _ _,?_⟩;exact rfl
   | 12,_,_,hoq=>
    cases sI hoq;refine zq 35 _ (hd 11 (zj kR)) nu ?_;refine qQ (MW Pv rfl) ⟨Same.refl _ _,?_⟩;exact rfl
   | 13,_,_,hoq=>
    cases sI hoq;refine zq 36 _ (hd 12 (zj kR)) nu ?_;refine qQ (J7 (c:=(W1.length:Int)) rfl rfl (by rw [hlen];omega) om) ⟨Same.refl _ _,?_⟩;exact rfl
   | 14,_,_,hoq=>
    cases sI hoq;refine zq 34 _ (hd 10 (zj kR)) nu (zq 37 _ (hd 13 (zj kR)) nu ?_);refine qQ (yJ (i:=W1.length) Pv Sq rfl rfl (by rw [hlen];omega) rfl) ⟨Same.refl _ _,?_⟩;exact rfl
   | 15,_,_,hoq=>
    cases sI hoq;refine zq 38 _ (hd 14 (zj kR)) nu ?_;refine qQ (EZ (i:=1) Tryd.underlying134 xq rfl rfl om rfl) ⟨Same.refl _ _,?_⟩;exact rfl
   | 16,_,_,hoq=>
    cases sI hoq;replace hW:=hW.tr t3 (fun g hg hx=>x9 hW hpa dE g hg hx);refine zq 39 _ (hd 15 (zj kR)) nu ?_;refine qQ (qK (v:= .int _ _) U3 rfl rfl (by have h:=(cellW hW).2;rw [hyn] at h;exact h)) ⟨Same.refl _ _,?_⟩;exact rfl
   | _ + 17,hix,_,_=>exact absurd hix om
  ·intro o hoq gg wx t4 hd;cases sI hoq;replace hrw:=fun x hx=>(hrw x hx).tr t4 (by simp)
   replace hCS:=And.intro (hCS.1.st t4 hCS.2 (by simp)) (nLT hCS.2 (Same.size t4));replace hbz:=nLT hbz (Same.size t4);refine zq 24 _ (hd 0 (zj kR)) nu (zq 31 _ (hd 7 (zj kR)) nu ?_);replace hbp:=hbp.tr0 t4;replace hpa:=hpa.tr0 t4;refine yw fn68 (Xq wx hbp hpa hbo hus.uf hxl) rfl (fun e' w2 hr=>?_);obtain⟨Q,rfl,hpaQ,huQ,hs2⟩:=hr;refine⟨_,rfl,hs2,⟨_,rfl,hpaQ,huQ⟩,trivial,fun kx v hne h=>?_⟩
   match kx,hne,h with
   | 0,_,h=>exact h
   | 1,_,h=>exact h
   | 2,_,h=>exact h
   | 3,_,h=>exact h
   | 4,_,h=>exact h
   | 5,_,h=>exact h
   | 6,_,h=>exact h
   | 7,_,h=>exact h
   | 8,hne,_=>exact absurd rfl hne
   | 9,_,h=>exact h
   | 10,_,h=>exact h
   | 11,_,h=>exact h
   | 12,_,h=>exact h
   | 13,_,h=>exact h
   | 14,_,h=>exact h
   | 15,_,h=>exact h
   | 16,_,h=>exact h
   | _ + 17,_,_=>exact trivial
  intro gg w3 t5 _ hR;have hs0:=t5;replace hB:=hB.tr t5 (fun g hg=>nLT hlob (hpa.lt g hg).1);replace hbp:=hbp.tr t5 (fun hx=>by have:=(hpa.lt _ hx).1;(try have:=or_hpa_bp _ hx);omega);replace hta:=hta.tr t5 (fun g hg hx=>by first | exact x9 hta hpa dE g hg hx | exact hdis g hg hx | exact hdis g hx hg | (have h1:=(hpa.lt g hx).1;(try have:=hzz g hg);omega));replace hla:=hla.tr t5 (fun g hg hx=>by first | exact x9 hla hpa dE g hg hx | exact hdis g hg hx | exact hdis g hx hg | (have h1:=(hpa.lt g hx).1;(try have:=hzz g hg);omega));replace hrw:=fun x hx=>(hrw x hx).tr t5 (fun g hg=>by first | exact .inl (by have:=((hpa).lt g hg).1;omega) | (obtain⟨cs,h⟩:=(hpa).typ g hg;exact .inr ⟨_,_,h,by decide⟩))
  replace hCS:=And.intro (hCS.1.st t5 hCS.2 (fun g hg=> .inr (by have:=((hpa).lt g hg).1;omega))) (nLT hCS.2 (Same.size t5));replace hW:=hW.tr t5 (fun g hg hx=>x9 hW hpa dE g hg hx);replace hbz:=nLT hbz (Same.size t5);have d0:gg 24= .pointer (some ⟨bp,0,none⟩):=hR 0 dE;have e24:=d0;have d8:∃ Q:Nat→Nat,gg 32= .int .i64 ((rep xn:Nat):Int)∧Own w3 ob 3 1 (some ⟨qp,0,none⟩) U.length cp (vj U.length (vN Q))∧UF U.length Q rep ρ:=hR 8 dE;obtain⟨Q,e32,hpaQ,huQ⟩:=d8;have d9:gg 33= .pointer (some ⟨bp,0,none⟩):=hR 9 dE;have e33:=d9;have hpa:=hpaQ;refine qY 24 _ e24 nu (qY 32 _ e32 nu (qY 33 _ e33 nu (qY 40 _ (hR 16 dE) nu ?_)));refine zX fn68 (Xq _ hbp hpa hbo huQ hyl) rfl (fun e' w4 hr=>?_);obtain⟨Q2,rfl,hpa2,huQ2,t6⟩:=hr;replace hB:=hB.tr t6 (fun g hg=>nLT hlob (hpa.lt g hg).1);replace hbp:=hbp.tr t6 (fun hx=>by have:=(hpa.lt _ hx).1;(try have:=or_hpa_bp _ hx);omega);replace hta:=hta.tr t6 (fun g hg hx=>by first | exact x9 hta hpa dE g hg hx | exact hdis g hg hx | exact hdis g hx hg | (have h1:=(hpa.lt g hx).1;(try have:=hzz g hg);omega));replace hla:=hla.tr t6 (fun g hg hx=>by first | exact x9 hla hpa dE g hg hx | exact hdis g hg hx | exact hdis g hx hg | (have h1:=(hpa.lt g hx).1;(try have:=hzz g hg);omega));replace hrw:=fun x hx=>(hrw x hx).tr t6 (fun g hg=>by first | exact .inl (by have:=((hpa).lt g hg).1;omega) | (obtain⟨cs,h⟩:=(hpa).typ g hg;exact .inr ⟨_,_,h,by decide⟩))
  replace hCS:=And.intro (hCS.1.st t6 hCS.2 (fun g hg=> .inr (by have:=((hpa).lt g hg).1;omega))) (nLT hCS.2 (Same.size t6));replace hW:=hW.tr t6 (fun g hg hx=>x9 hW hpa dE g hg hx);replace hbz:=nLT hbz (Same.size t6);have hpa:=hpa2;refine⟨_,rfl,?_⟩;refine zn9 ?_;refine wl (J7 (c:=(W1.length:Int)) rfl rfl (by rw [hlen];omega) om) (wl (HZ (h:=W1.length) Pv Sq rfl rfl om) (zn5 ?_));replace hW:Own w4 ob 134 2 (some ⟨q,0,none⟩) (W1).length capW (lnV (W1)):=by
    have h:=hW.take (k':=W1.length) om om;rw [lnV_take] at h
    simpa using h
  refine zn6 ?_;refine zJ rfl (fun c49=>?_) (fun c49=>?_)
  ·have hus1:US l U J Q2 rep ρ T L (W1 ++ [z]):=⟨huQ2,hus.ty,hus.srt,hus.wr,hus.only,hus.tcov,hus.lcov,hus.jcov,hus.val,hus.ur⟩
   obtain⟨W2,hW2⟩:∃ W2,W2=W1:=⟨_,rfl⟩
   subst hW2;obtain⟨rep2,hrep2⟩:∃ r,r=rep:=⟨_,rfl⟩
   subst hrep2;have hus2:=hus1.skip (by rw [ex,ey];omega);refine zn3 ?_;refine yq (roots U.length rep2 * (nf + 1) + W2.length) om agA ?_
   first
     | exact⟨W2,_,_,Yj Q2 b a,rep2,UF.rk rep ρ a b,(fun x=>if x=a then (mm:Int) else T x),_,(fun x=>if x=a then xQ (L a) (L b) else L x),rfl,by omega,rfl,hB,hbp,hpa,hta,hla,hrw,hW,hCS,hus2⟩
     | exact⟨W2,_,_,Q2,rep2,ρ,T,V,L,rfl,by omega,rfl,hB,hbp,hpa,hta,hla,fun x hx=>(hrw x hx).up hbz,hW,hCS,hus2⟩
  obtain⟨a,ha⟩:∃ a,rep xn=a:=⟨_,rfl⟩
  obtain⟨b,hb⟩:∃ b,rep yn=b:=⟨_,rfl⟩
  have hab:a≠b:=fun e=>c49 (by rw [ha,hb,e])
  have hal:a < U.length:=by rw [← ha];exact hus.uf.rl _ hxl
  have hbl:b < U.length:=by rw [← hb];exact hus.uf.rl _ hyl
  have hra:rep a=a:=by rw [← ha];exact hus.uf.two hxl
  have hrb:rep b=b:=by rw [← hb];exact hus.uf.two hyl
  have hta1:=hus.ty a hal;have htb1:=hus.ty b hbl;obtain⟨ta,hta_⟩:∃ t:Nat,T a=(t:Int):=⟨(T a).toNat,by omega⟩
  obtain⟨tb,htb_⟩:∃ t:Nat,T b=(t:Int):=⟨(T b).toNat,by omega⟩
  have hLa:(L a).length≤nf:=by
    have:=K7 (nf:=nf) (lo:=0) (hus.srt a hal) (fun z hz=>by
      obtain⟨u,hu,_,hm⟩:=hus.val a hal hra z hz
      exact hUf u hu z hm) (Int.le_refl _) om
    omega
  have hLb:(L b).length≤nf:=by
    have:=K7 (nf:=nf) (lo:=0) (hus.srt b hbl) (fun z hz=>by
      obtain⟨u,hu,_,hm⟩:=hus.val b hbl hrb z hz
      exact hUf u hu z hm) (Int.le_refl _) om
    omega
  have hus1:US l U J Q2 rep ρ T L (W1 ++ [z]):=⟨huQ2,hus.ty,hus.srt,hus.wr,hus.only,hus.tcov,hus.lcov,hus.jcov,hus.val,hus.ur⟩
  refine zQ 8 _ (congrArg (fun(z:Nat)=>Value.int .i64 (z:Int)) ha) nu (zQ 9 _ (congrArg (fun(z:Nat)=>Value.int .i64 (z:Int)) hb) nu (zn3 ?_));refine uQ [] [0,1,2,3,4,5,6,7,8,9,10,11,12,13,14,15,16,17,18,19,20,21,22,23,24,25] rfl (fun w5 t7=>?_);replace hrw:=fun x hx=>(hrw x hx).tr t7 (by simp)
  replace hCS:=And.intro (hCS.1.st t7 hCS.2 (by simp)) (nLT hCS.2 (Same.size t7));replace hbz:=nLT hbz (Same.size t7);refine hl rfl (fun _=>x5 (v:= .pointer (some _)) rfl) (hl rfl (fun _=>ZQ rfl) (zn1 ?_));replace hbp:=hbp.tr0 t7;refine hlS rfl U86 rfl rfl (range_two hbp rfl rfl) Jv (hl rfl (fun _=>x5 (v:= .pointer (some _)) rfl) (hl rfl (fun _=>ZQ rfl) (zn3 ?_)));refine hl rfl (fun _=>yJ (i:=a) U70 xq rfl rfl hal rfl) ?_;replace hta:=hta.tr0 t7;refine hl1 (v:= .int _ _) rfl U3 rfl rfl (by have h:=hta.rowq hal;unfold vI at h;rw [hta_] at h;exact h) (hl rfl (fun _=>x5 (v:= .pointer (some _)) rfl) (hl rfl (fun _=>ZQ rfl) (zn3 ?_)));refine hl rfl (fun _=>yJ (i:=b) U70 xq rfl rfl hbl rfl) (hl1 (v:= .int _ _) rfl U3 rfl rfl (by have h:=hta.rowq hbl;unfold vI at h;rw [htb_] at h;exact h) ?_);replace hB:=hB.tr0 t7;refine hcl (fun v wv=>v= .tuple #[.int .i64 ((jj l ta tb).1:Nat),.bool (jj l ta tb).2.1,.bool (jj l ta tb).2.2]) rfl Wj (T9 l bu bd ta tb w5 (hTab.mono hB) (hTI.mono hB) hSnd.vt hl60 om om) rfl (fun e' w2 hr=>?_) (fun v69 w6 t8 d69=>?_)
  ·obtain⟨rfl,t9⟩:=hr;exact⟨_,rfl,sB t9,rfl⟩
  replace hrw:=fun x hx=>(hrw x hx).tr t8 (by simp)
  replace hCS:=And.intro (hCS.1.st t8 hCS.2 (by simp)) (nLT hCS.2 (Same.size t8));replace hbz:=nLT hbz (Same.size t8);have e69:=d69;subst e69;refine zn1 ?_;refine hl rfl (fun _=>yk (v:=_) rfl rfl) (hl rfl (fun _=>yk (v:=_) rfl rfl) (hl rfl (fun _=>yk (v:=_) rfl rfl) (vQ ?_)));refine kv rfl (fun c74=>?_) (fun c74=>?_)
  ·have hmf:(jj l ta tb).2.1=false:=by simpa using c74
   have hno:=hus1.fail hSnd (by rw [ex,ey,ha,hb,hta_,htb_,Int.toNat_natCast,Int.toNat_natCast];exact hmf);refine vQ ?_;exact⟨⟨false,rfl,fun h=>(by cases h),fun _=>hno⟩,hCS.1,hCS.2⟩
  have hmt:(jj l ta tb).2.1=true:=by simpa using c74
  have hme:=meet_true hmt;obtain⟨mm,hmm⟩:∃ mm,(jj l ta tb).1=mm:=⟨_,rfl⟩
  rw [hmm] at hme;refine zQ 10 _ (congrArg (fun(z:Nat)=>Value.int .i64 (z:Int)) hmm) nu ?_;have hus2:=hus1.join hSnd (a:=a) (b:=b) (m:=mm) (by rw [ex];exact ha) (by rw [ey];exact hb) hab (by rw [hta_,htb_,Int.toNat_natCast,Int.toNat_natCast];exact hme);refine zn3 ?_;replace hpa:=hpa.tr0 (t7.trans t8);obtain⟨g0,cur,hA0,_,hbA,hszA,hrdA,hclA⟩:=hpa.open_ (show 0 < U.length by omega);cases hA0;replace hW:=hW.tr0 (t7.trans t8);have or_hW_qp:=o8 hW hbA dE;refine Zq (wl (x5 (v:= .pointer (some _)) rfl) (wl (ZQ rfl) (zn4 ?_)));refine wl (yJ (i:=b) U70 xq rfl rfl hbl rfl) ?_;refine xZ (v:= .int _ _) hbA rfl rfl xq om rfl rfl (fun w7 hq t10=>?_);replace hB:=hB.tr0 t8;replace hB:=hB.tr1 t10 (nLT hw0 (by assumption));replace hta:=hta.tr0 t8;replace hta:=hta.tr1 t10 (fun g hg=>by have:=(hta.lt g hg).1;(try have:=or_hta_qp g hg);omega);replace hla:=hla.tr0 (t7.trans t8);replace hla:=hla.tr1 t10 (fun g hg=>by have:=(hla.lt g hg).1;(try have:=or_hla_qp g hg);omega);replace hrw:=fun x hx=>(hrw x hx).tr t10 (fun g hg=>by rw [List.mem_singleton.1 hg];first | exact .inr ⟨_,_,hbA,by decide⟩ | exact .inl om)
  replace hCS:=And.intro (hCS.1.st t10 hCS.2 (fun g hg=>by have h1:=List.mem_singleton.1 hg;first | (left;rw [h1];simp;done) | (right;omega))) (nLT hCS.2 (Same.size t10));replace hW:=hW.tr1 t10 (fun g hg=>by have:=(hW.lt g hg).1;(try have:=or_hW_qp g hg);omega);replace hbz:=nLT hbz (Same.size t10);replace hbA:=hq;replace hbp:=(hbp.tr0 t8).tr1 t10 om;have hpa:Own w7 ob 3 1 (some ⟨qp,0,none⟩) U.length cp (vj U.length (vN (Yj Q2 b a))):=by
    have h:=hclA _ _ _ hbA;rw [show 0 + b * 1=b by omega,KJ,u5 (g':=vN (Yj Q2 b a)) (fun x _=>by by_cases e:x=b <;> simp [vN,Yj,e])] at h;exact h
  refine zn3 ?_;clear hbA hclA hrdA hszA;obtain⟨g0,cur,hA0,_,hbA,hszA,hrdA,hclA⟩:=hta.open_ (show 0 < U.length by omega);cases hA0;have or_hW_qt:=o8 hW hbA dE;refine Zq (wl (x5 (v:= .pointer (some _)) rfl) (wl (ZQ rfl) (zn4 ?_)));refine wl (yJ (i:=a) U70 xq rfl rfl hal rfl) ?_;refine xZ (v:= .int _ _) hbA rfl rfl xq om rfl rfl (fun w8 hq t11=>?_);replace hB:=hB.tr1 t11 (nLT hw0 (by assumption));replace hla:=hla.tr1 t11 (fun g hg=>by have:=(hla.lt g hg).1;(try have:=or_hla_qt g hg);omega);replace hrw:=fun x hx=>(hrw x hx).tr t11 (fun g hg=>by rw [List.mem_singleton.1 hg];first | exact .inr ⟨_,_,hbA,by decide⟩ | exact .inl om)
  replace hCS:=And.intro (hCS.1.st t11 hCS.2 (fun g hg=>by have h1:=List.mem_singleton.1 hg;first | (left;rw [h1];simp;done) | (right;omega))) (nLT hCS.2 (Same.size t11));replace hW:=hW.tr1 t11 (fun g hg=>by have:=(hW.lt g hg).1;(try have:=or_hW_qt g hg);omega);replace hbz:=nLT hbz (Same.size t11);replace hpa:=hpa.tr1 t11 (fun g hg=>by have:=(hpa.lt g hg).1;(try have:=or_hpa_qt g hg);omega);replace hbA:=hq;replace hbp:=hbp.tr1 t11 om;have hta:Own w8 ob 3 1 (some ⟨qt,0,none⟩) U.length ct (vj U.length (vI (fun x=>if x=a then (mm:Int) else T x))):=by
    have h:=hclA _ _ _ hbA;rw [show 0 + a * 1=a by omega,KJ,u5 (g':=vI (fun x=>if x=a then (mm:Int) else T x)) (fun x _=>by by_cases e:x=a <;> simp [vI,e])] at h;exact h
  refine zn8 ?_;clear hbA hclA hrdA hszA;obtain⟨Ax,cx,hVa,_⟩:=hrw a hal;obtain⟨Ay,cy,hVb,_⟩:=hrw b hbl;obtain⟨zl,hzle⟩:∃ z,z=w8.heap.size:=⟨_,rfl⟩
  have hzl:zl≤w8.heap.size:=Nat.le_of_eq hzle;have hlz:w0.heap.size≤zl:=by rw [hzle];exact Bel.size hB
  have hbl1:bs≤zl:=by rw [hzle];exact hbz
  have hol:ob≤zl:=by rw [hzle];exact hCS.2
  refine gK kR kR (fun w9 t12=>?_);replace hrw:=fun x hx=>(hrw x hx).tr t12 (by simp)
  replace hCS:=And.intro (hCS.1.st t12 hCS.2 (by simp)) (nLT hCS.2 (Same.size t12));replace hbz:=nLT hbz (Same.size t12);replace hzl:=nLT hzl (Same.size t12);refine ws (x5 (v:= .pointer (some _)) rfl) (ws (ZQ rfl) (zn3 ?_));refine ws (yJ (i:=a) Pw uv rfl rfl hal rfl) ?_;replace hla:=hla.tr0 t12;refine ws (qK (v:= .slice Ax (L a).length cx) U91 rfl rfl (by have h:=hla.rowq hal;rw [hVa] at h;exact h)) (ws (x5 (v:= .pointer (some _)) rfl) (ws (ZQ rfl) (zn3 ?_)));refine ws (yJ (i:=b) Pw uv rfl rfl hbl rfl) (ws (qK (v:= .slice Ay (L b).length cy) U91 rfl rfl (by have h:=hla.rowq hbl;rw [hVb] at h;exact h)) (zn2 ?_));refine u4 (zn3 ?_);replace hB:=hB.tr0 t12;replace hbp:=hbp.tr0 t12;replace hW:=hW.tr0 t12;replace hpa:=hpa.tr0 t12;replace hta:=hta.tr0 t12;refine qJ [7,13,14,15,16,103,104,105,106,107,108,109,110,111,112,113,114,115,116,117,118,119,120,121,122,123,124,125,126,127,128,129,130,131,132,133,134,135,136,137,138,139,140,141,142,143,144,145,146,147,148,149,150,151,152,153,154,155,156,157,158,159,160,161,162,163] (fun m g w'=>∃ (acc xs ys W2:List (Int×Int)) (A13 A14 A15 WA:Option Addr) (c13 c14 c15 capW:Nat),m=xs.length + ys.length∧g 13= .slice A13 acc.length c13∧g 14= .slice A14 xs.length c14∧g 15= .slice A15 ys.length c15∧g 7= .slice WA W2.length capW∧Bel w0 w'∧Blk w' bp 125 #[.slice (some ⟨bu,0,none⟩) l.length l.length,.slice (some ⟨bd,0,none⟩) l.length l.length,.slice (some ⟨qp,0,none⟩) U.length cp,.slice (some ⟨qt,0,none⟩) U.length ct,.slice (some ⟨ql,0,none⟩) U.length cl]∧Own w' ob 3 1 (some ⟨qp,0,none⟩) U.length cp (vj U.length (vN (Yj Q2 b a)))∧Own w' ob 3 1 (some ⟨qt,0,none⟩) U.length ct (vj U.length (vI (fun x=>if x=a then (mm:Int) else T x)))∧Own w' ob 91 1 (some ⟨ql,0,none⟩) U.length cl (vj U.length V)∧(∀ x,x < U.length→RowO w' ob bs (V x) (L x))∧Own w' ob 134 2 WA (W2).length capW (lnV (W2))∧(Chg ob [bp] w w'∧ob≤w'.heap.size)∧bs≤w'.heap.size∧zl≤w'.heap.size∧Own w' zl 95 2 A13 acc.length c13 (lnV acc)∧Suf w' ob bs (.slice A14 xs.length c14) xs∧Suf w' ob bs (.slice A15 ys.length c15) ys∧MG (L a) (L b) acc xs ys W1 W2) ((L a).length + (L b).length) ?_ (fun m g13 w10 hI=>?_)
  ·exact⟨[],L a,L b,W1,none,Ax,Ay,_,0,cx,cy,capW,rfl,rfl,rfl,rfl,rfl,hB,hbp,hpa,hta,hla,hrw,hW,hCS,hbz,hzl,Own.nil _ _ _ _,by rw [← hVa];exact Suf.of (hrw a hal),by rw [← hVb];exact Suf.of (hrw b hbl),MG.start _ _ _⟩
  obtain⟨acc,xs,ys,W2,A13,A14,A15,WA,c13,c14,c15,capW,hmm13,h13,h14,h15,h7,hB,hbp,hpa,hta,hla,hrw,hW,hCS,hbz,hzl,hacc,hsx,hsy,hmg⟩:=hI;refine zQ 13 _ h13 nu (zQ 14 _ h14 nu (zQ 15 _ h15 nu (zQ 7 _ h7 nu (xK (xK ?_)))));refine yQ [103,104,105,106,107,108,109,110] 110 (.bool (decide (0 < xs.length∧0 < ys.length))) nu ?_ (fun gq=>?_)
  ·refine zn5 ?_;refine zV 106 rfl (fun g106=>?_) (fun g106=>?_)
   ·refine zn7 ?_;refine zW (e_R ⟨rfl,agA,?_⟩);exact clA
   refine zn4 ?_;refine zW (e_R ⟨rfl,agA,?_⟩);exact clA
  refine e_S ?_;refine zJ rfl (fun c110=>?_) (fun c110=>?_)
  ·obtain⟨zx,xr,rfl⟩:=consP c110.1;obtain⟨zy,yr,rfl⟩:=consP c110.2;obtain⟨gx,ox,rfl,_,_⟩:=hsx.cons.at_;obtain⟨gy,oy,rfl,_,_⟩:=hsy.cons.at_;have hmgl:=hmg.l;have hmg2':=hmg.l2;simp only [List.length_cons] at hmgl hmg2' hmm13;refine zn4 ?_;refine uQ [] [0,1,2,3,4,5,6,7,8,9] rfl (fun w11 t13=>?_);replace hrw:=fun x hx=>(hrw x hx).tr t13 (by simp)
   replace hCS:=And.intro (hCS.1.st t13 hCS.2 (by simp)) (nLT hCS.2 (Same.size t13));replace hbz:=nLT hbz (Same.size t13);replace hsx:=hsx.tr t13 (by simp);replace hsy:=hsy.tr t13 (by simp);replace hzl:=nLT hzl (Same.size t13);refine zn1 ?_;refine hl rfl (fun _=>yJ (i:=0) U91 qX rfl rfl (by simp) rfl) (zn1 ?_);refine hl1 (v:= .int _ _) rfl U3 rfl rfl (hsx.rng 0 _ rfl) (zn1 ?_);refine hl rfl (fun _=>yJ (i:=0) U91 qX rfl rfl (by simp) rfl) (zn1 ?_);refine hl1 (v:= .int _ _) rfl U3 rfl rfl (hsy.rng 0 _ rfl) ?_;refine hcl (fun v wv=>v= .int .i64 (Iz zx.1 zy.1)) rfl fn69 (N7 zx.1 zy.1 w11) rfl (fun e' w2 hr=>?_) (fun v119 w12 t14 d119=>?_)
   ·obtain⟨rfl,t15⟩:=hr;exact⟨_,rfl,sB t15,rfl⟩
   replace hrw:=fun x hx=>(hrw x hx).tr t14 (by simp)
   replace hCS:=And.intro (hCS.1.st t14 hCS.2 (by simp)) (nLT hCS.2 (Same.size t14));replace hbz:=nLT hbz (Same.size t14);replace hsx:=hsx.tr t14 (by simp);replace hsy:=hsy.tr t14 (by simp);replace hzl:=nLT hzl (Same.size t14);have e119:=d119;subst e119;refine gj ?_;replace hB:=hB.tr0 (t13.trans t14);replace hbp:=hbp.tr0 (t13.trans t14);replace hla:=hla.tr0 (t13.trans t14);replace hpa:=hpa.tr0 (t13.trans t14);replace hta:=hta.tr0 (t13.trans t14);replace hW:=hW.tr0 (t13.trans t14);replace hacc:=hacc.tr0 (t13.trans t14);refine zJ rfl (fun c142=>?_) (fun c142=>?_)
   ·have hmg2:=hmg.left (cmpI_lt.1 c142);obtain⟨xs2,hxs2⟩:∃ s,s=xr:=⟨_,rfl⟩
    obtain⟨ys2,hys2⟩:∃ s,s=zy :: yr:=⟨_,rfl⟩
    have hml:xs2.length + ys2.length + 1=xr.length + 1 + (yr.length + 1):=by rw [hxs2,hys2,List.length_cons];omega
    refine zn4 ?_;refine wl (yJ (i:=0) U91 qX rfl rfl (by simp) rfl) (wl (qW U95 rfl rfl hsx.rng qX) ?_);refine qZ (cs:=#[_,_]) [(0,.agg _)] rfl U91 qX Z2 dE dE kR rfl (fun b149 w13 hb149 t16 hr=>?_);have:=nLL hbp.lt hr;have or_hla_b149:=(fun(g:Nat) hg=>nLL (hla.lt g hg).2 hr)
    have or_hCS_b149:=(nLT hCS.2 hr)
    have or_hbz_b149:=(nLT hbz hr)
    have or_hpa_b149:=(fun(g:Nat) hg=>nLL (hpa.lt g hg).2 hr)
    have or_hta_b149:=(fun(g:Nat) hg=>nLL (hta.lt g hg).2 hr)
    have or_hW_b149:=(fun(g:Nat) hg=>nLL (hW.lt g hg).2 hr)
    have or_hacc_b149:=(fun(g:Nat) hg=>nLL (hacc.lt g hg).2 hr)
    have or_hzl_b149:=(nLT hzl hr)
    have lo149:=nLT (Bel.size hB) hr;replace hrw:=fun x hx=>(hrw x hx).tr t16 (by simp)
    replace hCS:=And.intro (hCS.1.st t16 hCS.2 (by simp)) (nLT hCS.2 (Same.size t16));replace hbz:=nLT hbz (Same.size t16);replace hsx:=hsx.tr t16 (by simp);replace hsy:=hsy.tr t16 (by simp);replace hzl:=nLT hzl (Same.size t16);replace hacc:=hacc.tr0 t16;refine j9 U91 Xk rfl dE hacc hb149 rfl rfl rfl zK dE om om hzl (fun g150 cap150 w14 ho150 t17 hg=>?_);replace hbp:=hbp.tr0 t16;have ne_ho150_bp:g150≠bp:=fun e=>by
     have hl:=hbp.lt;rcases hg with hg | hg
     · have h1:=hacc.lt g150 (by rw [hg];exact List.mem_singleton.2 rfl)
       (try have:=or_hacc_bp g150 (by rw [hg];exact List.mem_singleton.2 rfl));omega
     · omega
    replace hB:=hB.tr0 t16;replace hB:=hB.tr t17 (fun g hg=>nLT hlz (hacc.lt g hg).1);replace hbp:=hbp.tr t17 (fun hx=>by have:=(hacc.lt _ hx).1;(try have:=or_hacc_bp _ hx);omega);replace hla:=hla.tr0 t16;replace hla:=hla.tr t17 (fun g hg hx=>by first | exact x9 hla hacc dE g hg hx | exact hdis g hg hx | exact hdis g hx hg | (have h1:=(hacc.lt g hx).1;(try have:=hzz g hg);omega));replace hrw:=fun x hx=>(hrw x hx).tr t17 (fun g hg=>by first | exact .inl (by have:=((hacc).lt g hg).1;omega) | (obtain⟨cs,h⟩:=(hacc).typ g hg;exact .inr ⟨_,_,h,by decide⟩))
    replace hCS:=And.intro (hCS.1.st t17 hCS.2 (fun g hg=> .inr (by have:=((hacc).lt g hg).1;omega))) (nLT hCS.2 (Same.size t17));replace hbz:=nLT hbz (Same.size t17);replace hpa:=hpa.tr0 t16;replace hpa:=hpa.tr t17 (fun g hg hx=>by first | exact x9 hpa hacc dE g hg hx | exact hdis g hg hx | exact hdis g hx hg | (have h1:=(hacc.lt g hx).1;(try have:=hzz g hg);omega));replace hta:=hta.tr0 t16;replace hta:=hta.tr t17 (fun g hg hx=>by first | exact x9 hta hacc dE g hg hx | exact hdis g hg hx | exact hdis g hx hg | (have h1:=(hacc.lt g hx).1;(try have:=hzz g hg);omega));replace hW:=hW.tr0 t16;replace hW:=hW.tr t17 (fun g hg hx=>x9 hW hacc dE g hg hx);replace hsx:=hsx.tr t17 (fun g hg=>by first | exact .inl (by have:=((hacc).lt g hg).1;omega) | (obtain⟨cs,h⟩:=(hacc).typ g hg;exact .inr ⟨_,_,h,by decide⟩));replace hsy:=hsy.tr t17 (fun g hg=>by first | exact .inl (by have:=((hacc).lt g hg).1;omega) | (obtain⟨cs,h⟩:=(hacc).typ g hg;exact .inr ⟨_,_,h,by decide⟩));replace hzl:=nLT hzl (Same.size t17);have hac2:=ZX (k:=1) ho150 rfl;refine zn3 ?_;replace hsx:=hsx.cons.next;rw [← hxs2] at hsx hmg2;rw [← hys2] at hsy hmg2;refine zn2 ?_;refine wl (Hy (l:=1) U91 qX rfl rfl (by simp)) (zn4 ?_);refine yq (xs2.length + ys2.length) om agA ?_;exact⟨_,xs2,ys2,_,_,_,_,_,_,_,_,_,rfl,X4 _ _ _ _,by first | rfl | (subst hxs2;rfl),by first | rfl | (subst hys2;rfl),by first | rfl | exact X4 _ _ _ _,hB,hbp,hpa,hta,hla,hrw,hW,hCS,hbz,hzl,hac2,hsx,hsy,hmg2⟩
   refine zn7 ?_;refine zJ rfl (fun c153=>?_) (fun c153=>?_)
   ·have hmg2:=hmg.right (cmpI_gt.1 c153);obtain⟨xs2,hxs2⟩:∃ s,s=zx :: xr:=⟨_,rfl⟩
    obtain⟨ys2,hys2⟩:∃ s,s=yr:=⟨_,rfl⟩
    have hml:xs2.length + ys2.length + 1=xr.length + 1 + (yr.length + 1):=by rw [hxs2,hys2,List.length_cons];omega
    refine zn4 ?_;refine wl (yJ (i:=0) U91 qX rfl rfl (by simp) rfl) (wl (qW U95 rfl rfl hsy.rng qX) ?_);refine qZ (cs:=#[_,_]) [(0,.agg _)] rfl U91 qX Z2 dE dE kR rfl (fun b160 w15 hb160 t18 hr=>?_);have:=nLL hbp.lt hr;have or_hla_b160:=(fun(g:Nat) hg=>nLL (hla.lt g hg).2 hr)
    have or_hCS_b160:=(nLT hCS.2 hr)
    have or_hbz_b160:=(nLT hbz hr)
    have or_hpa_b160:=(fun(g:Nat) hg=>nLL (hpa.lt g hg).2 hr)
    have or_hta_b160:=(fun(g:Nat) hg=>nLL (hta.lt g hg).2 hr)
    have or_hW_b160:=(fun(g:Nat) hg=>nLL (hW.lt g hg).2 hr)
    have or_hacc_b160:=(fun(g:Nat) hg=>nLL (hacc.lt g hg).2 hr)
    have or_hzl_b160:=(nLT hzl hr)
    have lo160:=nLT (Bel.size hB) hr;replace hrw:=fun x hx=>(hrw x hx).tr t18 (by simp)
    replace hCS:=And.intro (hCS.1.st t18 hCS.2 (by simp)) (nLT hCS.2 (Same.size t18));replace hbz:=nLT hbz (Same.size t18);replace hsx:=hsx.tr t18 (by simp);replace hsy:=hsy.tr t18 (by simp);replace hzl:=nLT hzl (Same.size t18);replace hacc:=hacc.tr0 t18;refine j9 U91 Xk rfl dE hacc hb160 rfl rfl rfl zK dE om om hzl (fun g161 cap161 w16 ho161 t19 hg=>?_);replace hbp:=hbp.tr0 t18;have ne_ho161_bp:g161≠bp:=fun e=>by
     have hl:=hbp.lt;rcases hg with hg | hg
     · have h1:=hacc.lt g161 (by rw [hg];exact List.mem_singleton.2 rfl)
       (try have:=or_hacc_bp g161 (by rw [hg];exact List.mem_singleton.2 rfl));omega
     · omega
    replace hB:=hB.tr0 t18;replace hB:=hB.tr t19 (fun g hg=>nLT hlz (hacc.lt g hg).1);replace hbp:=hbp.tr t19 (fun hx=>by have:=(hacc.lt _ hx).1;(try have:=or_hacc_bp _ hx);omega);replace hla:=hla.tr0 t18;replace hla:=hla.tr t19 (fun g hg hx=>by first | exact x9 hla hacc dE g hg hx | exact hdis g hg hx | exact hdis g hx hg | (have h1:=(hacc.lt g hx).1;(try have:=hzz g hg);omega));replace hrw:=fun x hx=>(hrw x hx).tr t19 (fun g hg=>by first | exact .inl (by have:=((hacc).lt g hg).1;omega) | (obtain⟨cs,h⟩:=(hacc).typ g hg;exact .inr ⟨_,_,h,by decide⟩))
    replace hCS:=And.intro (hCS.1.st t19 hCS.2 (fun g hg=> .inr (by have:=((hacc).lt g hg).1;omega))) (nLT hCS.2 (Same.size t19));replace hbz:=nLT hbz (Same.size t19);replace hpa:=hpa.tr0 t18;replace hpa:=hpa.tr t19 (fun g hg hx=>by first | exact x9 hpa hacc dE g hg hx | exact hdis g hg hx | exact hdis g hx hg | (have h1:=(hacc.lt g hx).1;(try have:=hzz g hg);omega));replace hta:=hta.tr0 t18;replace hta:=hta.tr t19 (fun g hg hx=>by first | exact x9 hta hacc dE g hg hx | exact hdis g hg hx | exact hdis g hx hg | (have h1:=(hacc.lt g hx).1;(try have:=hzz g hg);omega));replace hW:=hW.tr0 t18;replace hW:=hW.tr t19 (fun g hg hx=>x9 hW hacc dE g hg hx);replace hsx:=hsx.tr t19 (fun g hg=>by first | exact .inl (by have:=((hacc).lt g hg).1;omega) | (obtain⟨cs,h⟩:=(hacc).typ g hg;exact .inr ⟨_,_,h,by decide⟩));replace hsy:=hsy.tr t19 (fun g hg=>by first | exact .inl (by have:=((hacc).lt g hg).1;omega) | (obtain⟨cs,h⟩:=(hacc).typ g hg;exact .inr ⟨_,_,h,by decide⟩));replace hzl:=nLT hzl (Same.size t19);have hac2:=ZX (k:=1) ho161 rfl;refine zn3 ?_;replace hsy:=hsy.cons.next;rw [← hys2] at hsy hmg2;rw [← hxs2] at hsx hmg2;refine zn2 ?_;refine wl (Hy (l:=1) U91 qX rfl rfl (by simp)) (zn4 ?_);refine yq (xs2.length + ys2.length) om agA ?_;exact⟨_,xs2,ys2,_,_,_,_,_,_,_,_,_,rfl,X4 _ _ _ _,by first | rfl | (subst hxs2;rfl),by first | rfl | (subst hys2;rfl),by first | rfl | exact X4 _ _ _ _,hB,hbp,hpa,hta,hla,hrw,hW,hCS,hbz,hzl,hac2,hsx,hsy,hmg2⟩
   have hmg2:=hmg.both (cmpI_eq.1 om);obtain⟨xs2,hxs2⟩:∃ s,s=xr:=⟨_,rfl⟩
   obtain⟨ys2,hys2⟩:∃ s,s=yr:=⟨_,rfl⟩
   have hml:xs2.length + ys2.length + 2=xr.length + 1 + (yr.length + 1):=by rw [hxs2,hys2];omega
   refine zn4 ?_;refine wl (yJ (i:=0) U91 qX rfl rfl (by simp) rfl) (wl (qW U95 rfl rfl hsx.rng qX) ?_);refine qZ (cs:=#[_,_]) [(0,.agg _)] rfl U91 qX Z2 dE dE kR rfl (fun b124 w17 hb124 t20 hr=>?_);have:=nLL hbp.lt hr;have or_hla_b124:=(fun(g:Nat) hg=>nLL (hla.lt g hg).2 hr)
   have or_hCS_b124:=(nLT hCS.2 hr)
   have or_hbz_b124:=(nLT hbz hr)
   have or_hpa_b124:=(fun(g:Nat) hg=>nLL (hpa.lt g hg).2 hr)
   have or_hta_b124:=(fun(g:Nat) hg=>nLL (hta.lt g hg).2 hr)
   have or_hW_b124:=(fun(g:Nat) hg=>nLL (hW.lt g hg).2 hr)
   have or_hacc_b124:=(fun(g:Nat) hg=>nLL (hacc.lt g hg).2 hr)
   have or_hzl_b124:=(nLT hzl hr)
   have lo124:=nLT (Bel.size hB) hr;replace hrw:=fun x hx=>(hrw x hx).tr t20 (by simp)
   replace hCS:=And.intro (hCS.1.st t20 hCS.2 (by simp)) (nLT hCS.2 (Same.size t20));replace hbz:=nLT hbz (Same.size t20);replace hsx:=hsx.tr t20 (by simp);replace hsy:=hsy.tr t20 (by simp);replace hzl:=nLT hzl (Same.size t20);replace hacc:=hacc.tr0 t20;refine j9 U91 Xk rfl dE hacc hb124 rfl rfl rfl zK dE om om hzl (fun g125 cap125 w18 ho125 t21 hg=>?_);replace hbp:=hbp.tr0 t20;replace hW:=hW.tr0 t20;have ne_ho125_bp:g125≠bp:=fun e=>by
    have hl:=hbp.lt;rcases hg with hg | hg
    · have h1:=hacc.lt g125 (by rw [hg];exact List.mem_singleton.2 rfl)
      (try have:=or_hacc_bp g125 (by rw [hg];exact List.mem_singleton.2 rfl));omega
    · omega
   replace hB:=hB.tr0 t20;replace hB:=hB.tr t21 (fun g hg=>nLT hlz (hacc.lt g hg).1);replace hbp:=hbp.tr t21 (fun hx=>by have:=(hacc.lt _ hx).1;(try have:=or_hacc_bp _ hx);omega);replace hla:=hla.tr0 t20;replace hla:=hla.tr t21 (fun g hg hx=>by first | exact x9 hla hacc dE g hg hx | exact hdis g hg hx | exact hdis g hx hg | (have h1:=(hacc.lt g hx).1;(try have:=hzz g hg);omega));replace hrw:=fun x hx=>(hrw x hx).tr t21 (fun g hg=>by first | exact .inl (by have:=((hacc).lt g hg).1;omega) | (obtain⟨cs,h⟩:=(hacc).typ g hg;exact .inr ⟨_,_,h,by decide⟩))
   replace hCS:=And.intro (hCS.1.st t21 hCS.2 (fun g hg=> .inr (by have:=((hacc).lt g hg).1;omega))) (nLT hCS.2 (Same.size t21));replace hbz:=nLT hbz (Same.size t21);replace hpa:=hpa.tr0 t20;replace hpa:=hpa.tr t21 (fun g hg hx=>by first | exact x9 hpa hacc dE g hg hx | exact hdis g hg hx | exact hdis g hx hg | (have h1:=(hacc.lt g hx).1;(try have:=hzz g hg);omega));replace hta:=hta.tr0 t20;replace hta:=hta.tr t21 (fun g hg hx=>by first | exact x9 hta hacc dE g hg hx | exact hdis g hg hx | exact hdis g hx hg | (have h1:=(hacc.lt g hx).1;(try have:=hzz g hg);omega));replace hW:=hW.tr t21 (fun g hg hx=>x9 hW hacc dE g hg hx);replace hsx:=hsx.tr t21 (fun g hg=>by first | exact .inl (by have:=((hacc).lt g hg).1;omega) | (obtain⟨cs,h⟩:=(hacc).typ g hg;exact .inr ⟨_,_,h,by decide⟩));replace hsy:=hsy.tr t21 (fun g hg=>by first | exact .inl (by have:=((hacc).lt g hg).1;omega) | (obtain⟨cs,h⟩:=(hacc).typ g hg;exact .inr ⟨_,_,h,by decide⟩));replace hzl:=nLT hzl (Same.size t21);have hac2:=ZX (k:=1) ho125 rfl;refine zn4 ?_;have zo:=fun g hg=>(hW.lt g hg).2
   refine Qq 12 [126,127,128,129,130,131,132,133,134,135,136,137] (aL WA) 11 (fun ix v wv=>match ix with | 0=>v= .slice WA W2.length capW | 1=>v= .slice (some ⟨gx,ox,none⟩) (zx :: xr).length c14 | 2=>v= .pointer (some ⟨gx,ox + 0 * 2,none⟩) | 3=>v= .pointer (some ⟨gx,ox + 0 * 2 + 1,none⟩) | 4=>v= .int .i64 zx.2 | 5=>v= .slice (some ⟨gy,oy,none⟩) (zy :: yr).length c15 | 6=>v= .pointer (some ⟨gy,oy + 0 * 2,none⟩) | 7=>v= .pointer (some ⟨gy,oy + 0 * 2 + 1,none⟩) | 8=>v= .int .i64 zy.2 | 9=>v= .agg #[.int .i64 zx.2,.int .i64 zy.2] | 10=>∃ b,v= .slice (some ⟨b,0,none⟩) 1 1∧w18.heap.size≤b∧Blk wv b 134 #[.int .i64 zx.2,.int .i64 zy.2] | 11=>∃ g cap,v= .slice (some ⟨g,0,none⟩) (W2.length + 1) cap∧Own wv ob 134 2 (some ⟨g,0,none⟩) (W2.length + 1) cap (lnV W2 ++ [.int .i64 zx.2,.int .i64 zy.2]) | _=>True) (fun _=>True) kR kR ?_ (fun _ _ _ _=>trivial) ?_ ?_ dE ?_
   ·intro ix v wv wv2 h t22
    match ix,h with
    | 0,h=>exact h
    | 1,h=>exact h
    | 2,h=>exact h
    | 3,h=>exact h
    | 4,h=>exact h
    | 5,h=>exact h
    | 6,h=>exact h
    | 7,h=>exact h
    | 8,h=>exact h
    | 9,h=>exact h
    | 10,h=>
     obtain⟨b136,e136,lo136,hb136⟩:=h;exact⟨b136,e136,lo136,hb136.tr0 t22⟩
    | 11,h=>
     obtain⟨g137,cap137,e137,ho137⟩:=h;exact⟨g137,cap137,e137,ho137.tr0 t22⟩
    | _ + 12,h=>exact trivial
   ·intro ix o hix hne hoq gg wx t23 hd
    match ix,hix,hne,hoq with
    | 0,_,_,hoq=>
     cases sI hoq;refine qQ (x5 (v:= .slice _ _ _) rfl) ⟨Same.refl _ _,?_⟩;exact rfl
    | 1,_,_,hoq=>
     cases sI hoq;refine qQ (x5 (v:= .slice _ _ _) rfl) ⟨Same.refl _ _,?_⟩;exact rfl
    | 2,_,_,hoq=>
     cases sI hoq;refine zq 127 _ (hd 1 (zj kR)) nu ?_;refine qQ (yJ (i:=0) U91 qX rfl rfl (by simp) rfl) ⟨Same.refl _ _,?_⟩;exact rfl
    | 3,_,_,hoq=>
     cases sI hoq;refine zq 128 _ (hd 2 (zj kR)) nu ?_;refine qQ (o7 U95 xq dE rfl rfl rfl) ⟨Same.refl _ _,?_⟩;exact rfl
    | 4,_,_,hoq=>
     cases sI hoq;replace hsx:=hsx.tr t23 (fun g hg=>by first | exact .inl (by have:=((hW).lt g hg).1;omega) | (obtain⟨cs,h⟩:=(hW).typ g hg;exact .inr ⟨_,_,h,by decide⟩));refine zq 129 _ (hd 3 (zj kR)) nu ?_;refine qQ (qK (v:= .int _ _) U3 rfl rfl (hsx.rng 1 _ rfl)) ⟨Same.refl _ _,?_⟩;exact rfl
    | 5,_,_,hoq=>
     cases sI hoq;refine qQ (x5 (v:= .slice _ _ _) rfl) ⟨Same.refl _ _,?_⟩;exact rfl
    | 6,_,_,hoq=>
     cases sI hoq;refine zq 131 _ (hd 5 (zj kR)) nu ?_;refine qQ (yJ (i:=0) U91 qX rfl rfl (by simp) rfl) ⟨Same.refl _ _,?_⟩;exact rfl
    | 7,_,_,hoq=>
     cases sI hoq;refine zq 132 _ (hd 6 (zj kR)) nu ?_;refine qQ (o7 U95 xq dE rfl rfl rfl) ⟨Same.refl _ _,?_⟩;exact rfl
    | 8,_,_,hoq=>
     cases sI hoq;replace hsy:=hsy.tr t23 (fun g hg=>by first | exact .inl (by have:=((hW).lt g hg).1;omega) | (obtain⟨cs,h⟩:=(hW).typ g hg;exact .inr ⟨_,_,h,by decide⟩));refine zq 133 _ (hd 7 (zj kR)) nu ?_;refine qQ (qK (v:= .int _ _) U3 rfl rfl (hsy.rng 1 _ rfl)) ⟨Same.refl _ _,?_⟩;exact rfl
    | 9,_,_,hoq=>
     cases sI hoq;refine zq 130 _ (hd 4 (zj kR)) nu (zq 134 _ (hd 8 (zj kR)) nu ?_);refine qQ (Z9 (v0:= .int _ _) (v1:= .int _ _) (fun v0 v1=>#[v0,v1]) rfl rfl kR) ⟨Same.refl _ _,?_⟩;exact rfl
    | 10,_,_,hoq=>
     cases sI hoq;have hs0:=t23;refine zq 135 _ (hd 9 (zj kR)) nu ?_;refine vK (fun ops Q K=>?_);refine qZ (cs:=#[_,_]) [(0,.agg _)] rfl Pv Sq ze134 dE dE kR rfl (fun b136 w19 hb136 t24 hr=>?_);exact K _ _ ⟨t24,⟨_,rfl,nLT hs0.size hr,hb136⟩⟩
    | 11,_,hne,_=>exact absurd rfl hne
    | _ + 12,hix,_,_=>exact absurd hix om
   ·intro o hoq gg wx t25 hd;cases sI hoq;replace hrw:=fun x hx=>(hrw x hx).tr t25 (by simp)
    replace hCS:=And.intro (hCS.1.st t25 hCS.2 (by simp)) (nLT hCS.2 (Same.size t25));replace hbz:=nLT hbz (Same.size t25);replace hzl:=nLT hzl (Same.size t25);obtain⟨b136,e136,lo136,hb136⟩:=hd 10 (zj kR);refine zq 126 _ (hd 0 (zj kR)) nu (zq 136 _ e136 nu ?_);refine vK (fun ops Q K=>?_);replace hW:=hW.tr0 t25;refine j9 Pv in134 rfl dE hW hb136 rfl rfl rfl zK dE om om hCS.2 (fun g137 cap137 w2 ho137 hs2 hg137=>?_);refine K _ _ ⟨hs2,⟨_,_,rfl,ho137⟩,trivial,fun kx v hne h=>?_⟩
    match kx,hne,h with
    | 0,_,h=>exact h
    | 1,_,h=>exact h
    | 2,_,h=>exact h
    | 3,_,h=>exact h
    | 4,_,h=>exact h
    | 5,_,h=>exact h
    | 6,_,h=>exact h
    | 7,_,h=>exact h
    | 8,_,h=>exact h
    | 9,_,h=>exact h
    | 10,_,h=>
     obtain⟨b136,e136,lo136,hb136⟩:=h;exact⟨b136,e136,lo136,hb136.tr hs2 (fun hx=>by have:=zo _ hx;omega)⟩
    | 11,hne,_=>exact absurd rfl hne
    | _ + 12,_,_=>exact trivial
   intro gg w20 t26 _ hR;replace hB:=hB.tr t26 (fun g hg=>nLT hlob (hW.lt g hg).1);replace hbp:=hbp.tr t26 (fun hx=>by have:=(hW.lt _ hx).1;(try have:=or_hW_bp _ hx);omega);replace hla:=hla.tr t26 (fun g hg hx=>by first | exact x9 hla hW dE g hg hx | exact hdis g hg hx | exact hdis g hx hg | (have h1:=(hW.lt g hx).1;(try have:=hzz g hg);omega));replace hrw:=fun x hx=>(hrw x hx).tr t26 (fun g hg=>by first | exact .inl (by have:=((hW).lt g hg).1;omega) | (obtain⟨cs,h⟩:=(hW).typ g hg;exact .inr ⟨_,_,h,by decide⟩))
   replace hCS:=And.intro (hCS.1.st t26 hCS.2 (fun g hg=> .inr (by have:=((hW).lt g hg).1;omega))) (nLT hCS.2 (Same.size t26));replace hbz:=nLT hbz (Same.size t26);replace hpa:=hpa.tr t26 (fun g hg hx=>by first | exact x9 hpa hW dE g hg hx | exact hdis g hg hx | exact hdis g hx hg | (have h1:=(hW.lt g hx).1;(try have:=hzz g hg);omega));replace hta:=hta.tr t26 (fun g hg hx=>by first | exact x9 hta hW dE g hg hx | exact hdis g hg hx | exact hdis g hx hg | (have h1:=(hW.lt g hx).1;(try have:=hzz g hg);omega));replace hsx:=hsx.tr t26 (fun g hg=>by first | exact .inl (by have:=((hW).lt g hg).1;omega) | (obtain⟨cs,h⟩:=(hW).typ g hg;exact .inr ⟨_,_,h,by decide⟩));replace hsy:=hsy.tr t26 (fun g hg=>by first | exact .inl (by have:=((hW).lt g hg).1;omega) | (obtain⟨cs,h⟩:=(hW).typ g hg;exact .inr ⟨_,_,h,by decide⟩));replace hzl:=nLT hzl (Same.size t26);replace hac2:=hac2.tr t26 (fun g hg hx=>x9 hac2 hW dE g hg hx);obtain⟨g137,cap137,e137,ho137⟩:=hR 11 dE;have hW:=ZX (k:=1) ho137 rfl;refine qY 137 _ e137 nu (zn3 ?_);replace hsx:=hsx.cons.next;replace hsy:=hsy.cons.next;rw [← hxs2] at hsx hmg2;rw [← hys2] at hsy hmg2;refine gK kR kR (fun w21 t27=>?_);replace hrw:=fun x hx=>(hrw x hx).tr t27 (by simp)
   replace hCS:=And.intro (hCS.1.st t27 hCS.2 (by simp)) (nLT hCS.2 (Same.size t27));replace hbz:=nLT hbz (Same.size t27);replace hsx:=hsx.tr t27 (by simp);replace hsy:=hsy.tr t27 (by simp);replace hzl:=nLT hzl (Same.size t27);refine zn1 ?_;refine ws (Hy (l:=1) U91 qX rfl rfl (by simp)) (zn1 ?_);refine ws (Hy (l:=1) U91 qX rfl rfl (by simp)) (zn2 ?_);refine u4 (e_B (e_B (yq (xs2.length + ys2.length) om agA ?_)));replace hB:=hB.tr0 t27;replace hbp:=hbp.tr0 t27;replace hla:=hla.tr0 t27;replace hpa:=hpa.tr0 t27;replace hta:=hta.tr0 t27;replace hac2:=hac2.tr0 t27;replace hW:=hW.tr0 t27;exact⟨_,xs2,ys2,_,_,_,_,_,_,_,_,_,rfl,X4 _ _ _ _,by first | rfl | (subst hxs2;rfl),by first | rfl | (subst hys2;rfl),by first | rfl | exact X4 _ _ _ _,hB,hbp,hpa,hta,hla,hrw,hW,hCS,hbz,hzl,hac2,hsx,hsy,hmg2⟩
  obtain⟨hme1,hme2⟩:=hmg.end_ c110;have hmgl:=hmg.l;have hmg2':=hmg.l2;rw [hme2] at hus2;obtain⟨rep2,hrep2⟩:∃ r,r=UF.un rep a b:=⟨_,rfl⟩
  rw [← hrep2] at hus2;have hrj:=Fv hbl hrb hra hab;rw [← hrep2] at hrj;have hmul:=Nat.mul_le_mul_right (nf + 1) (show roots U.length rep2 + 1≤roots U.length rep from hrj);rw [Nat.add_mul,Nat.one_mul] at hmul;have hmlen:(xQ (L a) (L b)).length≤1000000:=by rw [hme1];simp;omega
  refine zn5 ?_;refine uj 11 [164,165,166,167,168,169,170,171,172,173,174] (fun _=>false) (fun ix v wv=>match ix with | 0=>v= .pointer (some ⟨bp,0,none⟩) | 1=>v= .pointer (some ⟨bp,0,none⟩) | 2=>v= .pointer (some ⟨bp,4,none⟩) | 3=>v= .slice (some ⟨ql,0,none⟩) U.length cl | 4=>v= .int .i64 (a:Nat) | 5=>v= .slice A13 acc.length c13 | 6=>v= .slice A14 xs.length c14 | 7=>v= .slice A15 ys.length c15 | 8=>∃ b,v= .slice (some ⟨b,0,none⟩) 3 3∧Blk wv b 91 #[.slice A13 acc.length c13,.slice A14 xs.length c14,.slice A15 ys.length c15] | 9=>∃ AC cc,v= .slice AC (xQ (L a) (L b)).length cc∧Own wv ob 95 2 AC (xQ (L a) (L b)).length cc (lnV (xQ (L a) (L b))) | 10=>v= .pointer (some ⟨ql,0 + a * 1,none⟩) | _=>True) kR kR ?_ ?_ ?_
  ·intro ix v wv wv2 h t28
   match ix,h with
   | 0,h=>exact h
   | 1,h=>exact h
   | 2,h=>exact h
   | 3,h=>exact h
   | 4,h=>exact h
   | 5,h=>exact h
   | 6,h=>exact h
   | 7,h=>exact h
   | 8,h=>
    obtain⟨b172,e172,hb172⟩:=h;exact⟨b172,e172,hb172.tr0 t28⟩
   | 9,h=>
    obtain⟨AC,cc,e173,hoC⟩:=h;exact⟨AC,cc,e173,hoC.tr0 t28⟩
   | 10,h=>exact h
   | _ + 11,h=>exact trivial
  ·intro ix o hix hoq gg wx t29 hd hdis
   match ix,hix,hoq with
   | 0,_,hoq=>
    cases sI hoq;exact oVq (x5 (v:= .pointer (some _)) rfl) rfl
   | 1,_,hoq=>
    cases sI hoq;refine zq 164 _ (hd 0 (zj kR)) nu ?_;exact oVq (ZQ rfl) rfl
   | 2,_,hoq=>
    cases sI hoq;refine zq 165 _ (hd 1 (zj kR)) nu ?_;exact oVq (o7 Bq sz123 dE rfl rfl rfl) rfl
   | 3,_,hoq=>
    cases sI hoq;refine zq 166 _ (hd 2 (zj kR)) nu ?_;replace hbp:=hbp.tr0 t29;exact oVq (qK (v:= .slice _ _ _) Pw rfl rfl (hbp.cell rfl)) rfl
   | 4,_,hoq=>
    cases sI hoq;exact oVq (x5 (v:= .int _ _) rfl) rfl
   | 5,_,hoq=>
    cases sI hoq;exact oVq (x5 (v:= .slice _ _ _) rfl) rfl
   | 6,_,hoq=>
    cases sI hoq;exact oVq (x5 (v:= .slice _ _ _) rfl) rfl
   | 7,_,hoq=>
    cases sI hoq;exact oVq (x5 (v:= .slice _ _ _) rfl) rfl
   | 8,_,hoq=>
    cases sI hoq;refine zq 169 _ (hd 5 (zj kR)) nu (zq 170 _ (hd 6 (zj kR)) nu (zq 171 _ (hd 7 (zj kR)) nu ?_));refine vK (fun ops Q K=>?_);refine qZ (cs:=#[_,_,_]) [(0,.slice _ _ _),(1,.slice _ _ _),(2,.slice _ _ _)] rfl Pw uv ze91 dE dE kR rfl (fun b172 w22 hb172 t30 hr=>?_);exact K _ _ ⟨t30,⟨_,rfl,hb172⟩,fRq hr hb172.lt⟩
   | 9,_,hoq=>
    cases sI hoq;replace hCS:=And.intro (hCS.1.st t29 hCS.2 (by simp)) (nLT hCS.2 (Same.size t29));replace hsx:=hsx.tr t29 (by simp);replace hsy:=hsy.tr t29 (by simp);obtain⟨b172,e172,hb172⟩:=hd 8 (zj kR);refine zq 172 _ e172 nu ?_;replace hacc:=hacc.tr0 t29;refine yw fn70 (conc3_any (m:=(xQ (L a) (L b))) wx hb172 hacc rfl hsx hsy hme1 hmlen) rfl (fun e' w2 hr=>?_);obtain⟨⟨AC,cc,rfl,hoC⟩,t31⟩:=hr;exact⟨_,rfl,sB t31,⟨_,_,rfl,hoC.low hCS.2⟩,xk⟩
   | 10,_,hoq=>
    cases sI hoq;refine zq 167 _ (hd 3 (zj kR)) nu (zq 168 _ (hd 4 (zj kR)) nu ?_);exact oVq (yJ (i:=a) Pw uv rfl rfl hal rfl) rfl
   | _ + 11,hix,_=>exact absurd hix om
  intro gg w23 t32 hR hdis;replace hrw:=fun x hx=>(hrw x hx).tr t32 (by simp)
  replace hCS:=And.intro (hCS.1.st t32 hCS.2 (by simp)) (nLT hCS.2 (Same.size t32));replace hbz:=nLT hbz (Same.size t32);replace hzl:=nLT hzl (Same.size t32);obtain⟨AC,cc,e173,hoC⟩:=hR 9 dE;have hrn:=RowO.of (Nat.le_refl ob) hoC;obtain⟨s9,hs9⟩:∃ b,b=w23.heap.size:=⟨_,rfl⟩
  rw [← hs9] at hrn;have hz9:s9≤w23.heap.size:=Nat.le_of_eq hs9;replace hla:=hla.tr0 t32;obtain⟨g0,cur,hA0,_,hbA,hszA,hrdA,hclA⟩:=hla.open_ (show 0 < U.length by omega);cases hA0;replace hW:=hW.tr0 t32;have or_hW_ql:=o8 hW hbA dE;replace hacc:=hacc.tr0 t32;have or_hacc_ql:=o8 hacc hbA dE;refine qY 173 _ e173 nu (qY 174 _ (hR 10 dE) nu ?_);refine xZ (v:= .slice _ _ _) hbA rfl rfl uv om rfl rfl (fun w24 hq t33=>?_);replace hB:=hB.tr0 t32;replace hB:=hB.tr1 t33 (nLT hw0 (by assumption));replace hrw:=fun x hx=>(hrw x hx).tr t33 (fun g hg=>by rw [List.mem_singleton.1 hg];first | exact .inr ⟨_,_,hbA,by decide⟩ | exact .inl om)
  replace hCS:=And.intro (hCS.1.st t33 hCS.2 (fun g hg=>by have h1:=List.mem_singleton.1 hg;first | (left;rw [h1];simp;done) | (right;omega))) (nLT hCS.2 (Same.size t33));replace hbz:=nLT hbz (Same.size t33);replace hpa:=hpa.tr0 t32;replace hpa:=hpa.tr1 t33 (fun g hg=>by have:=(hpa.lt g hg).1;(try have:=or_hpa_ql g hg);omega);replace hta:=hta.tr0 t32;replace hta:=hta.tr1 t33 (fun g hg=>by have:=(hta.lt g hg).1;(try have:=or_hta_ql g hg);omega);replace hW:=hW.tr1 t33 (fun g hg=>by have:=(hW.lt g hg).1;(try have:=or_hW_ql g hg);omega);replace hzl:=nLT hzl (Same.size t33);replace hrn:=hrn.tr t33 (fun g hg=>by rw [List.mem_singleton.1 hg];exact .inr ⟨_,_,hbA,by decide⟩);replace hz9:=nLT hz9 (Same.size t33);replace hbA:=hq;have hla:Own w24 ob 91 1 (some ⟨ql,0,none⟩) U.length cl (vj U.length (Nx V a (.slice AC (xQ (L a) (L b)).length cc))):=by
    have h:=hclA _ _ _ hbA;rw [show 0 + a * 1=a by omega,KJ,u5 (g':=Nx V a (.slice AC (xQ (L a) (L b)).length cc)) (fun x _=>by by_cases e:x=a <;> simp [Nx,e])] at h;exact h
  replace hrw:∀ x,x < U.length→RowO w24 ob w24.heap.size (Nx V a (.slice AC (xQ (L a) (L b)).length cc) x) (if x=a then (xQ (L a) (L b)) else L x):=fun x hx=>by
    by_cases e:x=a
    · simp only [Nx,if_pos e];exact hrn.up hz9
    · simp only [Nx,if_neg e];exact(hrw x hx).up hbz
  refine zW (e_B (yq (roots U.length rep2 * (nf + 1) + W2.length) om agA ?_));replace hbp:=(hbp.tr0 t32).tr1 t33 om
  first
    | exact⟨W2,_,_,Yj Q2 b a,rep2,UF.rk rep ρ a b,(fun x=>if x=a then (mm:Int) else T x),_,(fun x=>if x=a then xQ (L a) (L b) else L x),rfl,by omega,rfl,hB,hbp,hpa,hta,hla,hrw,hW,hCS,hus2⟩
    | exact⟨W2,_,_,Q2,rep2,ρ,T,V,L,rfl,by omega,rfl,hB,hbp,hpa,hta,hla,fun x hx=>(hrw x hx).up hbz,hW,hCS,hus2⟩
 have hW0:W= []:=List.length_eq_zero_iff.1 om;subst hW0;refine vQ ?_;exact⟨⟨true,rfl,fun _=>⟨P,rep,ρ,T,V,L,⟨hbp,hpa,hta,hla,fun x hx=>(hrw x hx).up hbz,hdis⟩,hus⟩,fun h=>(by cases h)⟩,hCS.1,hCS.2⟩
end Go.Proofs.YtdgnllfbooklcaaDoor
