/- What these functions of the program compute, at every world: glosswright/glosswrightref3.Meet. -/
import Derived.Test.YtgcgnkmmbecfmaaGreatDoorU
import Derived.Test.YtgcgnkmmbecfmaaGreatDoorZst
import Derived.Test.YtgcgnkmmbecfmaaGreatDoorHLaw
import Derived.Test.YtgcgnkmmbecfmaaGreatDoorPFind
namespace Go.Proofs.YtgcgnkmmbecfmaaGreatDoor
open Go.RowKit
variable {a b j k m n:Nat}{l:List Ty}{xs:List Int}
def X5(l:List Ty)(a b k:Nat):List Int:=((List.range k).filter (jY l a b)).map (fun(n:Nat)=>(n:Int))
theorem TY(h:jY l a b k=true):X5 l a b (k+1)=X5 l a b k++[(k:Int)]:=by
 simp[X5,List.range_succ,List.filter_append,h]
theorem commK_no(h:¬jY l a b k=true):X5 l a b (k+1)=X5 l a b k:=by
 simp[X5,List.range_succ,List.filter_append,h]
theorem commK_le(l:List Ty)(a b k:Nat):(X5 l a b k).length<=k:=by
 have:=List.length_filter_le (jY l a b) (List.range k)
 simpa[X5]using this
theorem R4(hx:xs=X5 l a b k)(hj:j<xs.length):∃ n:Nat,xs[j]=(n:Int)/\n<k/\jY l a b n=true:=by
 have hm:xs[j]∈X5 l a b k:=by rw[<- hx];exact am hj
 simp only[X5,List.mem_map,List.mem_filter,List.mem_range]at hm;obtain⟨n,⟨h1,h2⟩,h3⟩:=hm;exact⟨n,h3.symm,h1,h2⟩
theorem R1(hx:xs=X5 l a b k)(hn:n<k)(hc:jY l a b n=true):∃ j,∃ hj:j<xs.length,xs[j]=(n:Int):=by
 have hm:(n:Int)∈xs:=by
  rw[hx];simp only[X5,List.mem_map,List.mem_filter,List.mem_range];exact⟨n,⟨hn,hc⟩,rfl⟩
 obtain⟨j,hj,h⟩:=aW hm;exact⟨j,hj,h⟩
def Ww(l:List Ty)(xs:List Int)(m j:Nat):Bool:=(xs.take j).all (fun x=>sub l x.toNat m)
theorem allB_succ(hj:j<xs.length)(h:xs[j]=(n:Int)):(Ww l xs m j&&sub l n m)=Ww l xs m (j+1):=by
 unfold Ww;rw[List.take_succ_eq_append_getElem hj,List.all_append,h];simp
theorem allB_yes(h:Ww l xs m xs.length=true)(hj:j<xs.length)(hn:xs[j]=(n:Int)):sub l n m=true:=by
 unfold Ww at h;rw[List.take_length,List.all_eq_true]at h;have:=h _ (am hj);rw[hn]at this;simpa using this
theorem allB_no(hx:xs=X5 l a b k)(h:Ww l xs m xs.length=false):∃ x,x<k/\jY l a b x=true/\sub l x m=false:=by
 unfold Ww at h;rw[List.take_length]at h;have h':¬xs.all (fun x=>sub l x.toNat m)=true:=by rw[h];simp
 rw[List.all_eq_true]at h';have h2:∃ x,x∈xs/\¬sub l x.toNat m=true:=aG (fun hc=>h' (fun x a1=>aG (fun hs=>hc ⟨x,a1,hs⟩)));obtain⟨x,a1,hs⟩:=h2;rw[hx]at a1;simp only[X5,List.mem_map,List.mem_filter,List.mem_range]at a1;obtain⟨n,⟨h3,h4⟩,rfl⟩:=a1;exact⟨n,h3,h4,by simpa using hs⟩
theorem MY:zK Tryz.prog 32=true:=by kernel_rfl
theorem OX:(Tryz.prog.info? 3).map (fun i=>(i.zero,i.size,i.bytes))=some (some (.int .i64 0),1,8):=by kernel_rfl
theorem O0:(Tryz.prog.info? 3).map (·.zero)=some (some (.int .i64 0)):=by kernel_rfl
set_option maxHeartbeats 1000000 in
theorem smeet_any(A:Option Addr)(c:Nat)(l:List Ty)(a b:Nat)(w:World)(hT:TypesIn w A l)(hv:VT l)(a5:l.length<=60)(ha:a<l.length)(hb:b<l.length):Calls Tryz.prog 66 #[.slice A l.length c,.int .i64 a,.int .i64 b] w fun e w'=>(∃ u,e= .returned (.tuple #[.int .i64 (meet l a b).1,.bool (meet l a b).2.1,.bool u]))/\Bel w w':=by
 refine enT Tryz.func66 Tryz.ntmps66 rfl rfl fun hB=>?_;refine zn21 ?_;refine qx (rg [9,10] 18 18) (fun m g w'=>∃(k:Nat) (A9:Option Addr) (a1:Nat) (xs:List Int),k<=l.length/\m=l.length-k/\g 18= .int .i64 k/\g 9= .slice A9 xs.length a1/\xs=X5 l a b k/\Bel w w'/\Own w' w.heap.size 3 1 A9 (xs).length a1 ((xs).map (Value.int .i64))) (l.length) ?_ (fun m g3 w1 hI=>?_)
 ·exact⟨0,none,0,[],ag _,rfl,rfl,rfl,rfl,hB,Own.nil _ _ _ _⟩
 obtain⟨k,A9,a1,xs,hk,hm,h18,h9,a2,hB,ho⟩:=hI;refine zX 18 _ h18 nu (zX 9 _ h9 nu (zn6 ?_));refine zQ rfl (fun c19=>?_) (fun c19=>?_)
 ·have hlt:k<l.length:=by omega
  refine jq ?_;refine y9 (rg [] 21 10) (fun g w'=>g 30= .bool (decide (jY l a b k=true))/\Bel w w'/\Own w' w.heap.size 3 1 A9 (xs).length a1 ((xs).map (Value.int .i64))) ?_ (fun g5 w2 hI=>?_)
  ·refine zn4 ?_;refine ba MY (IK _ _ _ _ _ _ (hT.mono hB) hv a5 hlt ha) rfl (fun w3 s1=>?_);refine wl (xz (v:= .bool _) rfl) ?_;replace ho:=ho.tr0 s1;refine XW 25 rfl (fun b5=>?_) (fun b5=>?_)
   ·refine zn7 ?_;refine ba MY (IK _ _ _ _ _ _ (hT.mono hB.u) hv a5 hlt hb) rfl (fun w4 s2=>?_);refine zn2 ?_;refine e_R ⟨agA,?_⟩;replace hB:=hB.tr0 (s1.t s2);replace ho:=ho.tr0 s2;exact⟨ae (by simp[jY,b5]),hB,ho⟩
   refine zn6 ?_;refine e_R ⟨agA,?_⟩;replace hB:=hB.tr0 s1;exact⟨ae (by simp[jY,b5]),hB,ho⟩
  obtain⟨h30,hB,ho⟩:=hI;refine jj 30 _ h30 nu (e_S ?_);refine zQ rfl (fun a9=>?_) (fun a9=>?_)
  ·have ac:=commK_le l a b k;rw[<- a2]at ac;refine zn3 ?_;refine qV (cs:=#[_]) [(0,.int _ _)] rfl U59 xX O0 dE dE kR rfl (fun b33 w5 b2 s3 hr=>?_);replace ho:=ho.tr0 s3;refine j7 U59 OX rfl dE ho b2 rfl rfl rfl qz dE oG oG (Bel.size hB.u) (fun g34 cap34 w6 a3 s4 hg=>?_);replace hB:=hB.u.tr s4 (fun g hg=>nLT (ah _) (ho.lt g hg).1);refine zn8 ?_;refine x8 (l.length-(k+1)) oG agA ?_
   first
     | exact⟨k+1,_,_,xs++[(k:Int)],by omega,rfl,rfl,D6 _ _ _ _,by rw[a2,TY a9],hB,E5 a3⟩
     | exact⟨k+1,_,_,xs,by omega,rfl,rfl,rfl,by rw[a2,commK_no a9],hB,ho⟩
  refine zn7 ?_;refine x8 (l.length-(k+1)) oG agA ?_
  first
    | exact⟨k+1,_,_,xs++[(k:Int)],by omega,rfl,rfl,D6 _ _ _ _,by rw[a2,TY a9],hB,E5 a3⟩
    | exact⟨k+1,_,_,xs,by omega,rfl,rfl,rfl,by rw[a2,commK_no a9],hB,ho⟩
 have hkl:k=l.length:=by omega
 rw[hkl]at a2;have ac:=commK_le l a b l.length;rw[<- a2]at ac;refine ZV ?_;refine qx (rg [6,7,8,12,13,15] 38 21) (fun m g w'=>∃ i:Nat,i<=xs.length/\m=xs.length-i/\g 38= .int .i64 i/\Bel w w'/\Own w' w.heap.size 3 1 A9 (xs).length a1 ((xs).map (Value.int .i64))/\(∀ j (hj:j<xs.length),j<i->∃ x,x<l.length/\jY l a b x=true/\sub l x (xs[j]).toNat=false)) (xs.length) ?_ (fun m g9 w7 hI=>?_)
 ·exact⟨0,ag _,rfl,rfl,hB,ho,fun j hj h=>by omega⟩
 obtain⟨i,hi,hm,h38,hB,ho,hP⟩:=hI;refine zX 38 _ h38 nu (zn6 ?_);refine zQ rfl (fun c39=>?_) (fun c39=>?_)
 ·have ao:i<xs.length:=by omega
  obtain⟨mn,hmn,hml,hmc⟩:=R4 a2 ao;obtain⟨pb,po,rfl,hpb,hpc⟩:=(CV ho).at_ ao;rw[hmn]at hpc;refine zn7 ?_;refine wl (qy (v:= .int _ _) U3 rfl rfl hpc) (PK ?_);refine qx (rg [13,15] 44 12) (fun m g w'=>∃ j:Nat,j<=xs.length/\m=xs.length-j/\g 44= .int .i64 j/\g 13= .bool (Ww l xs mn j)/\Bel w w'/\Own w' w.heap.size 3 1 (some ⟨pb,po,none⟩) (xs).length a1 ((xs).map (Value.int .i64))) (xs.length) ?_ (fun m g13 w8 hI=>?_)
  ·exact⟨0,ag _,rfl,rfl,rfl,hB,ho⟩
  obtain⟨j,hj,hm2,h44,b3,hB,ho⟩:=hI;refine zX 44 _ h44 nu (zX 13 _ b3 nu (zn6 ?_));refine zQ rfl (fun c45=>?_) (fun c45=>?_)
  ·have an:j<xs.length:=by omega
   obtain⟨xn,hxn,ab,hxc⟩:=R4 a2 an;obtain⟨qb,qo,he,hqb,hqc⟩:=(CV ho).at_ an;cases he;rw[hxn]at hqc;refine zn7 ?_;refine wl (qy (v:= .int _ _) U3 rfl rfl hqc) (zn3 ?_);refine y9 (rg [13] 48 7) (fun g w'=>g 13= .bool (Ww l xs mn j&&sub l xn mn)/\Bel w w'/\Own w' w.heap.size 3 1 (some ⟨pb,po,none⟩) (xs).length a1 ((xs).map (Value.int .i64))) ?_ (fun g15 w9 hI=>?_)
   ·refine zn3 ?_;refine XW 49 rfl (fun b4=>?_) (fun b4=>?_)
    ·refine zn7 ?_;refine ba MY (IK _ _ _ _ _ _ (hT.mono hB) hv a5 ab hml) rfl (fun w10 s5=>?_);refine zn3 ?_;refine e_R ⟨agA,?_⟩;replace hB:=hB.tr0 s5;replace ho:=ho.tr0 s5;exact⟨ae (by simp[b4]),hB,ho⟩
    refine zn7 ?_;refine e_R ⟨agA,?_⟩;exact⟨ae (by simp[b4]),hB,ho⟩
   obtain⟨b3,hB,ho⟩:=hI;refine jj 13 _ b3 nu (zn6 ?_);refine x8 (xs.length-(j+1)) oG agA ?_;exact⟨j+1,by omega,rfl,rfl,ae (allB_succ an hxn),hB,ho⟩
  have a4:j=xs.length:=by omega
  subst a4;refine yW ?_;refine jQ rfl (fun b6=>?_) (fun b6=>?_)
  ·have hmt:=meet_is hv a5 hml hmc (fun x hx hc=>by
     obtain⟨jx,a4,b1⟩:=R1 a2 hx hc
     exact allB_yes b6 a4 b1)
   refine ZV ?_;refine Sy (.inl rfl) rfl rfl rfl rfl ?_;exact⟨⟨true,by rw[hmt];rfl⟩,hB⟩
  refine zn7 ?_;refine x8 (xs.length-(i+1)) oG agA ?_;refine⟨i+1,by omega,rfl,rfl,hB,ho,fun j hj hji=>?_⟩;by_cases e:j=i
  · subst e
    obtain⟨x,h1,h2,h3⟩:=allB_no a2 b6;exact⟨x,h1,h2,by rw[hmn];exact h3⟩
  · exact hP j hj oG
 have ao:i=xs.length:=by omega
 refine Kz ?_;refine Sy (.inl rfl) rfl rfl rfl rfl ?_
 have hno:=FX hv a5 (fun m hm hc=>by
   obtain⟨jx,a4,b1⟩:=R1 a2 hm hc;obtain⟨x,h1,h2,h3⟩:=hP jx a4 oG;rw[b1]at h3
   exact⟨x,h1,h2,h3⟩)
 exact⟨⟨decide (0<(xs.length:Int)),by rw[hno.1,hno.2];rfl⟩,hB⟩
end Go.Proofs.YtgcgnkmmbecfmaaGreatDoor
