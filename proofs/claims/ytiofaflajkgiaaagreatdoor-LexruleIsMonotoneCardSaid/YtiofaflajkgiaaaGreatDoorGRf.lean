/- What these functions compute, at every world: ref3.runeLength, ref3.Word, ref1.Name, ref1.TermFault, ref3.MeaningFault, ref3.LexFault; and plain laws. -/
import Derived.Test.YtiofaflajkgiaaaGreatDoorU
import Derived.Test.YtiofaflajkgiaaaGreatDoorZst
import Derived.Test.YtiofaflajkgiaaaGreatDoorStk
import Derived.Test.YtiofaflajkgiaaaGreatDoorNTo
import Derived.Test.YtiofaflajkgiaaaGreatDoorDHo
import Derived.Test.YtiofaflajkgiaaaGreatDoorGEn
namespace Go.Proofs.YtiofaflajkgiaaaGreatDoor
open Go.RowKit Go.Proofs.Tryz
set_option maxHeartbeats 2000000
theorem rl_any(x:ByteArray)(hx:0<x.size)(w:World):Calls prog 62 #[.string x] w fun e w'=>e= .returned (.int .i64 (Ny x))/\w=w':=by
 have hb0:=uJ x 0;refine enter func62 ntmps62 rfl (ay rfl) (zn8 ?_);refine wl (kZ (i:=0) U9 rfl rfl hx) (zn23 ?_);refine zV rfl (fun c10=>?_) (fun c10=>?_)
 ·refine zn9 ?_;exact⟨congrArg (fun z=>Ending.returned (.int .i64 z)) (rlen_low oG).symm,rfl⟩
 have a7:128<=gb x 0:=by omega
 refine xy ?_;refine xk [13,14,15,16,17,18,19] 13 (.bool (decide (194<=gb x 0/\gb x 0<=223))) nu ?_ (fun gq=>?_)
 ·refine zn4 ?_;refine zw 16 rfl (fun g16=>?_) (fun g16=>?_)
  ·refine zn6 ?_;refine zQ (e_R ⟨rfl,agA,?_⟩);exact clA
  refine zn4 ?_;refine zQ (e_R ⟨rfl,agA,?_⟩);exact clA
 refine e_S ?_;refine y7 (rg [2,4,5,6] 20 23) (fun g w'=>∃(nn:Nat) (vz lz:Int),g 4= .int .i64 (nn:Int)/\g 6= .int .i64 vz/\g 5= .int .i64 lz/\Hd (gb x 0) nn vz lz/\w=w') ?_ (fun gx1 w1 hI=>?_)
 ·refine zV rfl (fun a5=>?_) (fun a5=>?_)
  ·refine zn2 ?_;refine wl (Dk U5 U3 rfl oG) (wl (jX rfl rfl rfl oG) (zn4 ?_));refine e_R ⟨agA,?_⟩
   first
     | exact⟨2,_,_,rfl,rfl,rfl,.inl ⟨a5.1,a5.2,rfl,rfl,rfl⟩,rfl⟩
     | exact⟨3,_,_,rfl,rfl,rfl,.inr (.inl ⟨a4.1,a4.2,rfl,rfl,rfl⟩),rfl⟩
     | exact⟨4,_,_,rfl,rfl,rfl,.inr (.inr ⟨a3.1,a3.2,rfl,rfl,rfl⟩),rfl⟩
  refine xy ?_;refine xk [23,24,25,26,27,28,29] 23 (.bool (decide (224<=gb x 0/\gb x 0<=239))) nu ?_ (fun gq=>?_)
  ·refine zn4 ?_;refine zw 26 rfl (fun g26=>?_) (fun g26=>?_)
   ·refine zn6 ?_;refine zQ (e_R ⟨rfl,agA,?_⟩);exact clA
   refine zn4 ?_;refine zQ (e_R ⟨rfl,agA,?_⟩);exact clA
  refine e_S ?_;refine zV rfl (fun a4=>?_) (fun a4=>?_)
  ·refine zn2 ?_;refine wl (Dk U5 U3 rfl oG) (wl (jX rfl rfl rfl oG) (zn4 ?_));refine e_R ⟨agA,?_⟩
   first
     | exact⟨2,_,_,rfl,rfl,rfl,.inl ⟨a5.1,a5.2,rfl,rfl,rfl⟩,rfl⟩
     | exact⟨3,_,_,rfl,rfl,rfl,.inr (.inl ⟨a4.1,a4.2,rfl,rfl,rfl⟩),rfl⟩
     | exact⟨4,_,_,rfl,rfl,rfl,.inr (.inr ⟨a3.1,a3.2,rfl,rfl,rfl⟩),rfl⟩
  refine xy ?_;refine xk [33,34,35,36,37,38,39] 33 (.bool (decide (240<=gb x 0/\gb x 0<=244))) nu ?_ (fun gq=>?_)
  ·refine zn4 ?_;refine zw 36 rfl (fun g36=>?_) (fun g36=>?_)
   ·refine zn6 ?_;refine zQ (e_R ⟨rfl,agA,?_⟩);exact clA
   refine zn4 ?_;refine zQ (e_R ⟨rfl,agA,?_⟩);exact clA
  refine e_S ?_;refine zV rfl (fun a3=>?_) (fun a3=>?_)
  ·refine zn2 ?_;refine wl (Dk U5 U3 rfl oG) (wl (jX rfl rfl rfl oG) (zn4 ?_));refine e_R ⟨agA,?_⟩
   first
     | exact⟨2,_,_,rfl,rfl,rfl,.inl ⟨a5.1,a5.2,rfl,rfl,rfl⟩,rfl⟩
     | exact⟨3,_,_,rfl,rfl,rfl,.inr (.inl ⟨a4.1,a4.2,rfl,rfl,rfl⟩),rfl⟩
     | exact⟨4,_,_,rfl,rfl,rfl,.inr (.inr ⟨a3.1,a3.2,rfl,rfl,rfl⟩),rfl⟩
  refine zn6 ?_;refine e_RSr (zn3 ?_);exact⟨congrArg (fun z=>Ending.returned (.int .i64 z)) (rlen_no a7 oG).symm,rfl⟩
 obtain⟨nn,vz,lz,h4,h6,h5,hd,rfl⟩:=hI;obtain⟨a6,a2⟩:=hd_rl hd;have hn:2<=nn/\nn<=4/\0<=vz/\vz<=31:=by
   rcases hd with ⟨q1,q2,q3,q4,q5⟩|⟨q1,q2,q3,q4,q5⟩|⟨q1,q2,q3,q4,q5⟩<;>omega
 clear hd;refine jK 4 _ h4 nu (jK 6 _ h6 nu (jK 5 _ h5 nu (kQ ?_)));refine zV rfl (fun c46=>?_) (fun c46=>?_)
 ·refine zn8 ?_;exact⟨congrArg (fun z=>Ending.returned (.int .i64 z)) (a2 (.inl oG)).symm,rfl⟩
 have hxs:nn<=x.size:=by omega
 refine zn9 ?_;refine qj (rg [2,6,7] 47 23) (fun m g w'=>∃ k:Nat,k+1<=nn/\m=nn-(k+1)/\g 7= .int .i64 ((k+1:Nat):Int)/\g 6= .int .i64 (vv x vz k)/\(∀ j,1<=j->j<k+1->128<=gb x j/\gb x j<=191)/\0<=vv x vz k/\((k=0/\vv x vz k<=31)\/(k=1/\vv x vz k<=2047)\/(k=2/\vv x vz k<=131071)\/(k=3/\vv x vz k<=8388607))/\w=w') (nn-1) ?_ (fun m g16 w2 hI=>?_)
 ·exact⟨0,by omega,rfl,rfl,rfl,fun j h1 h2=>by omega,hn.2.2.1,.inl ⟨rfl,hn.2.2.2⟩,rfl⟩
 obtain⟨k,hk,hm,h7,h6b,a1,hv0,hvb,rfl⟩:=hI;refine zK 7 _ h7 nu (zK 6 _ h6b nu (zn8 ?_));refine zV rfl (fun c49=>?_) (fun c49=>?_)
 ·have hk2:k+1<nn:=by omega
  refine zn6 ?_;refine xk (rg [] 52 10) 61 (.bool (decide ((¬(128<=gb x (k+1)/\gb x (k+1)<=191))))) nu ?_ (fun gq=>?_)
  ·refine zn3 ?_;refine wl (kZ (i:=(k+1)) U9 rfl rfl oG) (zn2 ?_);refine zw 56 rfl (fun g56=>?_) (fun g56=>?_)
   ·refine zn5 ?_;refine zQ (e_R ⟨rfl,agA,?_⟩);exact clA
   refine zn5 ?_;refine wl (kZ (i:=(k+1)) U9 rfl rfl oG) (zn3 ?_);refine zQ (e_R ⟨rfl,agA,?_⟩);exact clA
  refine e_S ?_;refine zV rfl (fun a9=>?_) (fun a9=>?_)
  ·refine oJ ?_;exact⟨congrArg (fun z=>Ending.returned (.int .i64 z)) (a2 (.inr (.inl ⟨k+1,by omega,hk2,a9⟩))).symm,rfl⟩
  have hbt:128<=gb x (k+1)/\gb x (k+1)<=191:=ak.1 a9;refine zn4 ?_;refine wl (r_mul rfl rfl rfl (by clear a1 a6 a2;omega)) (zn2 ?_);refine wl (kZ (i:=(k+1)) U9 rfl rfl oG) (wl (Dk U5 U3 rfl oG) (wl (QZ rfl rfl rfl (by clear a1 a6 a2;omega)) (wl (jX rfl rfl rfl (by clear a1 a6 a2;omega)) (zn9 ?_))));refine xK (nn-(k+2)) oG agA ?_;refine⟨k+1,by omega,rfl,rfl,rfl,fun j h1 h2=>?_,?_,?_,rfl⟩
  · by_cases e:j=k+1
    · rw[e];exact hbt
    · exact a1 j h1 oG
  · simp only[vv];omega
  · simp only[vv];clear a1 a6 a2;omega
 have hkn:nn=k+1:=by omega
 subst hkn;simp only[Nat.add_sub_cancel]at a6 a2;refine zn7 ?_
 try clear h6
 refine xk (rg [] 70 15) 84 (.bool (decide (vv x vz k<lz\/1114111<vv x vz k\/(55296<=vv x vz k/\vv x vz k<=57343)))) nu ?_ (fun gq=>?_)
 ·refine zn5 ?_;refine zw 73 rfl (fun g73=>?_) (fun g73=>?_)
  ·refine kQ ?_;refine zQ (e_R ⟨rfl,agA,?_⟩);exact clA
  refine zn6 ?_;refine zw 77 rfl (fun g77=>?_) (fun g77=>?_)
  ·refine zn7 ?_;refine zQ (e_R ⟨rfl,agA,?_⟩);exact clA
  refine zn6 ?_;refine zw 80 rfl (fun g80=>?_) (fun g80=>?_)
  ·refine zn7 ?_;refine zQ (e_R ⟨rfl,agA,?_⟩);exact clA
  refine zn5 ?_;refine zQ (e_R ⟨rfl,agA,?_⟩);exact clA
 refine e_S ?_;refine zV rfl (fun a8=>?_) (fun a8=>?_)
 ·refine zn8 ?_;exact⟨congrArg (fun z=>Ending.returned (.int .i64 z)) (a2 (.inr (.inr ⟨a8,a1⟩))).symm,rfl⟩
 refine vy ?_;exact⟨congrArg (fun z=>Ending.returned (.int .i64 z)) (a6 hxs a1 a8).symm,rfl⟩
theorem wordr_any(s:ByteArray)(w:World)(hsz:s.size<9223372036854775807):Calls prog 35 #[.string s] w fun e w'=>e= .returned (.bool (yX s))/\Bel w w':=by
 refine enT func35 ntmps35 rfl rfl fun hB=>?_;refine Jj ?_;refine wl_rg U9 rfl (fun b9 w1 a2 s1 hr=>?_);have lo9:=nLT (Bel.size hB) hr;refine zn3 ?_;refine qj (rg [2,3,5] 10 39) (fun m g w'=>∃ p n:Nat,p<=s.size/\m=s.size-p/\n<=p/\g 3= .int .i64 n/\n+(ch s p).length=(ch s 0).length/\brd s 0=brd s p/\Bel w w'/\ItIn w' b9 s p) (s.size) ?_ (fun m g3 w2 hI=>?_)
 ·exact⟨0,0,ag _,rfl,ae _,rfl,Nat.zero_add _,rfl,hB.u,a2⟩
 obtain⟨p,n,hp,hm,hnp,h3,hc,a5,hB,a2⟩:=hI;refine zK 3 _ h3 nu (zn2 ?_);rcases Nat.lt_or_ge (p) (s).size with hnlt|hnge
 ·refine wl_nx a2 rfl hnlt (fun w3 hq s2=>?_);replace a2:=hq;have hwp:=QW hnlt;have hwl:=SK hnlt;rw[Ik hnlt,List.length_cons]at hc;refine wl (y8 (v:= .bool true) rfl rfl) (zn9 ?_);refine wl (y8 (v:= .int _ _) rfl rfl) (kQ ?_);replace hB:=hB.tr1 s2 lo9;refine xk (rg [] 15 34) 48 (.bool (decide ((Utf8.decode s p).1=32\/(Utf8.decode s p).1=9\/(Utf8.decode s p).1=10\/(Utf8.decode s p).1=40\/(Utf8.decode s p).1=41\/(Utf8.decode s p).1=91\/(Utf8.decode s p).1=93\/(Utf8.decode s p).1=44\/(Utf8.decode s p).1=59))) nu ?_ (fun gq=>?_)
  ·refine zn4 ?_;refine zw 17 rfl (fun g17=>?_) (fun g17=>?_)
   ·refine zn30 ?_;refine zn1 ?_;refine zQ (e_R ⟨rfl,agA,?_⟩);exact clA
   refine zn6 ?_;refine zw 21 rfl (fun g21=>?_) (fun g21=>?_)
   ·refine zn27 ?_;refine zQ (e_R ⟨rfl,agA,?_⟩);exact clA
   refine zn6 ?_;refine zw 25 rfl (fun g25=>?_) (fun g25=>?_)
   ·refine zn23 ?_;refine zQ (e_R ⟨rfl,agA,?_⟩);exact clA
   refine zn6 ?_;refine zw 29 rfl (fun g29=>?_) (fun g29=>?_)
   ·refine zn19 ?_;refine zQ (e_R ⟨rfl,agA,?_⟩);exact clA
   refine zn6 ?_;refine zw 33 rfl (fun g33=>?_) (fun g33=>?_)
   ·refine My ?_;refine zQ (e_R ⟨rfl,agA,?_⟩);exact clA
   refine zn6 ?_;refine zw 37 rfl (fun g37=>?_) (fun g37=>?_)
   ·refine kQ ?_;refine zQ (e_R ⟨rfl,agA,?_⟩);exact clA
   refine zn6 ?_;refine zw 41 rfl (fun g41=>?_) (fun g41=>?_)
   ·refine zn7 ?_;refine zQ (e_R ⟨rfl,agA,?_⟩);exact clA
   refine zn6 ?_;refine zw 45 rfl (fun g45=>?_) (fun g45=>?_)
   ·refine zn3 ?_;refine zQ (e_R ⟨rfl,agA,?_⟩);exact clA
   refine zn5 ?_;refine zQ (e_R ⟨rfl,agA,?_⟩);exact clA
  refine e_S ?_;refine zV rfl (fun a7=>?_) (fun a7=>?_)
  ·refine kQ ?_;exact⟨congrArg (fun b=>Ending.returned (.bool b)) (by unfold yX;rw[a5,V9 hnlt,(spc_iff _).2 a7];simp),hB⟩
  have hsn:spc (Utf8.decode s p).1=false:=by
    cases h:spc (Utf8.decode s p).1 with
    | false=>rfl
    | true=>exact absurd ((spc_iff _).1 h) a7
  refine J7 (e_B (xK (s.size-(p+wdt s p)) oG agA ?_));exact⟨p+wdt s p,n+1,hwl,rfl,by omega,rfl,by omega,by rw[a5,V9 hnlt,hsn,Bool.false_or],hB,a2⟩
 refine wl (r_ne a2 rfl (Nat.not_lt.2 hnge)) ?_;rw[R9 (Nat.not_lt.2 hnge),List.length_nil,Nat.add_zero]at hc;rw[Pw (Nat.not_lt.2 hnge)]at a5;refine wl (y8 (v:= .bool false) rfl rfl) (kQ ?_);refine xk [49,50,51,52,53,54] 54 (.bool (decide (n<1\/30<n))) nu ?_ (fun gq=>?_)
 ·refine zn4 ?_;refine zw 51 rfl (fun g51=>?_) (fun g51=>?_)
  ·refine zn3 ?_;refine zQ (e_R ⟨rfl,agA,?_⟩);exact clA
  refine zn5 ?_;refine zQ (e_R ⟨rfl,agA,?_⟩);exact clA
 refine e_S ?_;refine zV rfl (fun c54=>?_) (fun c54=>?_)
 ·refine zn8 ?_;exact⟨congrArg (fun b=>Ending.returned (.bool b)) (by unfold yX;rcases c54 with h|h<;>first|(rw[decide_eq_false (show ¬1<=(ch s 0).length by omega)];rfl)|(rw[decide_eq_false (show ¬(ch s 0).length<=30 by omega)];simp)),hB⟩
 refine zn9 ?_;refine qj (rg [2,6,7] 55 13) (fun m g w'=>∃ q:Nat,q<=s.size/\s.size-q<=m/\g 6= .int .i64 q/\vq s 0=vq s q/\Bel w w') (s.size) ?_ (fun m g11 w4 hI=>?_)
 ·exact⟨0,ag _,ae _,rfl,rfl,hB⟩
 obtain⟨q,hq,hm2,h6,hv,hB⟩:=hI;obtain⟨mo,rfl⟩:∃ x,x=m:=⟨_,rfl⟩
 refine zK 6 _ h6 nu (zn9 ?_);refine zV rfl (fun c58=>?_) (fun c58=>?_)
 ·have a3:q<s.size:=by omega
  have hwp2:=QW a3;have a6:=SK a3;refine zn7 ?_;refine wl (Y3 (l:=q) U9 rfl rfl oG) ?_;refine zW kR (rl_any (sdr q s) (by rw[yq];omega) _) rfl (fun e' w5 hr=>?_);obtain⟨rfl,rfl⟩:=hr;have a1:=rlen_sdr q s;refine⟨_,rfl,?_⟩;refine vy ?_;refine zV rfl (fun c64=>?_) (fun c64=>?_)
  ·have a4:Xw s q=false:=by
     cases h:Xw s q with
     | false=>rfl
     | true=>rw[h,if_pos rfl]at a1;omega
   refine jz ?_;exact⟨congrArg (fun b=>Ending.returned (.bool b)) (by unfold yX;rw[hv,RJ a3 a4];simp),hB⟩
  have a4:Xw s q=true:=by
    cases h:Xw s q with
    | true=>rfl
    | false=>rw[h,if_neg dE]at a1;exact absurd a1 c64
  have hrl:Ny (sdr q s)=((wdt s q:Nat):Int):=by rw[a1,a4,if_pos rfl]
  refine zn5 ?_;refine wl (QZ rfl rfl rfl (by rw[hrl];omega)) (zn3 ?_);refine xK (mo-1) oG agA ?_;exact⟨q+wdt s q,a6,by omega,by rw[hrl];rfl,by rw[hv,RK a3 a4],hB⟩
 rw[vq_end (p:=q) oG]at hv;refine jz ?_;exact⟨congrArg (fun b=>Ending.returned (.bool b)) (by unfold yX;rw[hv,a5,decide_eq_true (show 1<=(ch s 0).length by omega),decide_eq_true (show (ch s 0).length<=30 by omega)];rfl),hB⟩
section
theorem inB_le(t:Tm)(b:Nat):inB t b<=b+1:=by unfold inB;split<;>omega
def argN(k:Nat):Int:=if k=3 then 1 else if k=4 then 2 else 0
theorem arg_at{k:Nat}(h:k<5):(#[.int .i64 0,.int .i64 0,.int .i64 0,.int .i64 1,.int .i64 2]:Array Value)[0+k*1]? =some (.int .i64 (argN k)):=by
 match k,h with
 | 0,_=>rfl
 | 1,_=>rfl
 | 2,_=>rfl
 | 3,_=>rfl
 | 4,_=>rfl
def zOk(k:Nat)(t:Tm):Prop:=((t.args.length:Nat):Int)=argN k/\(k=1\/t.name=⟨#[]⟩)/\(k=2\/t.index=0)/\(k=1\/k=3\/IZ t.type)
instance(k:Nat)(t:Tm):Decidable (zOk k t):=by unfold zOk;infer_instance
def ndX(n d b:Nat)(t:Tm):Int:=if 200<n+1\/40<d then 1 else ndC b t
theorem ndX_bad{n d b:Nat}{t:Tm}{r:List (Tm×Nat×Nat)}(h:ndX n d b t≠0):tst ((t,d,b)::r) n=(n+1,(ndX n d b t,(n:Int))):=by
 unfold ndX at h ⊢;by_cases e:200<n+1\/40<d
 ·rw[if_pos e];exact tst_out e
 ·rw[if_neg e]at h ⊢;exact tst_bad e h
theorem ndX_go{n d b:Nat}{t:Tm}{r:List (Tm×Nat×Nat)}(h:ndX n d b t=0):tst ((t,d,b)::r) n=tst (t.args.map (fun y=>(y,d+1,inB t b))++r) (n+1)/\(d<=40/\n+1<=200)/\ndC b t=0:=by
 unfold ndX at h;by_cases e:200<n+1\/40<d
 ·rw[if_pos e]at h;cases h
 ·rw[if_neg e]at h;exact⟨tst_go e h,⟨by omega,by omega⟩,h⟩
theorem ndC_len{b:Nat}{t:Tm}(h:ndC b t=0):t.args.length<=2:=by
 unfold ndC at h
 repeat' split at h
 all_goals first|omega|(exfalso;revert h;decide)
section x
variable {n d b k:Nat} {t:Tm} (hb:¬(200<n+1\/40<d)) (hk:t.kind=(k:Int)) (h1:1<=k) (h4:k<=4)
include hb
theorem ndX_4(h:t.kind<1\/4<t.kind):ndX n d b t=4:=by
 unfold ndX ndC;rw[if_neg hb,if_neg oG,if_neg oG,if_neg oG,if_neg oG]
include hk h1 h4
theorem ndX_5(h:¬zOk k t):ndX n d b t=5:=by
 unfold ndX ndC;rw[if_neg hb];unfold zOk argN at h
 match k,hk,h1,h4 with
 | 1,hk,_,_=>
  have hk:t.kind=1:=hk;rw[if_pos hk,if_neg (fun e=>h ⟨by simp[e.2],.inl rfl,.inr e.1,.inl rfl⟩)]
 | 2,hk,_,_=>
  have hk:t.kind=2:=hk;rw[if_neg (show ¬t.kind=1 by rw[hk];decide),if_pos hk,if_neg (fun e=>h ⟨by simp[e.2.2],.inr e.1,.inl rfl,.inr (.inr e.2.1)⟩)]
 | 3,hk,_,_=>
  have hk:t.kind=3:=hk;rw[if_neg (show ¬t.kind=1 by rw[hk];decide),if_neg (show ¬t.kind=2 by rw[hk];decide),if_pos hk,if_neg (fun e=>h ⟨by simp[e.2.2],.inr e.1,.inr e.2.1,.inr (.inl rfl)⟩)]
 | 4,hk,_,_=>
  have hk:t.kind=4:=hk;rw[if_neg (show ¬t.kind=1 by rw[hk];decide),if_neg (show ¬t.kind=2 by rw[hk];decide),if_neg (show ¬t.kind=3 by rw[hk];decide),if_pos hk,if_neg (fun e=>h ⟨by simp[e.2.2.2],.inr e.1,.inr e.2.1,.inr (.inr e.2.2.1)⟩)]
theorem ndX_z(h:zOk k t):ndX n d b t=if k=1 then (if vK t.name=true then (if smF t.type=0 then 0 else 12)else 10)else if k=2 then (if t.index<0\/(b:Int)<=t.index then 15 else 0)else if k=3 then (if smF t.type=0 then 0 else 12)else 0:=by
 unfold ndX ndC;rw[if_neg hb];unfold zOk argN at h;obtain⟨a1,a2,a3,a4⟩:=h
 match k,hk,h1,h4 with
 | 1,hk,_,_=>
  have hk:t.kind=1:=hk;have q1:=a3.resolve_left dE;have q2:t.args.length=0:=by simpa using a1
  rw[if_pos hk,if_pos ⟨q1,q2⟩];rfl
 | 2,hk,_,_=>
  have hk:t.kind=2:=hk;have q1:=a2.resolve_left dE;have q2:t.args.length=0:=by simpa using a1
  have q3:=(a4.resolve_left dE).resolve_left dE;rw[if_neg (show ¬t.kind=1 by rw[hk];decide),if_pos hk,if_pos ⟨q1,q3,q2⟩];rfl
 | 3,hk,_,_=>
  have hk:t.kind=3:=hk;have q1:=a2.resolve_left dE;have q0:=a3.resolve_left dE;have q2:t.args.length=1:=by simp at a1;omega
  rw[if_neg (show ¬t.kind=1 by rw[hk];decide),if_neg (show ¬t.kind=2 by rw[hk];decide),if_pos hk,if_pos ⟨q1,q0,q2⟩];rfl
 | 4,hk,_,_=>
  have hk:t.kind=4:=hk;have q1:=a2.resolve_left dE;have q0:=a3.resolve_left dE;have q2:t.args.length=2:=by simp at a1;omega
  have q3:=(a4.resolve_left dE).resolve_left dE;rw[if_neg (show ¬t.kind=1 by rw[hk];decide),if_neg (show ¬t.kind=2 by rw[hk];decide),if_neg (show ¬t.kind=3 by rw[hk];decide),if_pos hk,if_pos ⟨q1,q0,q3,q2⟩];rfl
end x
theorem name1_any(s:ByteArray)(w:World):Calls Tryz.prog 72 #[.string s] w fun e w'=>e= .returned (.bool (vK s))/\w=w':=by
 obtain⟨c0,e0⟩:=hd_num s;have hN:=Lib.hid (S6 s c0 e0);refine enter Tryz.func72 Tryz.ntmps72 rfl (ay rfl) (zn7 ?_);refine xk (rg [] 6 8) 13 (.bool (decide (s.size<1\/30<s.size))) nu ?_ (fun gq=>?_)
 ·refine zn5 ?_;refine zw 9 rfl (fun g9=>?_) (fun g9=>?_)
  ·refine zn4 ?_;refine zQ (e_R ⟨rfl,agA,?_⟩);exact clA
  refine zn7 ?_;refine zQ (e_R ⟨rfl,agA,?_⟩);exact clA
 refine e_S ?_;refine zV rfl (fun c13=>?_) (fun c13=>?_)
 ·refine zn8 ?_;exact⟨Zy (by rw[hN.out];exact ao (fun h=>by omega)),rfl⟩
 refine zn9 ?_;refine qj (rg [2,3,4,5] 14 48) (fun m g w'=>∃ k:Nat,k<=s.size/\m=s.size-k/\g 3= .int .i64 k/\w=w'/\(0<k->97<=c0/\c0<=122)/\(∀ j (hj:j<s.size),j<k->Xy (s[j]'hj)=true)) (s.size) ?_ (fun m g4 w1 hI=>?_)
 ·exact⟨0,ag _,rfl,rfl,rfl,fun h=>by omega,fun j hj h=>by omega⟩
 obtain⟨k,hk,hm,h3,rfl,hz,a2⟩:=hI;refine zK 3 _ h3 nu (zn9 ?_);refine zV rfl (fun c17=>?_) (fun c17=>?_)
 ·refine zn5 ?_;refine xk (rg [4] 20 10) 4 (.bool (decide (97<=(s[k]'oG).toNat/\(s[k]'oG).toNat<=122))) nu ?_ (fun gq=>?_)
  ·refine zn3 ?_;refine wl (Jz (i:=k) U9 rfl rfl oG) (zn2 ?_);refine zw 24 rfl (fun g24=>?_) (fun g24=>?_)
   ·refine zn5 ?_;refine wl (Jz (i:=k) U9 rfl rfl oG) (zn4 ?_);refine zQ (e_R ⟨rfl,agA,?_⟩);exact clA
   refine zn6 ?_;refine zQ (e_R ⟨rfl,agA,?_⟩);exact clA
  refine e_S (xy ?_);refine xk (rg [5] 30 22) 5 (.bool (decide ((48<=(s[k]'oG).toNat/\(s[k]'oG).toNat<=57)\/(s[k]'oG).toNat=95\/(s[k]'oG).toNat=45))) nu ?_ (fun gq=>?_)
  ·refine zn3 ?_;refine wl (Jz (i:=k) U9 rfl rfl oG) (zn2 ?_);refine zw 34 rfl (fun g34=>?_) (fun g34=>?_)
   ·refine zn5 ?_;refine wl (Jz (i:=k) U9 rfl rfl oG) (zn4 ?_);refine zw 40 rfl (fun g40=>?_) (fun g40=>?_)
    ·refine jz ?_;refine zQ (e_R ⟨rfl,agA,?_⟩);exact clA
    refine zn5 ?_;refine wl (Jz (i:=k) U9 rfl rfl oG) (zn4 ?_);refine zw 46 rfl (fun a3=>?_) (fun a3=>?_)
    ·refine zn6 ?_;refine zQ (e_R ⟨rfl,agA,?_⟩);exact clA
    refine zn5 ?_;refine wl (Jz (i:=k) U9 rfl rfl oG) (zn4 ?_);refine zQ (e_R ⟨rfl,agA,?_⟩);exact clA
   refine kQ ?_;refine wl (Jz (i:=k) U9 rfl rfl oG) (zn4 ?_);refine zw 46 rfl (fun a3=>?_) (fun a3=>?_)
   ·refine zn6 ?_;refine zQ (e_R ⟨rfl,agA,?_⟩);exact clA
   refine zn5 ?_;refine wl (Jz (i:=k) U9 rfl rfl oG) (zn4 ?_);refine zQ (e_R ⟨rfl,agA,?_⟩);exact clA
  refine e_S (xy ?_);refine xk (rg [] 52 10) 61 (.bool (decide (¬(97<=(s[k]'oG).toNat/\(s[k]'oG).toNat<=122)/\(¬((48<=(s[k]'oG).toNat/\(s[k]'oG).toNat<=57)\/(s[k]'oG).toNat=95\/(s[k]'oG).toNat=45)\/k=0)))) nu ?_ (fun gq=>?_)
  ·refine zn4 ?_;refine zw 54 rfl (fun g54=>?_) (fun g54=>?_)
   ·refine zn6 ?_;refine zw 57 rfl (fun g57=>?_) (fun g57=>?_)
    ·refine zn5 ?_;refine zQ (e_R ⟨rfl,agA,?_⟩);exact clA
    refine zn7 ?_;refine zQ (e_R ⟨rfl,agA,?_⟩);exact clA
   refine zn7 ?_;refine zQ (e_R ⟨rfl,agA,?_⟩);exact clA
  refine e_S ?_;refine zV rfl (fun c61=>?_) (fun c61=>?_)
  ·have hno:¬((97<=c0/\c0<=122)/\∀ j (hj:j<s.size),Xy (s[j]'hj)=true):=fun h=>by
     have h1:=(J0 _).1 (h.2 k oG);have h2:k=0:=by omega
     subst h2;have:=e0 oG;omega
   refine jz ?_;exact⟨Zy (by rw[hN.out];exact ao (fun h=>hno h.2)),rfl⟩
  have hz':97<=c0/\c0<=122:=by
    by_cases e:k=0
    · subst e;have:=e0 oG;omega
    · exact hz oG
  have a1:∀ j (hj:j<s.size),j<k+1->Xy (s[j]'hj)=true:=fun j hj h=>by
    by_cases e:j=k
    · subst e;exact(J0 _).2 oG
    · exact a2 j hj oG
  refine zn8 ?_;refine xK (s.size-(k+1)) oG agA ?_;exact⟨k+1,by omega,rfl,rfl,rfl,fun _=>hz',fun j hj h=>a1 j hj h⟩
 refine jz ?_;exact⟨Zy (by rw[hN.out];exact ah ⟨by omega,hz oG,fun j hj=>a2 j hj oG⟩),rfl⟩
end
theorem in135:(prog.info? 135).map (fun i=>(i.zero,i.size,i.bytes))=some (some (.agg #[.int .i64 0,.string ⟨#[]⟩,.int .i64 0,.string ⟨#[]⟩,.slice none 0 0,.slice none 0 0,.int .i64 0,.int .i64 0]),8,112):=by kernel_rfl
theorem Bw:(prog.info? 135).map (·.size)=some 8:=by kernel_rfl
theorem ze135:(prog.info? 135).map (·.zero)=some (some (.agg #[.int .i64 0,.string ⟨#[]⟩,.int .i64 0,.string ⟨#[]⟩,.slice none 0 0,.slice none 0 0,.int .i64 0,.int .i64 0])):=by kernel_rfl
theorem ze34:(prog.info? 34).map (·.zero)=some (some (.agg #[.int .i64 0,.string ⟨#[]⟩,.int .i64 0,.string ⟨#[]⟩,.slice none 0 0,.slice none 0 0])):=by kernel_rfl
set_option maxRecDepth 100000 in
set_option maxHeartbeats 8000000 in
theorem Lz(A B:Option Addr)(c mB:Nat)(t:Tm)(w:World)(hS:SimsIn w A t.type.args)(hT:TmsIn w B t.args):Calls prog 48 #[.agg #[.int .i64 (t).kind,.string (t).name,.int .i64 (t).index,.string (t).type.base,.slice A (t).type.args.length c,.slice B (t).args.length mB]] w fun e w'=>e= .returned (flV (tmF t))/\Bel w w':=by
 have hR0:twk t 1 0 0=tst [(t,1,0)] 0:=(tst_one t 1 0 0).symm;refine enT func48 ntmps48 rfl rfl fun hB=>?_;refine zn2 ?_;refine qY (v:= .agg #[_,_,_,_,_,_]) (cs:=#[_,_,_,_,_,_]) rfl rfl (fun b1 w1 a3 s1 hr=>?_);refine qk (cs:=#[.int .i64 0,.int .i64 0]) qK rfl (fun b2 w2 a1 s2 hr=>?_);have ce:=nLT (Bel.size hB.u) hr;refine zn5 ?_;refine wl (IV (v0:= .agg _) (v1:= .int _ _) (v2:= .int _ _) (fun v0 v1 v2=>#[(qz v0 0),(qz v0 1),(qz v0 2),(qz v0 3),(qz v0 4),(qz v0 5),v1,v2]) rfl rfl rfl kR) ?_;refine qv (cs:=#[_,_,_,_,_,_,_,_]) [(0,.agg _)] rfl U136 Bw ze135 dE dE kR rfl (fun b16 w3 cq s3 hr=>?_);have cf:=nLT (Bel.size hB.u) hr;refine vy ?_;refine qj (rg (rg [] 3 9) 17 151) (fun mm g w'=>∃(st:List (Tm×Nat×Nat)) (vs:List Value) (q b7 n:Nat),mm=201-n/\n<=200/\st.length<=2*n+1/\g 3= .slice (some ⟨q,0,none⟩) st.length b7/\g 4= .int .i64 n/\Bel w w'/\Blk w' b1 34 #[.int .i64 (t).kind,.string (t).name,.int .i64 (t).index,.string (t).type.base,.slice A (t).type.args.length c,.slice B (t).args.length mB]/\Blk w' b2 45 #[.int .i64 0,.int .i64 0]/\Own w' w.heap.size 135 8 (some ⟨q,0,none⟩) st.length b7 vs/\StkT w st vs/\twk t 1 0 0=tst st.reverse n/\∀ x∈st,x.2.2<x.2.1) (201) ?_ (fun m g3 w4 hI=>?_)
 ·replace hB:=hB.tr0 (s1.t (s2.t s3));replace a3:=a3.tr0 (s2.t s3);replace a1:=a1.tr0 s3;exact⟨[(t,1,0)],_,_,_,0,rfl,by omega,by simp,rfl,rfl,hB,a3,a1,I9 (m:=1) cq cf rfl dE,.snoc .nil hS hT,hR0,fun x hx=>by rw[List.mem_singleton.1 hx];exact Nat.zero_lt_one⟩
 obtain⟨st,vs,q,b7,n,hm,hn,hsl,h3,h4,hB,a3,a1,ho,cg,hR,c6⟩:=hI;have b3:=X4 ho a3 dE;have an:=X4 ho a1 dE;refine zK 3 _ h3 nu (zK 4 _ h4 nu (zn8 ?_));refine zV rfl (fun c19=>?_) (fun c19=>?_)
 ·obtain⟨a9,c3,t1,d1,e1,A1,B1,c1,m1,rfl,rfl,bf,hs1,ht1⟩:=cg.pop oG;have bk:(a9++[(t1,d1,e1)]).length=a9.length+1:=by simp
  rw[Ky]at hR;have hbd1:e1<d1:=c6 (t1,d1,e1) (List.mem_append_right _ (aj.2 rfl));replace c6:∀ x∈a9,x.2.2<x.2.1:=fun x hx=>c6 x (List.mem_append_left _ hx)
  refine zn9 ?_;refine wl (jX (c:=(a9.length:Int)) rfl rfl (by rw[bk];omega) oG) (wl (xX (i:=a9.length) U136 Bw rfl rfl (by rw[bk];omega) rfl) (wl (qZ U135 rfl rfl (own_top ho bf.len) Bw) ?_));refine yj (cs:=#[.int .i64 0,.string ⟨#[]⟩,.int .i64 0,.string ⟨#[]⟩,.slice none 0 0,.slice none 0 0,.int .i64 0,.int .i64 0]) ze135 rfl (fun _=>rfl) (fun _=>rfl) Bw rfl zJ (fun b5 w6 a4 s4 hr=>?_);have a5:=(fun g hg=>nLL (ho.lt g hg).2 hr)
  refine zn7 ?_;refine wl (jX (c:=(a9.length:Int)) rfl rfl (by rw[bk];omega) oG) ?_;replace ho:=ho.tr0 s4;refine wl (Dq (h:=a9.length) U136 Bw rfl rfl (by have:=ho.cap_le;omega)) (zn4 ?_);replace hB:=hB.tr0 s4;replace a3:=a3.tr0 s4;replace a1:=a1.tr0 s4;replace ho:Own w6 w.heap.size 135 8 (some ⟨q,0,none⟩) a9.length b7 c3:=by
    have h:=ho.take (k':=a9.length) oG oG
    rwa[List.take_append_of_le_length (by rw[bf.len];exact ae _),List.take_of_length_le (by rw[bf.len];exact ae _)]at h
  refine zn2 ?_;refine wl (qZ U34 rfl rfl (a4.sub (n:=6) (xs:=[_,_,_,_,_,_]) rfl) Zj) ?_;refine yj (cs:=#[.int .i64 0,.string ⟨#[]⟩,.int .i64 0,.string ⟨#[]⟩,.slice none 0 0,.slice none 0 0]) ze34 rfl (fun _=>rfl) (fun _=>rfl) Zj rfl zJ (fun b6 w8 a2 s5 hr=>?_);have ad:=(fun g hg=>nLL (ho.lt g hg).2 hr)
  refine zn9 ?_;replace hB:=hB.tr0 s5;replace a3:=a3.tr0 s5;replace a1:=a1.tr0 s5;replace ho:=ho.tr0 s5;replace a4:=a4.tr0 s5;refine xk [35,36,37,38,39,40,41] 41 (.bool (decide (200<n+1\/40<d1))) nu ?_ (fun gq=>?_)
  ·refine zn4 ?_;refine zw 37 rfl (fun g37=>?_) (fun g37=>?_)
   ·refine zn4 ?_;refine zQ (e_R ⟨rfl,agA,?_⟩);exact clA
   refine zn7 ?_;refine zQ (e_R ⟨rfl,agA,?_⟩);exact clA
  refine e_S ?_;refine y7 (rg [7,8,9] 42 93) (fun g w'=>g 7= .int .i64 (ndX n d1 e1 t1)/\Bel w w'/\Blk w' b1 34 #[.int .i64 (t).kind,.string (t).name,.int .i64 (t).index,.string (t).type.base,.slice A (t).type.args.length c,.slice B (t).args.length mB]/\Blk w' b2 45 #[.int .i64 0,.int .i64 0]/\Blk w' b5 135 #[.int .i64 (t1).kind,.string (t1).name,.int .i64 (t1).index,.string (t1).type.base,.slice A1 (t1).type.args.length c1,.slice B1 (t1).args.length m1,.int .i64 (d1:Nat),.int .i64 (e1:Nat)]/\Blk w' b6 34 #[.int .i64 t1.kind,.string t1.name,.int .i64 t1.index,.string t1.type.base,.slice A1 t1.type.args.length c1,.slice B1 t1.args.length m1]/\Own w' w.heap.size 135 8 (some ⟨q,0,none⟩) a9.length b7 c3) ?_ (fun gx1 w9 hI=>?_)
  ·refine zV rfl (fun c2=>?_) (fun c2=>?_)
   ·have ba:(ndX n d1 e1 t1)=1:=if_pos c2;refine zn3 ?_;refine e_R ⟨agA,?_⟩;exact⟨by rw[ba];rfl,hB,a3,a1,a4,a2,ho⟩
   refine xy ?_;refine xk (rg [] 42 8) 49 (.bool (decide (t1.kind<1\/4<t1.kind))) nu ?_ (fun gq=>?_)
   ·refine zn5 ?_;refine zw 45 rfl (fun g45=>?_) (fun g45=>?_)
    ·refine zn4 ?_;refine zQ (e_R ⟨rfl,agA,?_⟩);exact clA
    refine zn7 ?_;refine zQ (e_R ⟨rfl,agA,?_⟩);exact clA
   refine e_S ?_;refine zV rfl (fun c49=>?_) (fun c49=>?_)
   ·have ba:=ndX_4 (b:=e1) c2 c49;refine zn3 ?_;refine e_R ⟨agA,?_⟩;exact⟨by rw[ba];rfl,hB,a3,a1,a4,a2,ho⟩
   obtain⟨kk,c5⟩:∃ kk:Nat,t1.kind=kk:=⟨t1.kind.toNat,by omega⟩
   have h1k:1<=kk:=by omega
   have h4k:kk<=4:=by omega
   refine xy ?_;rw[c5]at a2;refine ZV ?_;refine qv (cs:=#[_,_,_,_,_]) [(0,.int _ _),(1,.int _ _),(2,.int _ _),(3,.int _ _),(4,.int _ _)] rfl U68 xx Qj dE dE kR rfl (fun b50 ca cp s6 hr=>?_);refine zn3 ?_;refine wl (qW (v:= .int _ _) U3 rfl rfl (cp.cell (arg_at oG))) (zn4 ?_);replace a2:=a2.tr0 s6;rw[<- c5]at a2;replace ho:=ho.tr0 s6;refine y7 (rg [9] 55 40) (fun g w'=>(g 9= .bool (decide (zOk kk t1)))/\Same [] ca w') ?_ (fun g14 c8 hI=>?_)
   ·have hZ:SameQ [] ca ca:=Same.refl _ _;refine zn7 ?_;refine zw 60 rfl (fun g60=>?_) (fun g60=>?_)
    ·refine zn8 ?_;refine zw 64 rfl (fun g64=>?_) (fun g64=>?_)
     ·refine My ?_;refine zw 74 rfl (fun cx=>?_) (fun cx=>?_)
      ·refine My ?_;refine zw 84 rfl (fun bo=>?_) (fun bo=>?_)
       ·refine My ?_;refine e_R ⟨agA,?_⟩;refine⟨?_,hZ⟩;simp only[zOk]
        exact ab
       refine vy ?_;refine zw 89 rfl (fun bn=>?_) (fun bn=>?_)
       ·refine zn8 ?_;refine e_R ⟨agA,?_⟩;refine⟨?_,hZ⟩;simp only[zOk]
        exact ab
       refine zn3 ?_;refine wl (qZ U31 rfl rfl (a2.sub (n:=2) (xs:=[_,_]) rfl) xY) (zn1 ?_);refine zW kR (VV A1 c1 t1.type _) rfl (fun e' w12 hr=>?_);obtain⟨rfl,s7⟩:=hr;replace s7:=sB s7;replace hZ:=SameQ.trans hZ s7 (by simp);refine⟨_,rfl,?_⟩;refine zn5 ?_;refine e_R ⟨agA,?_⟩;refine⟨?_,hZ⟩;simp only[zOk]
       exact ab
      refine vy ?_;refine zw 80 rfl (fun cw=>?_) (fun cw=>?_)
      ·refine zn8 ?_;refine zw 84 rfl (fun bo=>?_) (fun bo=>?_)
       ·refine My ?_;refine e_R ⟨agA,?_⟩;refine⟨?_,hZ⟩;simp only[zOk]
        exact ab
       refine vy ?_;refine zw 89 rfl (fun bn=>?_) (fun bn=>?_)
       ·refine zn8 ?_;refine e_R ⟨agA,?_⟩;refine⟨?_,hZ⟩;simp only[zOk]
        exact ab
       refine zn3 ?_;refine wl (qZ U31 rfl rfl (a2.sub (n:=2) (xs:=[_,_]) rfl) xY) (zn1 ?_);refine zW kR (VV A1 c1 t1.type _) rfl (fun e' w13 hr=>?_);obtain⟨rfl,s8⟩:=hr;replace s8:=sB s8;replace hZ:=SameQ.trans hZ s8 (by simp);refine⟨_,rfl,?_⟩;refine zn5 ?_;refine e_R ⟨agA,?_⟩;refine⟨?_,hZ⟩;simp only[zOk]
       exact ab
      refine M2 ?_;refine e_R ⟨agA,?_⟩;refine⟨?_,hZ⟩;simp only[zOk]
      exact ab
     refine vy ?_;refine zw 70 rfl (fun g70=>?_) (fun g70=>?_)
     ·refine zn8 ?_;refine zw 74 rfl (fun cx=>?_) (fun cx=>?_)
      ·refine My ?_;refine zw 84 rfl (fun bo=>?_) (fun bo=>?_)
       ·refine My ?_;refine e_R ⟨agA,?_⟩;refine⟨?_,hZ⟩;simp only[zOk]
        exact ab
       refine vy ?_;refine zw 89 rfl (fun bn=>?_) (fun bn=>?_)
       ·refine zn8 ?_;refine e_R ⟨agA,?_⟩;refine⟨?_,hZ⟩;simp only[zOk]
        exact ab
       refine zn3 ?_;refine wl (qZ U31 rfl rfl (a2.sub (n:=2) (xs:=[_,_]) rfl) xY) (zn1 ?_);refine zW kR (VV A1 c1 t1.type _) rfl (fun e' w14 hr=>?_);obtain⟨rfl,s9⟩:=hr;replace s9:=sB s9;replace hZ:=SameQ.trans hZ s9 (by simp);refine⟨_,rfl,?_⟩;refine zn5 ?_;refine e_R ⟨agA,?_⟩;refine⟨?_,hZ⟩;simp only[zOk]
       exact ab
      refine vy ?_;refine zw 80 rfl (fun cw=>?_) (fun cw=>?_)
      ·refine zn8 ?_;refine zw 84 rfl (fun bo=>?_) (fun bo=>?_)
       ·refine My ?_;refine e_R ⟨agA,?_⟩;refine⟨?_,hZ⟩;simp only[zOk]
        exact ab
       refine vy ?_;refine zw 89 rfl (fun bn=>?_) (fun bn=>?_)
       ·refine zn8 ?_;refine e_R ⟨agA,?_⟩;refine⟨?_,hZ⟩;simp only[zOk]
        exact ab
       refine zn3 ?_;refine wl (qZ U31 rfl rfl (a2.sub (n:=2) (xs:=[_,_]) rfl) xY) (zn1 ?_);refine zW kR (VV A1 c1 t1.type _) rfl (fun e' w15 hr=>?_);obtain⟨rfl,cd⟩:=hr;replace cd:=sB cd;replace hZ:=SameQ.trans hZ cd (by simp);refine⟨_,rfl,?_⟩;refine zn5 ?_;refine e_R ⟨agA,?_⟩;refine⟨?_,hZ⟩;simp only[zOk]
       exact ab
      refine M2 ?_;refine e_R ⟨agA,?_⟩;refine⟨?_,hZ⟩;simp only[zOk]
      exact ab
     refine zn26 ?_;refine e_R ⟨agA,?_⟩;refine⟨?_,hZ⟩;simp only[zOk]
     exact ab
    refine zn30 ?_;refine zn6 ?_;refine e_R ⟨agA,?_⟩;refine⟨?_,hZ⟩;simp only[zOk]
    exact ab
   obtain⟨h9,a6⟩:=hI;refine jK 9 _ h9 nu (zn7 ?_);replace ho:=ho.tr0 a6;refine zV rfl (fun d6=>?_) (fun d6=>?_)
   ·have ba:=ndX_5 (b:=e1) c2 c5 h1k h4k d6;refine zn3 ?_;refine e_R ⟨agA,?_⟩;replace hB:=hB.tr0 (s6.t a6);replace a3:=a3.tr0 (s6.t a6);replace a1:=a1.tr0 (s6.t a6);replace a4:=a4.tr0 (s6.t a6);replace a2:=a2.tr0 a6;exact⟨by rw[ba];rfl,hB,a3,a1,a4,a2,ho⟩
   have hzk:zOk kk t1:=am.1 d6;have bm:=ndX_z (b:=e1) c2 c5 h1k h4k hzk;refine xy ?_;refine y7 (rg [] 97 9) (fun g w'=>(g 105= .bool (decide (kk=1/\¬vK t1.name=true)))/\Same [] c8 w') ?_ (fun g17 c7 hI=>?_)
   ·have hZ:SameQ [] c8 c8:=Same.refl _ _;refine zn5 ?_;refine zw 100 rfl (fun d4=>?_) (fun d4=>?_)
    ·refine zn5 ?_;refine zW kR (name1_any _ _) rfl (fun e' w17 hr=>?_);obtain⟨rfl,rfl⟩:=hr;refine⟨_,rfl,?_⟩;refine zn4 ?_;refine e_R ⟨agA,?_⟩;refine⟨?_,hZ⟩
     exact ab
    refine zn6 ?_;refine e_R ⟨agA,?_⟩;refine⟨?_,hZ⟩
    exact ab
   obtain⟨cv,b4⟩:=hI;refine jK 105 _ cv nu (e_S ?_);replace ho:=ho.tr0 b4;refine zV rfl (fun bu=>?_) (fun bu=>?_)
   ·have ba:(ndX n d1 e1 t1)=10:=by rw[bm,if_pos bu.1,if_neg bu.2]
    refine zn3 ?_;refine e_R ⟨agA,?_⟩;replace hB:=hB.tr0 (s6.t (a6.t b4));replace a3:=a3.tr0 (s6.t (a6.t b4));replace a1:=a1.tr0 (s6.t (a6.t b4));replace a4:=a4.tr0 (s6.t (a6.t b4));replace a2:=a2.tr0 (a6.t b4);exact⟨by rw[ba];rfl,hB,a3,a1,a4,a2,ho⟩
   refine xy ?_;refine y7 (rg [] 106 14) (fun g w'=>(g 119= .bool (decide ((kk=1\/kk=3)/\smF t1.type≠0)))/\Same [] c7 w') ?_ (fun g19 w18 hI=>?_)
   ·have hZ:SameQ [] c7 c7:=Same.refl _ _;refine zn5 ?_;refine zw 109 rfl (fun d3=>?_) (fun d3=>?_)
    ·refine zn8 ?_;refine wl (qZ U31 rfl rfl (a2.u.sub (n:=2) (xs:=[_,_]) rfl) xY) (zn1 ?_);refine zW kR (D6 A1 c1 t1.type _ (hs1.mono hB.u)) rfl (fun e' w19 hr=>?_);obtain⟨rfl,cc⟩:=hr;replace cc:=sB cc;replace hZ:=SameQ.trans hZ cc (by simp);refine⟨_,rfl,?_⟩;refine zn4 ?_;refine e_R ⟨agA,?_⟩;refine⟨?_,hZ⟩
     exact ab
    refine zn8 ?_;refine zw 114 rfl (fun d2=>?_) (fun d2=>?_)
    ·refine zn3 ?_;refine wl (qZ U31 rfl rfl (a2.u.sub (n:=2) (xs:=[_,_]) rfl) xY) (zn1 ?_);refine zW kR (D6 A1 c1 t1.type _ (hs1.mono hB.u)) rfl (fun e' w20 hr=>?_);obtain⟨rfl,cb⟩:=hr;replace cb:=sB cb;replace hZ:=SameQ.trans hZ cb (by simp);refine⟨_,rfl,?_⟩;refine zn4 ?_;refine e_R ⟨agA,?_⟩;refine⟨?_,hZ⟩
     exact ab
    refine zn6 ?_;refine e_R ⟨agA,?_⟩;refine⟨?_,hZ⟩
    exact ab
   obtain⟨cu,bc⟩:=hI;refine jK 119 _ cu nu (e_S ?_);replace ho:=ho.tr0 bc;refine zV rfl (fun d9=>?_) (fun d9=>?_)
   ·have ba:(ndX n d1 e1 t1)=12:=by rw[bm];clear bm;grind
    refine zn3 ?_;refine e_R ⟨agA,?_⟩;replace hB:=hB.tr0 (s6.t (a6.t (b4.t bc)));replace a3:=a3.tr0 (s6.t (a6.t (b4.t bc)));replace a1:=a1.tr0 (s6.t (a6.t (b4.t bc)));replace a4:=a4.tr0 (s6.t (a6.t (b4.t bc)));replace a2:=a2.tr0 (a6.t (b4.t bc));exact⟨by rw[ba];rfl,hB,a3,a1,a4,a2,ho⟩
   refine xy ?_;replace hB:=hB.tr0 (s6.t (a6.t (b4.t bc)));replace a3:=a3.tr0 (s6.t (a6.t (b4.t bc)));replace a1:=a1.tr0 (s6.t (a6.t (b4.t bc)));replace a4:=a4.tr0 (s6.t (a6.t (b4.t bc)));replace a2:=a2.tr0 (a6.t (b4.t bc));refine xk (rg [] 120 15) 134 (.bool (decide (kk=2/\(t1.index<0\/(e1:Int)<=t1.index)))) nu ?_ (fun gq=>?_)
   ·refine zn5 ?_;refine zw 123 rfl (fun cz=>?_) (fun cz=>?_)
    ·refine zn8 ?_;refine zw 127 rfl (fun cy=>?_) (fun cy=>?_)
     ·refine zn8 ?_;refine zQ (e_R ⟨rfl,agA,?_⟩);show Value.bool _=Value.bool _
      exact ab
     refine oJ ?_;refine zQ (e_R ⟨rfl,agA,?_⟩);show Value.bool _=Value.bool _
     exact ab
    refine kQ ?_;refine zQ (e_R ⟨rfl,agA,?_⟩);show Value.bool _=Value.bool _
    exact ab
   refine e_S ?_;refine zV rfl (fun d8=>?_) (fun d8=>?_)
   ·have ba:(ndX n d1 e1 t1)=15:=by rw[bm];clear bm;grind
    refine zn3 ?_;refine e_R ⟨agA,?_⟩;exact⟨by rw[ba];rfl,hB,a3,a1,a4,a2,ho⟩
   have ba:(ndX n d1 e1 t1)=0:=by rw[bm];clear bm;grind
   refine J7 ?_;refine e_R ⟨agA,?_⟩;exact⟨by rw[ba];rfl,hB,a3,a1,a4,a2,ho⟩
  obtain⟨h7,hB,a3,a1,a4,a2,ho⟩:=hI;refine jK 7 _ h7 nu (zn8 ?_);refine zV rfl (fun bg=>?_) (fun bg=>?_)
  ·rw[ndX_bad bg]at hR;have hF:tmF t=((ndX n d1 e1 t1),(n:Int)):=by rw[P7 (by rw[hR];exact bg),hR]
   refine zn4 ?_;refine wl (jk (v0:= .int _ _) (v1:= .int _ _) (fun v0 v1=>#[v0,v1]) rfl rfl kR) ?_;refine zk a1 rfl rfl zq rfl zJ (fun w21 hq s16=>?_);replace a1:=hq;refine zn9 ?_;refine yx (.inl rfl) rfl (zZ U45 rfl rfl a1.range0 zq) ?_;replace hB:=hB.tr1 s16 ce;exact⟨by rw[hF];rfl,hB⟩
  obtain⟨cr,⟨hd40,hn200⟩,co⟩:=ndX_go (r:=a9.reverse) (am.1 bg);rw[cr]at hR;have hal:=ndC_len co;refine Ry ?_;refine y7 [10,145,146] (fun g w'=>g 10= .int .i64 ((inB t1 e1:Nat):Int)/\Bel w w'/\Blk w' b1 34 #[.int .i64 (t).kind,.string (t).name,.int .i64 (t).index,.string (t).type.base,.slice A (t).type.args.length c,.slice B (t).args.length mB]/\Blk w' b2 45 #[.int .i64 0,.int .i64 0]/\Blk w' b5 135 #[.int .i64 (t1).kind,.string (t1).name,.int .i64 (t1).index,.string (t1).type.base,.slice A1 (t1).type.args.length c1,.slice B1 (t1).args.length m1,.int .i64 (d1:Nat),.int .i64 (e1:Nat)]/\Blk w' b6 34 #[.int .i64 t1.kind,.string t1.name,.int .i64 t1.index,.string t1.type.base,.slice A1 t1.type.args.length c1,.slice B1 t1.args.length m1]/\Own w' w.heap.size 135 8 (some ⟨q,0,none⟩) a9.length b7 c3) ?_ (fun gx2 w22 hI=>?_)
  ·refine zV rfl (fun bt=>?_) (fun bt=>?_)
   ·have cn:inB t1 e1=e1+1:=if_pos bt;refine zn5 ?_;refine e_R ⟨agA,?_⟩;exact⟨by rw[cn];rfl,hB,a3,a1,a4,a2,ho⟩
   have cn:inB t1 e1=e1:=if_neg bt;refine J7 ?_;refine e_R ⟨agA,?_⟩;exact⟨by rw[cn];rfl,hB,a3,a1,a4,a2,ho⟩
  obtain⟨h10,hB,a3,a1,a4,a2,ho⟩:=hI;refine jK 10 _ h10 nu (zn6 ?_);refine wl (jX rfl rfl rfl oG) (zn4 ?_);refine qj (rg [3,11] 151 17) (fun mm g w'=>∃(i:Nat) (z:Int) (a8:List (Tm×Nat×Nat)) (bv:List Value) (q2 bq:Nat),i<=t1.args.length/\mm=i/\z+1=i/\g 11= .int .i64 z/\g 3= .slice (some ⟨q2,0,none⟩) a8.length bq/\a8.length=a9.length+(t1.args.length-i)/\a8.reverse=(t1.args.drop i).map (fun y=>(y,d1+1,inB t1 e1))++a9.reverse/\Bel w w'/\Blk w' b1 34 #[.int .i64 (t).kind,.string (t).name,.int .i64 (t).index,.string (t).type.base,.slice A (t).type.args.length c,.slice B (t).args.length mB]/\Blk w' b2 45 #[.int .i64 0,.int .i64 0]/\Blk w' b5 135 #[.int .i64 (t1).kind,.string (t1).name,.int .i64 (t1).index,.string (t1).type.base,.slice A1 (t1).type.args.length c1,.slice B1 (t1).args.length m1,.int .i64 (d1:Nat),.int .i64 (e1:Nat)]/\Blk w' b6 34 #[.int .i64 t1.kind,.string t1.name,.int .i64 t1.index,.string t1.type.base,.slice A1 t1.type.args.length c1,.slice B1 t1.args.length m1]/\Own w' w.heap.size 135 8 (some ⟨q2,0,none⟩) a8.length bq bv/\StkT w a8 bv/\(∀ x∈a8,x.2.2<x.2.1)/\∀ g∈aL (some (⟨q2,0,none⟩:Addr)),g≠b5) (t1.args.length) ?_ (fun m g29 w23 hI=>?_)
  ·exact⟨t1.args.length,_,a9,c3,q,b7,ae _,rfl,by omega,rfl,rfl,by omega,by rw[List.drop_length];rfl,hB,a3,a1,a4,a2,ho,bf,c6,fun g hg=>by have:=a5 g hg;omega⟩
  obtain⟨i,z,a8,bv,q2,bq,hi,hmi,hzi,h11,h3,hl2,cm,hB,a3,a1,a4,a2,ho,bi,bz,a5⟩:=hI;have b3:=X4 ho a3 dE;have an:=X4 ho a1 dE;have ad:=X4 ho a2 dE;refine zK 11 _ h11 nu (zK 3 _ h3 nu (zn7 ?_));refine zV rfl (fun d7=>?_) (fun d7=>?_)
  ·obtain⟨p,rfl⟩:∃ p:Nat,z=p:=⟨z.toNat,by omega⟩
   obtain rfl:i=p+1:=by omega
   have a7:p<t1.args.length:=by omega
   obtain⟨tb,to,A9,c9,B9,m9,rfl,htb,htr,hs9,ht9⟩:=ht1.at_ a7;have ck:(a8++[((t1.args[p]'a7),d1+1,inB t1 e1)]).reverse=(t1.args.drop p).map (fun y=>(y,d1+1,inB t1 e1))++a9.reverse:=by
     rw[Ky,cm,List.drop_eq_getElem_cons a7];rfl
   refine zn4 ?_;have zo:=fun g hg=>(ho.lt g hg).2
   have lt5W:=a4.lt;refine X6 [] [12] [0,1,2,3,4,5,6,7,8,9,10,11,12,13] rfl (fun w24 bj=>?_);have cj:=bj;refine zn4 ?_;refine hl rfl (fun _=>xX (i:=p) U32 Zj rfl rfl a7 rfl) (zn5 ?_);refine hl rfl (fun _=>IV (v0:= .agg _) (v1:= .int _ _) (v2:= .int _ _) (fun v0 v1 v2=>#[(qz v0 0),(qz v0 1),(qz v0 2),(qz v0 3),(qz v0 4),(qz v0 5),v1,v2]) rfl rfl rfl kR) (h1 rfl ?_);refine qv (cs:=#[_,_,_,_,_,_,_,_]) [(0,.agg _)] rfl U136 Bw ze135 dE dE kR rfl (fun b166 w25 c0 bh hr=>?_);have:=nLL a3.u.lt hr;have:=nLL a1.u.lt hr;have:=nLL a4.u.lt hr;have:=nLL a2.u.lt hr;have bw:=bh;refine zQ (E2 bw (h1 rfl ?_));replace ho:=ho.tr0 (bj.t bh);refine jv U136 in135 rfl dE ho c0 rfl rfl rfl zJ dE oG oG (Bel.size hB.u) (fun bb b8 w26 bd bx be=>?_);replace hB:=hB.tr0 (bj.t bh);replace hB:=hB.tr bx (fun g hg=>nLT (ae _) (ho.lt g hg).1);replace a3:=a3.tr0 (bj.t bh);replace a3:=a3.tb bx (fun g hg=>by have:=b3 g hg;omega);replace a1:=a1.tr0 (bj.t bh);replace a1:=a1.tb bx (fun g hg=>by have:=an g hg;omega);replace a4:=a4.tr0 (bj.t bh);replace a4:=a4.tb bx (fun g hg=>by have:=a5 g hg;omega);replace a2:=a2.tr0 (bj.t bh);replace a2:=a2.tb bx (fun g hg=>by have:=ad g hg;omega);replace cj:=cj.t bh;obtain⟨bb,b8,d5,bd,be⟩:∃ g cap,(.slice (some ⟨bb,0,none⟩) (a8.length+1) b8:Value)= .slice (some ⟨g,0,none⟩) (a8.length+1) cap/\Own w26 w.heap.size 135 8 (some ⟨g,0,none⟩) (a8.length+1) cap (bv++[.int .i64 ((t1.args[p]'a7)).kind,.string ((t1.args[p]'a7)).name,.int .i64 ((t1.args[p]'a7)).index,.string ((t1.args[p]'a7)).type.base,.slice A9 ((t1.args[p]'a7)).type.args.length c9,.slice B9 ((t1.args[p]'a7)).args.length m9,.int .i64 ((d1:Nat)+1:Int),.int .i64 ((inB t1 e1:Nat):Int)])/\(g=q2\/w23.heap.size<=g):=⟨_,_,rfl,bd,be.imp (fun h=>(List.singleton_inj.1 h).symm) (fun h=>nLT cj.size h)⟩
   cases d5;refine zQ (Hj [] ?_);have q1:(a8++[((t1.args[p]'a7),d1+1,inB t1 e1)]).length=a8.length+1:=by simp
   have ho:Own w26 w.heap.size 135 8 (some ⟨bb,0,none⟩) (a8++[((t1.args[p]'a7),d1+1,inB t1 e1)]).length b8 (bv++[.int .i64 ((t1.args[p]'a7)).kind,.string ((t1.args[p]'a7)).name,.int .i64 ((t1.args[p]'a7)).index,.string ((t1.args[p]'a7)).type.base,.slice A9 ((t1.args[p]'a7)).type.args.length c9,.slice B9 ((t1.args[p]'a7)).args.length m9,.int .i64 ((d1:Nat)+1:Int),.int .i64 ((inB t1 e1:Nat):Int)]):=by rw[q1];exact bd
   have b9:∀ g∈aL (some (⟨bb,0,none⟩:Addr)),g≠b5:=fun g hg=>by
     rw[List.mem_singleton.1 hg];rcases be with h|h
     · show bb≠b5
       rw[h];exact a5 q2 (aj.2 rfl)
     · show bb≠b5
       omega
   refine zn6 ?_;refine wl (jX rfl rfl rfl oG) (zn2 ?_);refine xK (p) oG agA ?_
   exact⟨p,_,a8++[((t1.args[p]'a7),d1+1,inB t1 e1)],_,_,_,by omega,rfl,by omega,rfl,(by rw[q1];rfl),(by rw[q1,hl2];omega),ck,hB,a3,a1,a4,a2,ho,.snoc bi hs9 ht9,(fun x hx=>by
     rcases az.1 hx with h|h
     · exact bz x h
     · rw[List.mem_singleton.1 h];show inB t1 e1<d1+1;have:=inB_le t1 e1;omega),b9⟩
  obtain rfl:i=0:=by omega
  rw[List.drop_zero]at cm;have cr:twk t 1 0 0=tst a8.reverse (n+1):=by rw[hR,cm]
  have hl3:a8.length=a9.length+t1.args.length:=by rw[hl2,Nat.sub_zero]
  refine kQ ?_;refine xK (201-(n+1)) oG agA ?_;exact⟨a8,bv,_,_,n+1,rfl,by omega,by omega,rfl,rfl,hB,a3,a1,ho,bi,cr,bz⟩
 have hst:st= []:=aB.1 oG;subst hst;have hz:(twk t 1 0 0).2.1=0:=by rw[hR];rfl
 obtain⟨tv,rfl,hok,_,hv2⟩:=Ex t 1 0 0 hz;have hF:=tmF_ok hz;refine zn9 ?_;refine zW kR (L6 tv A B c mB _ _ (Below.refl _ _) (hS.mono hB) (hT.mono hB) oG hok) rfl (fun e' w27 hr=>?_);obtain⟨⟨sX,AX,nX,cX,rfl,_⟩,c4⟩:=hr;replace c4:=sB c4;refine⟨_,rfl,?_⟩;refine wmT rfl (wl (y8 (v:= .agg _) rfl rfl) (wl (y8 (v:= .bool _) rfl rfl) ?_));refine yj (cs:=#[.string ⟨#[]⟩,.slice none 0 0]) JQ rfl (fun _=>rfl) (fun _=>rfl) xY rfl zJ (fun b12 w29 hb12 s20 hr=>?_);refine zn9 ?_;refine ky rfl (fun br=>?_) (fun br=>?_)
 ·rw[if_neg (by simpa using br)]at hF;refine zn2 ?_;refine wl (jk (v0:= .int _ _) (v1:= .int _ _) (fun v0 v1=>#[v0,v1]) rfl rfl kR) ?_;refine zk a1.u rfl rfl zq rfl zJ (fun w30 hq s21=>?_);replace a1:=hq;refine zn4 ?_;refine yx (.inl rfl) rfl (zZ U45 rfl rfl a1.range0 zq) ?_;replace hB:=(hB.tr0 (c4.t s20)).tr1 s21 ce;exact⟨by rw[hF];rfl,hB⟩
 rw[if_pos (by simpa using br)]at hF;refine zn4 ?_;refine wl (kK (vs:=#[]) (cs:=#[.int .i64 0,.int .i64 0]) (by simp) kR) ?_;refine zk a1.u rfl rfl zq rfl zJ (fun w31 hq s22=>?_);replace a1:=hq;refine zn3 ?_;refine yx (.inl rfl) rfl (zZ U45 rfl rfl a1.range0 zq) ?_;replace hB:=(hB.tr0 (c4.t s20)).tr1 s22 ce;exact⟨by rw[hF];rfl,hB⟩
theorem Gv(SA BA:Option Addr)(cs mB:Nat)(t:Tm)(w:World)(hS:SimsIn w SA t.type.args)(hT:TmsIn w BA t.args):Calls prog 36 #[.agg #[.int .i64 (t).kind,.string (t).name,.int .i64 (t).index,.string (t).type.base,.slice SA (t).type.args.length cs,.slice BA (t).args.length mB]] w fun e w'=>e= .returned (flV (tmF t))/\Bel w w':=by
 refine enT func36 ntmps36 rfl rfl fun hB=>?_;refine zn2 ?_;refine qY (v:= .agg #[_,_,_,_,_,_]) (cs:=#[_,_,_,_,_,_]) rfl rfl (fun b1 w1 hb1 s1 hr=>?_);refine qk (cs:=#[.int .i64 0,.int .i64 0]) qK rfl (fun b2 w2 a1 s2 hr=>?_);have lo2:=nLT (Bel.size hB.u) hr;refine zn5 ?_;refine aY kR (Lz SA BA cs mB t _ (hS.mono hB.u) (hT.mono hB.u)) rfl (fun w3 s3=>?_);refine zk a1.u rfl rfl zq rfl zJ (fun w4 hq s4=>?_);replace a1:=hq;refine zn3 ?_;refine yx (.inl rfl) rfl (zZ U45 rfl rfl a1.range0 zq) ?_;exact⟨vj rfl,hB.u⟩
theorem lexr_any(A B G SA BA:Option Addr)(c d cg cs mB:Nat)(l:List Ty)(fs:List Ft)(x:Lx)(w:World)(hTy:TypesIn w A l)(hv:VT l)(h60:l.length<=60)(hF:FeatsIn w B fs)(hfo:FOk l.length fs)(hG:NodesIn w G x.gr)(hS:SimsIn w SA x.mean.type.args)(hT:TmsIn w BA x.mean.args)(hsz:x.word.size<9223372036854775807):Calls prog 9 #[.agg #[.slice A l.length c,.slice B fs.length d],.agg #[.string (x).word,.slice G (x).gr.length cg,.int .i64 (x).wt,.int .i64 ((x).mean).kind,.string ((x).mean).name,.int .i64 ((x).mean).index,.string ((x).mean).type.base,.slice SA ((x).mean).type.args.length cs,.slice BA ((x).mean).args.length mB]] w fun e w'=>e= .returned (.int .i64 (KK l fs x))/\Bel w w':=by
 refine enT func9 ntmps9 rfl rfl fun hB=>?_;refine zn2 ?_;refine qY (v:= .agg #[_,_]) (cs:=#[_,_]) rfl rfl (fun b2 w1 hb2 s1 hr=>?_);refine qY (v:= .agg #[_,_,_,_,_,_,_,_,_]) (cs:=#[_,_,_,_,_,_,_,_,_]) rfl rfl (fun b3 w2 hb3 s2 hr=>?_);refine zn8 ?_;refine aY kR (wordr_any x.word _ hsz) rfl (fun w3 s3=>?_);refine zn3 ?_;refine ky rfl (fun c9=>?_) (fun c9=>?_)
 ·have a1:yX x.word=false:=by simpa using c9
  refine zn8 ?_;exact⟨YV (TV a1),hB.u⟩
 have a1:yX x.word=true:=by simpa using c9
 refine zn4 ?_;replace hB:=hB.tr0 (s1.t (s2.t s3));refine xk (rg [] 10 8) 17 (.bool (decide (x.wt<0\/1000000<x.wt))) nu ?_ (fun gq=>?_)
 ·refine zn5 ?_;refine zw 13 rfl (fun g13=>?_) (fun g13=>?_)
  ·refine zn4 ?_;refine zQ (e_R ⟨rfl,agA,?_⟩);exact clA
  refine zn7 ?_;refine zQ (e_R ⟨rfl,agA,?_⟩);exact clA
 refine e_S ?_;refine zV rfl (fun a2=>?_) (fun a2=>?_)
 ·refine zn8 ?_;exact⟨YV (GZ a1 a2),hB⟩
 refine zn7 ?_;refine wl (qZ U28 rfl rfl (hb3.u.sub (n:=1) (xs:=[_]) rfl) M8) ?_;refine aY kR (inh_any A B G c d cg l fs x.gr _ (hTy.mono hB) hv h60 (hF.mono hB) (hG.mono hB) hfo) rfl (fun w4 s4=>?_);refine yj (cs:=#[.int .i64 0,.int .i64 0]) qK rfl (fun _=>rfl) (fun _=>rfl) zq rfl zJ (fun b5 w6 hb5 s5 hr=>?_);refine zn9 ?_;refine zV rfl (fun a3=>?_) (fun a3=>?_)
 ·refine vy ?_;exact⟨YV (lx_gr a1 a2 a3),hB.u⟩
 have hin:=ak.1 a3;refine zn5 ?_;refine wl (qZ U34 rfl rfl (hb3.u.sub (n:=6) (xs:=[_,_,_,_,_,_]) rfl) Zj) ?_;refine aY kR (Gv SA BA cs mB x.mean _ (hS.mono hB.u) (hT.mono hB.u)) rfl (fun w7 s6=>?_);refine wl (Dj (v:= .int _ _) U45 rfl U3 rfl rfl rfl) (zn5 ?_);exact⟨YV (Wy a1 a2 hin),hB.u⟩
end Go.Proofs.YtiofaflajkgiaaaGreatDoor
