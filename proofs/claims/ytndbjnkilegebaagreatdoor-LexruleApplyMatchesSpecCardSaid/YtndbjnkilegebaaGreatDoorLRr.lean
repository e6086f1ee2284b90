/- What these functions compute, at every world: ref3.runeLength, ref3.Word, ref1.Name, ref1.TermFault, ref3.MeaningFault, ref3.LexFault, ref4.Ready, ref4.LexRuleCode; and plain laws. -/
import Derived.Test.YtndbjnkilegebaaGreatDoorU
import Derived.Test.YtndbjnkilegebaaGreatDoorZst
import Derived.Test.YtndbjnkilegebaaGreatDoorWRc
import Derived.Test.YtndbjnkilegebaaGreatDoorNTo
import Derived.Test.YtndbjnkilegebaaGreatDoorGSearch
import Derived.Test.YtndbjnkilegebaaGreatDoorGro
import Derived.Test.YtndbjnkilegebaaGreatDoorLRd
import Derived.Test.YtndbjnkilegebaaGreatDoorHFault
namespace Go.Proofs.YtndbjnkilegebaaGreatDoor
open Go.RowKit Go.Proofs.Tryz
set_option maxHeartbeats 2000000
variable {b:Nat}{fs:List Ft}{l:List Ty}{r:Lr}{t:Tm}{x:Lx}
theorem rl_any(x:ByteArray)(hx:0<x.size)(w:World):Calls prog 54 #[.string x] w fun e w'=>e= .returned (.int .i64 (EQ x))/\w=w':=by
 have hb0:=oX x 0;refine enter func54 ntmps54 rfl (aA rfl) (zn8 ?_);refine wl (kY (i:=0) U9 rfl rfl hx) (zn23 ?_);refine zZ rfl (fun c10=>?_) (fun c10=>?_)
 ·refine zn9 ?_;exact⟨congrArg (fun z=>Ending.returned (.int .i64 z)) (rlen_low oG).symm,rfl⟩
 have a9:128<=gb x 0:=by omega
 refine xQ ?_;refine xj [13,14,15,16,17,18,19] 13 (.bool (decide (194<=gb x 0/\gb x 0<=223))) nu ?_ (fun gq=>?_)
 ·refine zn4 ?_;refine zk 16 rfl (fun g16=>?_) (fun g16=>?_)
  ·refine zn6 ?_;exact xq
  refine zn4 ?_;exact xq
 refine e_S ?_;refine xv (rg [2,4,5,6] 20 23) (fun g w'=>∃(nn:Nat) (vz lz:Int),g 4= .int .i64 (nn:Int)/\g 6= .int .i64 vz/\g 5= .int .i64 lz/\Hd (gb x 0) nn vz lz/\w=w') ?_ (fun gx1 w1 hI=>?_)
 ·refine zZ rfl (fun a5=>?_) (fun a5=>?_)
  ·refine zn2 ?_;refine wl (S5 U5 U3 rfl oG) (wl (jJ rfl rfl rfl oG) (zn4 ?_));refine e_R ⟨agA,?_⟩
   first
     | exact⟨2,_,_,rfl,rfl,rfl,.inl ⟨a5.1,a5.2,rfl,rfl,rfl⟩,rfl⟩
     | exact⟨3,_,_,rfl,rfl,rfl,.inr (.inl ⟨a4.1,a4.2,rfl,rfl,rfl⟩),rfl⟩
     | exact⟨4,_,_,rfl,rfl,rfl,.inr (.inr ⟨a3.1,a3.2,rfl,rfl,rfl⟩),rfl⟩
  refine xQ ?_;refine xj [23,24,25,26,27,28,29] 23 (.bool (decide (224<=gb x 0/\gb x 0<=239))) nu ?_ (fun gq=>?_)
  ·refine zn4 ?_;refine zk 26 rfl (fun g26=>?_) (fun g26=>?_)
   ·refine zn6 ?_;exact xq
   refine zn4 ?_;exact xq
  refine e_S ?_;refine zZ rfl (fun a4=>?_) (fun a4=>?_)
  ·refine zn2 ?_;refine wl (S5 U5 U3 rfl oG) (wl (jJ rfl rfl rfl oG) (zn4 ?_));refine e_R ⟨agA,?_⟩
   first
     | exact⟨2,_,_,rfl,rfl,rfl,.inl ⟨a5.1,a5.2,rfl,rfl,rfl⟩,rfl⟩
     | exact⟨3,_,_,rfl,rfl,rfl,.inr (.inl ⟨a4.1,a4.2,rfl,rfl,rfl⟩),rfl⟩
     | exact⟨4,_,_,rfl,rfl,rfl,.inr (.inr ⟨a3.1,a3.2,rfl,rfl,rfl⟩),rfl⟩
  refine xQ ?_;refine xj [33,34,35,36,37,38,39] 33 (.bool (decide (240<=gb x 0/\gb x 0<=244))) nu ?_ (fun gq=>?_)
  ·refine zn4 ?_;refine zk 36 rfl (fun g36=>?_) (fun g36=>?_)
   ·refine zn6 ?_;exact xq
   refine zn4 ?_;exact xq
  refine e_S ?_;refine zZ rfl (fun a3=>?_) (fun a3=>?_)
  ·refine zn2 ?_;refine wl (S5 U5 U3 rfl oG) (wl (jJ rfl rfl rfl oG) (zn4 ?_));refine e_R ⟨agA,?_⟩
   first
     | exact⟨2,_,_,rfl,rfl,rfl,.inl ⟨a5.1,a5.2,rfl,rfl,rfl⟩,rfl⟩
     | exact⟨3,_,_,rfl,rfl,rfl,.inr (.inl ⟨a4.1,a4.2,rfl,rfl,rfl⟩),rfl⟩
     | exact⟨4,_,_,rfl,rfl,rfl,.inr (.inr ⟨a3.1,a3.2,rfl,rfl,rfl⟩),rfl⟩
  refine zn6 ?_;refine e_RSr (zn3 ?_);exact⟨congrArg (fun z=>Ending.returned (.int .i64 z)) (rlen_no a9 oG).symm,rfl⟩
 obtain⟨nn,vz,lz,h4,h6,h5,hd,rfl⟩:=hI;obtain⟨a8,a2⟩:=hd_rl hd;have hn:2<=nn/\nn<=4/\0<=vz/\vz<=31:=by
   rcases hd with ⟨q1,q2,q3,q4,q5⟩|⟨q1,q2,q3,q4,q5⟩|⟨q1,q2,q3,q4,q5⟩<;>omega
 clear hd;refine vZ 4 _ h4 nu (vZ 6 _ h6 nu (vZ 5 _ h5 nu (vJ ?_)));refine zZ rfl (fun c46=>?_) (fun c46=>?_)
 ·refine zn8 ?_;exact⟨congrArg (fun z=>Ending.returned (.int .i64 z)) (a2 (.inl oG)).symm,rfl⟩
 have hxs:nn<=x.size:=by omega
 refine zn9 ?_;refine qz (rg [2,6,7] 47 23) (fun m g w'=>∃ k:Nat,k+1<=nn/\m=nn-(k+1)/\g 7= .int .i64 ((k+1:Nat):Int)/\g 6= .int .i64 (vv x vz k)/\(∀ j,1<=j->j<k+1->128<=gb x j/\gb x j<=191)/\0<=vv x vz k/\((k=0/\vv x vz k<=31)\/(k=1/\vv x vz k<=2047)\/(k=2/\vv x vz k<=131071)\/(k=3/\vv x vz k<=8388607))/\w=w') (nn-1) ?_ (fun m g16 w2 hI=>?_)
 ·exact⟨0,by omega,rfl,rfl,rfl,fun j h1 h2=>by omega,hn.2.2.1,.inl ⟨rfl,hn.2.2.2⟩,rfl⟩
 obtain⟨k,hk,hm,h7,h6b,a1,hv0,hvb,rfl⟩:=hI;refine zQ 7 _ h7 nu (zQ 6 _ h6b nu (zn8 ?_));refine zZ rfl (fun c49=>?_) (fun c49=>?_)
 ·have hk2:k+1<nn:=by omega
  refine zn6 ?_;refine xj (rg [] 52 10) 61 (.bool (decide ((¬(128<=gb x (k+1)/\gb x (k+1)<=191))))) nu ?_ (fun gq=>?_)
  ·refine zn3 ?_;refine wl (kY (i:=(k+1)) U9 rfl rfl oG) (zn2 ?_);refine zk 56 rfl (fun g56=>?_) (fun g56=>?_)
   ·refine zn5 ?_;exact xq
   refine zn5 ?_;refine wl (kY (i:=(k+1)) U9 rfl rfl oG) (zn3 ?_);exact xq
  refine e_S ?_;refine zZ rfl (fun ac=>?_) (fun ac=>?_)
  ·refine uJ ?_;exact⟨congrArg (fun z=>Ending.returned (.int .i64 z)) (a2 (.inr (.inl ⟨k+1,by omega,hk2,ac⟩))).symm,rfl⟩
  have hbt:128<=gb x (k+1)/\gb x (k+1)<=191:=ak.1 ac;refine zn4 ?_;refine wl (r_mul rfl rfl rfl (by clear a1 a8 a2;omega)) (zn2 ?_);refine wl (kY (i:=(k+1)) U9 rfl rfl oG) (wl (S5 U5 U3 rfl oG) (wl (uW rfl rfl rfl (by clear a1 a8 a2;omega)) (wl (jJ rfl rfl rfl (by clear a1 a8 a2;omega)) (zn9 ?_))));refine x9 (nn-(k+2)) oG agA ?_;refine⟨k+1,by omega,rfl,rfl,rfl,fun j h1 h2=>?_,?_,?_,rfl⟩
  · by_cases e:j=k+1
    · rw[e];exact hbt
    · exact a1 j h1 oG
  · simp only[vv];omega
  · simp only[vv];clear a1 a8 a2;omega
 have hkn:nn=k+1:=by omega
 subst hkn;simp only[Nat.add_sub_cancel]at a8 a2;refine zn7 ?_
 try clear h6
 refine xj (rg [] 70 15) 84 (.bool (decide (vv x vz k<lz\/1114111<vv x vz k\/(55296<=vv x vz k/\vv x vz k<=57343)))) nu ?_ (fun gq=>?_)
 ·refine zn5 ?_;refine zk 73 rfl (fun g73=>?_) (fun g73=>?_)
  ·refine vJ ?_;exact xq
  refine zn6 ?_;refine zk 77 rfl (fun g77=>?_) (fun g77=>?_)
  ·refine zn7 ?_;exact xq
  refine zn6 ?_;refine zk 80 rfl (fun g80=>?_) (fun g80=>?_)
  ·refine zn7 ?_;exact xq
  refine zn5 ?_;exact xq
 refine e_S ?_;refine zZ rfl (fun ab=>?_) (fun ab=>?_)
 ·refine zn8 ?_;exact⟨congrArg (fun z=>Ending.returned (.int .i64 z)) (a2 (.inr (.inr ⟨ab,a1⟩))).symm,rfl⟩
 refine yj ?_;exact⟨congrArg (fun z=>Ending.returned (.int .i64 z)) (a8 hxs a1 ab).symm,rfl⟩
theorem VX(s:ByteArray)(w:World)(hsz:s.size<9223372036854775807):Calls prog 34 #[.string s] w fun e w'=>e= .returned (.bool (yV s))/\Bel w w':=by
 refine enT func34 ntmps34 rfl rfl fun hB=>?_;refine QY ?_;refine wl_rg U9 rfl (fun b9 w1 a2 s1 hr=>?_);have lo9:=hB.ob hr;refine zn3 ?_;refine qz (rg [2,3,5] 10 39) (fun m g w'=>∃ p n:Nat,p<=s.size/\m=s.size-p/\n<=p/\g 3= .int .i64 n/\n+(ch s p).length=(ch s 0).length/\brd s 0=brd s p/\Bel w w'/\ItIn w' b9 s p) (s.size) ?_ (fun m g3 w2 hI=>?_)
 ·exact⟨0,0,ah _,rfl,ai _,rfl,Nat.zero_add _,rfl,hB.u,a2⟩
 obtain⟨p,n,hp,hm,hnp,h3,hc,a5,hB,a2⟩:=hI;refine zQ 3 _ h3 nu (zn2 ?_);rcases Nat.lt_or_ge (p) (s).size with hnlt|hnge
 ·refine wl_nx a2 rfl hnlt (fun w3 hq s2=>?_);replace a2:=hq;have hwp:=Xq hnlt;have hwl:=FJ hnlt;rw[Mv hnlt,List.length_cons]at hc;refine wl (yW (v:= .bool true) rfl rfl) (zn9 ?_);refine wl (yW (v:= .int _ _) rfl rfl) (vJ ?_);replace hB:=hB.tr1 s2 lo9;refine xj (rg [] 15 34) 48 (.bool (decide ((Utf8.decode s p).1=32\/(Utf8.decode s p).1=9\/(Utf8.decode s p).1=10\/(Utf8.decode s p).1=40\/(Utf8.decode s p).1=41\/(Utf8.decode s p).1=91\/(Utf8.decode s p).1=93\/(Utf8.decode s p).1=44\/(Utf8.decode s p).1=59))) nu ?_ (fun gq=>?_)
  ·refine zn4 ?_;refine zk 17 rfl (fun g17=>?_) (fun g17=>?_)
   ·refine zn30 ?_;refine zn1 ?_;exact xq
   refine zn6 ?_;refine zk 21 rfl (fun g21=>?_) (fun g21=>?_)
   ·refine zn27 ?_;exact xq
   refine zn6 ?_;refine zk 25 rfl (fun g25=>?_) (fun g25=>?_)
   ·refine zn23 ?_;exact xq
   refine zn6 ?_;refine zk 29 rfl (fun g29=>?_) (fun g29=>?_)
   ·refine zn19 ?_;exact xq
   refine zn6 ?_;refine zk 33 rfl (fun g33=>?_) (fun g33=>?_)
   ·refine Ky ?_;exact xq
   refine zn6 ?_;refine zk 37 rfl (fun g37=>?_) (fun g37=>?_)
   ·refine vJ ?_;exact xq
   refine zn6 ?_;refine zk 41 rfl (fun g41=>?_) (fun g41=>?_)
   ·refine zn7 ?_;exact xq
   refine zn6 ?_;refine zk 45 rfl (fun g45=>?_) (fun g45=>?_)
   ·refine zn3 ?_;exact xq
   refine zn5 ?_;exact xq
  refine e_S ?_;refine zZ rfl (fun a9=>?_) (fun a9=>?_)
  ·refine vJ ?_;exact⟨congrArg (fun b=>Ending.returned (.bool b)) (by unfold yV;rw[a5,Jz hnlt,(spc_iff _).2 a9];simp),hB⟩
  have hsn:spc (Utf8.decode s p).1=false:=by
    cases h:spc (Utf8.decode s p).1 with
    | false=>rfl
    | true=>exact absurd ((spc_iff _).1 h) a9
  refine QK (e_B (x9 (s.size-(p+wdt s p)) oG agA ?_));exact⟨p+wdt s p,n+1,hwl,rfl,by omega,rfl,by omega,by rw[a5,Jz hnlt,hsn,Bool.false_or],hB,a2⟩
 refine wl (r_ne a2 rfl (Nat.not_lt.2 hnge)) ?_;rw[HY (Nat.not_lt.2 hnge),List.length_nil,Nat.add_zero]at hc;rw[Cz (Nat.not_lt.2 hnge)]at a5;refine wl (yW (v:= .bool false) rfl rfl) (vJ ?_);refine xj [49,50,51,52,53,54] 54 (.bool (decide (n<1\/30<n))) nu ?_ (fun gq=>?_)
 ·refine zn4 ?_;refine zk 51 rfl (fun g51=>?_) (fun g51=>?_)
  ·refine zn3 ?_;exact xq
  refine zn5 ?_;exact xq
 refine e_S ?_;refine zZ rfl (fun c54=>?_) (fun c54=>?_)
 ·refine zn8 ?_;exact⟨congrArg (fun b=>Ending.returned (.bool b)) (by unfold yV;rcases c54 with h|h<;>first|(rw[decide_eq_false (show ¬1<=(ch s 0).length by omega)];rfl)|(rw[decide_eq_false (show ¬(ch s 0).length<=30 by omega)];simp)),hB⟩
 refine zn9 ?_;refine qz (rg [2,6,7] 55 13) (fun m g w'=>∃ q:Nat,q<=s.size/\s.size-q<=m/\g 6= .int .i64 q/\vq s 0=vq s q/\Bel w w') (s.size) ?_ (fun m g11 w4 hI=>?_)
 ·exact⟨0,ah _,ai _,rfl,rfl,hB⟩
 obtain⟨q,hq,hm2,h6,hv,hB⟩:=hI;obtain⟨mo,rfl⟩:∃ x,x=m:=⟨_,rfl⟩
 refine zQ 6 _ h6 nu (zn9 ?_);refine zZ rfl (fun c58=>?_) (fun c58=>?_)
 ·have a3:q<s.size:=by omega
  have hwp2:=Xq a3;have a8:=FJ a3;refine zn7 ?_;refine wl (Yx (l:=q) U9 rfl rfl oG) ?_;refine zW kR (rl_any (sdr q s) (by rw[yy];omega) _) rfl (fun e' w5 hr=>?_);obtain⟨rfl,rfl⟩:=hr;have a1:=rlen_sdr q s;refine⟨_,rfl,?_⟩;refine yj ?_;refine zZ rfl (fun c64=>?_) (fun c64=>?_)
  ·have a4:Yj s q=false:=by
     cases h:Yj s q with
     | false=>rfl
     | true=>rw[h,if_pos rfl]at a1;omega
   refine yZ ?_;exact⟨congrArg (fun b=>Ending.returned (.bool b)) (by unfold yV;rw[hv,Ly a3 a4];simp),hB⟩
  have a4:Yj s q=true:=by
    cases h:Yj s q with
    | true=>rfl
    | false=>rw[h,if_neg dE]at a1;exact absurd a1 c64
  have hrl:EQ (sdr q s)=((wdt s q:Nat):Int):=by rw[a1,a4,if_pos rfl]
  refine zn5 ?_;refine wl (uW rfl rfl rfl (by rw[hrl];omega)) (zn3 ?_);refine x9 (mo-1) oG agA ?_;exact⟨q+wdt s q,a8,by omega,by rw[hrl];rfl,by rw[hv,LZ a3 a4],hB⟩
 rw[vq_end (p:=q) oG]at hv;refine yZ ?_;exact⟨congrArg (fun b=>Ending.returned (.bool b)) (by unfold yV;rw[hv,a5,decide_eq_true (show 1<=(ch s 0).length by omega),decide_eq_true (show (ch s 0).length<=30 by omega)];rfl),hB⟩
section
theorem inB_le(t:Tm)(b:Nat):inB t b<=b+1:=by unfold inB;split<;>omega
def argN(k:Nat):Int:=if k=3 then 1 else if k=4 then 2 else 0
theorem arg_at{k:Nat}(h:k<5):(#[.int .i64 0,.int .i64 0,.int .i64 0,.int .i64 1,.int .i64 2]:Array Value)[0+k*1]? =some (.int .i64 (argN k)):=by
 match k,h with
 | 0,_=>rfl
 | 1,_=>rfl
 | 2,_=>rfl
 | 3,_=>rfl
 | 4,_=>rfl
def zOk(k:Nat)(t:Tm):Prop:=((t.args.length:Nat):Int)=argN k/\(k=1\/t.name=⟨#[]⟩)/\(k=2\/t.index=0)/\(k=1\/k=3\/My t.type)
instance(k:Nat)(t:Tm):Decidable (zOk k t):=by unfold zOk;infer_instance
def ndX(n d b:Nat)(t:Tm):Int:=if 200<n+1\/40<d then 1 else ndC b t
theorem ndX_bad{n d:Nat}{r:List (Tm×Nat×Nat)}(h:ndX n d b t≠0):tst ((t,d,b)::r) n=(n+1,(ndX n d b t,(n:Int))):=by
 grind[ndX,tst_out,tst_bad]
theorem ndX_go{n d:Nat}{r:List (Tm×Nat×Nat)}(h:ndX n d b t=0):tst ((t,d,b)::r) n=tst (t.args.map (fun y=>(y,d+1,inB t b))++r) (n+1)/\(d<=40/\n+1<=200)/\ndC b t=0:=by
 grind[ndX,tst_go]
theorem ndC_len(h:ndC b t=0):t.args.length<=2:=by
 grind[ndC]
section x
variable {n d b k:Nat} {t:Tm} (hb:¬(200<n+1\/40<d)) (hk:t.kind=(k:Int)) (h1:1<=k) (h4:k<=4)
include hb
theorem ndX_4(h:t.kind<1\/4<t.kind):ndX n d b t=4:=by
 grind[ndX,ndC]
include hk h1 h4
theorem ndX_5(h:¬zOk k t):ndX n d b t=5:=by
 grind[ndX,ndC,zOk,argN,h1]
theorem ndX_z(h:zOk k t):ndX n d b t=if k=1 then (if vY t.name=true then (if smF t.type=0 then 0 else 12)else 10)else if k=2 then (if t.index<0\/(b:Int)<=t.index then 15 else 0)else if k=3 then (if smF t.type=0 then 0 else 12)else 0:=by
 grind[ndX,ndC,zOk,argN,h1]
end x
theorem name1_any(s:ByteArray)(w:World):Calls Tryz.prog 59 #[.string s] w fun e w'=>e= .returned (.bool (vY s))/\w=w':=by
 obtain⟨c0,e0⟩:=hd_num s;have hN:=Lib.hid (PX s c0 e0);refine enter Tryz.func59 Tryz.ntmps59 rfl (aA rfl) (zn7 ?_);refine xj (rg [] 6 8) 13 (.bool (decide (s.size<1\/30<s.size))) nu ?_ (fun gq=>?_)
 ·refine zn5 ?_;refine zk 9 rfl (fun g9=>?_) (fun g9=>?_)
  ·refine zn4 ?_;exact xq
  refine zn7 ?_;exact xq
 refine e_S ?_;refine zZ rfl (fun c13=>?_) (fun c13=>?_)
 ·refine zn8 ?_;exact⟨jQ (by rw[hN.out];exact ap (fun h=>by omega)),rfl⟩
 refine zn9 ?_;refine qz (rg [2,3,4,5] 14 48) (fun m g w'=>∃ k:Nat,k<=s.size/\m=s.size-k/\g 3= .int .i64 k/\w=w'/\(0<k->97<=c0/\c0<=122)/\(∀ j (hj:j<s.size),j<k->Q6 (s[j]'hj)=true)) (s.size) ?_ (fun m g4 w1 hI=>?_)
 ·exact⟨0,ah _,rfl,rfl,rfl,fun h=>by omega,fun j hj h=>by omega⟩
 obtain⟨k,hk,hm,h3,rfl,hz,a2⟩:=hI;refine zQ 3 _ h3 nu (zn9 ?_);refine zZ rfl (fun c17=>?_) (fun c17=>?_)
 ·refine zn5 ?_;refine xj (rg [4] 20 10) 4 (.bool (decide (97<=(s[k]'oG).toNat/\(s[k]'oG).toNat<=122))) nu ?_ (fun gq=>?_)
  ·refine zn3 ?_;refine wl (Kx (i:=k) U9 rfl rfl oG) (zn2 ?_);refine zk 24 rfl (fun g24=>?_) (fun g24=>?_)
   ·refine zn5 ?_;refine wl (Kx (i:=k) U9 rfl rfl oG) (zn4 ?_);exact xq
   refine zn6 ?_;exact xq
  refine e_S (xQ ?_);refine xj (rg [5] 30 22) 5 (.bool (decide ((48<=(s[k]'oG).toNat/\(s[k]'oG).toNat<=57)\/(s[k]'oG).toNat=95\/(s[k]'oG).toNat=45))) nu ?_ (fun gq=>?_)
  ·refine zn3 ?_;refine wl (Kx (i:=k) U9 rfl rfl oG) (zn2 ?_);refine zk 34 rfl (fun g34=>?_) (fun g34=>?_)
   ·refine zn5 ?_;refine wl (Kx (i:=k) U9 rfl rfl oG) (zn4 ?_);refine zk 40 rfl (fun g40=>?_) (fun g40=>?_)
    ·refine yZ ?_;exact xq
    refine zn5 ?_;refine wl (Kx (i:=k) U9 rfl rfl oG) (zn4 ?_);refine zk 46 rfl (fun a3=>?_) (fun a3=>?_)
    ·refine zn6 ?_;exact xq
    refine zn5 ?_;refine wl (Kx (i:=k) U9 rfl rfl oG) (zn4 ?_);exact xq
   refine vJ ?_;refine wl (Kx (i:=k) U9 rfl rfl oG) (zn4 ?_);refine zk 46 rfl (fun a3=>?_) (fun a3=>?_)
   ·refine zn6 ?_;exact xq
   refine zn5 ?_;refine wl (Kx (i:=k) U9 rfl rfl oG) (zn4 ?_);exact xq
  refine e_S (xQ ?_);refine xj (rg [] 52 10) 61 (.bool (decide (¬(97<=(s[k]'oG).toNat/\(s[k]'oG).toNat<=122)/\(¬((48<=(s[k]'oG).toNat/\(s[k]'oG).toNat<=57)\/(s[k]'oG).toNat=95\/(s[k]'oG).toNat=45)\/k=0)))) nu ?_ (fun gq=>?_)
  ·refine zn4 ?_;refine zk 54 rfl (fun g54=>?_) (fun g54=>?_)
   ·refine zn6 ?_;refine zk 57 rfl (fun g57=>?_) (fun g57=>?_)
    ·refine zn5 ?_;exact xq
    refine zn7 ?_;exact xq
   refine zn7 ?_;exact xq
  refine e_S ?_;refine zZ rfl (fun c61=>?_) (fun c61=>?_)
  ·have hno:¬((97<=c0/\c0<=122)/\∀ j (hj:j<s.size),Q6 (s[j]'hj)=true):=fun h=>by
     have h1:=(QZ _).1 (h.2 k oG);have h2:k=0:=by omega
     subst h2;have:=e0 oG;omega
   refine yZ ?_;exact⟨jQ (by rw[hN.out];exact ap (fun h=>hno h.2)),rfl⟩
  have hz':97<=c0/\c0<=122:=by
    by_cases e:k=0
    · subst e;have:=e0 oG;omega
    · exact hz oG
  have a1:∀ j (hj:j<s.size),j<k+1->Q6 (s[j]'hj)=true:=fun j hj h=>by
    by_cases e:j=k
    · subst e;exact(QZ _).2 oG
    · exact a2 j hj oG
  refine zn8 ?_;refine x9 (s.size-(k+1)) oG agA ?_;exact⟨k+1,by omega,rfl,rfl,rfl,fun _=>hz',fun j hj h=>a1 j hj h⟩
 refine yZ ?_;exact⟨jQ (by rw[hN.out];exact aj ⟨by omega,hz oG,fun j hj=>a2 j hj oG⟩),rfl⟩
end
theorem in119:(prog.info? 119).map (fun i=>(i.zero,i.size,i.bytes))=some (some (.agg #[.int .i64 0,.string ⟨#[]⟩,.int .i64 0,.string ⟨#[]⟩,.slice none 0 0,.slice none 0 0,.int .i64 0,.int .i64 0]),8,112):=by kernel_rfl
theorem Rj:(prog.info? 119).map (·.size)=some 8:=by kernel_rfl
theorem ze119:(prog.info? 119).map (·.zero)=some (some (.agg #[.int .i64 0,.string ⟨#[]⟩,.int .i64 0,.string ⟨#[]⟩,.slice none 0 0,.slice none 0 0,.int .i64 0,.int .i64 0])):=by kernel_rfl
theorem ze34:(prog.info? 34).map (·.zero)=some (some (.agg cG)):=by kernel_rfl
set_option maxRecDepth 100000 in
set_option maxHeartbeats 8000000 in
theorem MW(A B:Option Addr)(c mB:Nat)(t:Tm)(w:World)(hS:SimsIn w A t.type.args)(hT:TmsIn w B t.args):Calls prog 37 #[.agg (cD (t) A c B mB)] w fun e w'=>e= .returned (flV (tmF t))/\Bel w w':=by
 have hR0:twk t 1 0 0=tst [(t,1,0)] 0:=(tst_one t 1 0 0).symm;refine enT func37 ntmps37 rfl rfl fun hB=>?_;refine zn2 ?_;refine qv (cs:=#[_,_,_,_,_,_]) rfl (fun b1 w1 a3 s1 hr=>?_);refine qQ (cs:=#[.int .i64 0,.int .i64 0]) qV rfl (fun b2 w2 a1 s2 hr=>?_);have cd:=hB.u.ob hr;refine zn5 ?_;refine wl (Ix (v0:= .agg _) (v1:= .int _ _) (v2:= .int _ _) (fun v0 v1 v2=>#[(qy v0 0),(qy v0 1),(qy v0 2),(qy v0 3),(qy v0 4),(qy v0 5),v1,v2]) rfl rfl rfl kR) ?_;refine qZ (cs:=#[_,_,_,_,_,_,_,_]) [(0,.agg _)] rfl U120 Rj ze119 dE dE kR rfl (fun b16 w3 cp s3 hr=>?_);have ce:=hB.u.ob hr;refine yj ?_;refine qz (rg (rg [] 3 9) 17 151) (fun mm g w'=>∃(st:List (Tm×Nat×Nat)) (vs:List Value) (q b4 n:Nat),mm=201-n/\n<=200/\st.length<=2*n+1/\g 3= .slice (some ⟨q,0,none⟩) st.length b4/\g 4= .int .i64 n/\Bel w w'/\Blk w' b1 34 (cD (t) A c B mB)/\Blk w' b2 45 #[.int .i64 0,.int .i64 0]/\Own w' w.heap.size 119 8 (some ⟨q,0,none⟩) st.length b4 vs/\StkT w st vs/\twk t 1 0 0=tst st.reverse n/\∀ x∈st,x.2.2<x.2.1) (201) ?_ (fun m g3 w4 hI=>?_)
 ·replace hB:=hB.tr0 (s1.t (s2.t s3));replace a3:=a3.tr0 (s2.t s3);replace a1:=a1.tr0 s3;exact⟨[(t,1,0)],_,_,_,0,rfl,by omega,by simp,rfl,rfl,hB,a3,a1,V6 (m:=1) cp ce rfl dE,.snoc .nil hS hT,hR0,fun x hx=>by rw[List.mem_singleton.1 hx];exact Nat.zero_lt_one⟩
 obtain⟨st,vs,q,b4,n,hm,hn,hsl,h3,h4,hB,a3,a1,ho,cf,hR,c5⟩:=hI;have ao:=Xv ho a3 dE;have an:=Xv ho a1 dE;refine zQ 3 _ h3 nu (zQ 4 _ h4 nu (zn8 ?_));refine zZ rfl (fun c19=>?_) (fun c19=>?_)
 ·obtain⟨ac,c2,t1,d1,e1,A1,B1,c1,m1,rfl,rfl,be,hs1,ht1⟩:=cf.pop oG;have bj:(ac++[(t1,d1,e1)]).length=ac.length+1:=by simp
  rw[Iz]at hR;have hbd1:e1<d1:=c5 (t1,d1,e1) (List.mem_append_right _ (ar.2 rfl));replace c5:∀ x∈ac,x.2.2<x.2.1:=fun x hx=>c5 x (List.mem_append_left _ hx)
  refine zn9 ?_;refine wl (jJ (c:=(ac.length:Int)) rfl rfl (by rw[bj];omega) oG) (wl (x7 (i:=ac.length) U120 Rj rfl rfl (by rw[bj];omega) rfl) (wl (qw U119 rfl rfl (own_top ho be.len) Rj) ?_));refine y8 (cs:=#[.int .i64 0,.string ⟨#[]⟩,.int .i64 0,.string ⟨#[]⟩,.slice none 0 0,.slice none 0 0,.int .i64 0,.int .i64 0]) ze119 rfl (fun _=>rfl) (fun _=>rfl) Rj rfl xW (fun b5 w6 a4 s4 hr=>?_);have a5:=ho.ob hr;refine zn7 ?_;refine wl (jJ (c:=(ac.length:Int)) rfl rfl (by rw[bj];omega) oG) ?_;replace ho:=ho.tr0 s4;refine wl (MX (h:=ac.length) U120 Rj rfl rfl (by have:=ho.cap_le;omega)) (zn4 ?_);replace hB:=hB.tr0 s4;replace a3:=a3.tr0 s4;replace a1:=a1.tr0 s4;replace ho:Own w6 w.heap.size 119 8 (some ⟨q,0,none⟩) ac.length b4 c2:=by
    have h:=ho.take (k':=ac.length) oG oG
    rwa[List.take_append_of_le_length (by rw[be.len];exact ai _),aX (by rw[be.len];exact ai _)]at h
  refine zn2 ?_;refine wl (qw U34 rfl rfl (a4.sub (n:=6) (xs:=[_,_,_,_,_,_]) rfl) X7) ?_;refine y8 (cs:=cG) ze34 rfl (fun _=>rfl) (fun _=>rfl) X7 rfl xW (fun b6 w8 a2 s5 hr=>?_);have ad:=ho.ob hr;refine zn9 ?_;replace hB:=hB.tr0 s5;replace a3:=a3.tr0 s5;replace a1:=a1.tr0 s5;replace ho:=ho.tr0 s5;replace a4:=a4.tr0 s5;refine xj [35,36,37,38,39,40,41] 41 (.bool (decide (200<n+1\/40<d1))) nu ?_ (fun gq=>?_)
  ·refine zn4 ?_;refine zk 37 rfl (fun g37=>?_) (fun g37=>?_)
   ·refine zn4 ?_;exact xq
   refine zn7 ?_;exact xq
  refine e_S ?_;refine xv (rg [7,8,9] 42 93) (fun g w'=>g 7= .int .i64 (ndX n d1 e1 t1)/\Bel w w'/\Blk w' b1 34 (cD (t) A c B mB)/\Blk w' b2 45 #[.int .i64 0,.int .i64 0]/\Blk w' b5 119 #[.int .i64 (t1).kind,.string (t1).name,.int .i64 (t1).index,.string (t1).type.base,.slice A1 (t1).type.args.length c1,.slice B1 (t1).args.length m1,.int .i64 (d1:Nat),.int .i64 (e1:Nat)]/\Blk w' b6 34 (cD t1 A1 c1 B1 m1)/\Own w' w.heap.size 119 8 (some ⟨q,0,none⟩) ac.length b4 c2) ?_ (fun gx1 w9 hI=>?_)
  ·refine zZ rfl (fun c0=>?_) (fun c0=>?_)
   ·have b9:(ndX n d1 e1 t1)=1:=if_pos c0;refine zn3 ?_;refine e_R ⟨agA,?_⟩;exact⟨by rw[b9];rfl,hB,a3,a1,a4,a2,ho⟩
   refine xQ ?_;refine xj (rg [] 42 8) 49 (.bool (decide (t1.kind<1\/4<t1.kind))) nu ?_ (fun gq=>?_)
   ·refine zn5 ?_;refine zk 45 rfl (fun g45=>?_) (fun g45=>?_)
    ·refine zn4 ?_;exact xq
    refine zn7 ?_;exact xq
   refine e_S ?_;refine zZ rfl (fun c49=>?_) (fun c49=>?_)
   ·have b9:=ndX_4 (b:=e1) c0 c49;refine zn3 ?_;refine e_R ⟨agA,?_⟩;exact⟨by rw[b9];rfl,hB,a3,a1,a4,a2,ho⟩
   obtain⟨kk,c4⟩:∃ kk:Nat,t1.kind=kk:=⟨t1.kind.toNat,by omega⟩
   have h1k:1<=kk:=by omega
   have h4k:kk<=4:=by omega
   refine xQ ?_;rw[c4]at a2;refine Qq ?_;refine qZ (cs:=#[_,_,_,_,_]) [(0,.int _ _),(1,.int _ _),(2,.int _ _),(3,.int _ _),(4,.int _ _)] rfl U62 qq ZV dE dE kR rfl (fun b50 c8 co s6 hr=>?_);refine zn3 ?_;refine wl (qj (v:= .int _ _) U3 rfl rfl (co.cell (arg_at oG))) (zn4 ?_);replace a2:=a2.tr0 s6;rw[<- c4]at a2;replace ho:=ho.tr0 s6;refine xv (rg [9] 55 40) (fun g w'=>(g 9= .bool (decide (zOk kk t1)))/\Same [] c8 w') ?_ (fun g14 c7 hI=>?_)
   ·have hZ:SameQ [] c8 c8:=Same.refl _ _;refine zn7 ?_;refine zk 60 rfl (fun g60=>?_) (fun g60=>?_)
    ·refine zn8 ?_;refine zk 64 rfl (fun g64=>?_) (fun g64=>?_)
     ·refine Ky ?_;refine zk 74 rfl (fun cw=>?_) (fun cw=>?_)
      ·refine Ky ?_;refine zk 84 rfl (fun bn=>?_) (fun bn=>?_)
       ·refine Ky ?_;refine e_R ⟨agA,?_⟩;refine⟨?_,hZ⟩;simp only[zOk]
        exact ae
       refine yj ?_;refine zk 89 rfl (fun bm=>?_) (fun bm=>?_)
       ·refine zn8 ?_;refine e_R ⟨agA,?_⟩;refine⟨?_,hZ⟩;simp only[zOk]
        exact ae
       refine zn3 ?_;refine wl (qw U31 rfl rfl (a2.sub (n:=2) (xs:=[_,_]) rfl) vj) (zn1 ?_);refine zW kR (K1 A1 c1 t1.type _) rfl (fun e' w12 hr=>?_);obtain⟨rfl,s7⟩:=hr;replace s7:=sB s7;replace hZ:=SameQ.trans hZ s7 (by simp);refine⟨_,rfl,?_⟩;refine zn5 ?_;refine e_R ⟨agA,?_⟩;refine⟨?_,hZ⟩;simp only[zOk]
       exact ae
      refine yj ?_;refine zk 80 rfl (fun cv=>?_) (fun cv=>?_)
      ·refine zn8 ?_;refine zk 84 rfl (fun bn=>?_) (fun bn=>?_)
       ·refine Ky ?_;refine e_R ⟨agA,?_⟩;refine⟨?_,hZ⟩;simp only[zOk]
        exact ae
       refine yj ?_;refine zk 89 rfl (fun bm=>?_) (fun bm=>?_)
       ·refine zn8 ?_;refine e_R ⟨agA,?_⟩;refine⟨?_,hZ⟩;simp only[zOk]
        exact ae
       refine zn3 ?_;refine wl (qw U31 rfl rfl (a2.sub (n:=2) (xs:=[_,_]) rfl) vj) (zn1 ?_);refine zW kR (K1 A1 c1 t1.type _) rfl (fun e' w13 hr=>?_);obtain⟨rfl,s8⟩:=hr;replace s8:=sB s8;replace hZ:=SameQ.trans hZ s8 (by simp);refine⟨_,rfl,?_⟩;refine zn5 ?_;refine e_R ⟨agA,?_⟩;refine⟨?_,hZ⟩;simp only[zOk]
       exact ae
      refine Jq ?_;refine e_R ⟨agA,?_⟩;refine⟨?_,hZ⟩;simp only[zOk]
      exact ae
     refine yj ?_;refine zk 70 rfl (fun g70=>?_) (fun g70=>?_)
     ·refine zn8 ?_;refine zk 74 rfl (fun cw=>?_) (fun cw=>?_)
      ·refine Ky ?_;refine zk 84 rfl (fun bn=>?_) (fun bn=>?_)
       ·refine Ky ?_;refine e_R ⟨agA,?_⟩;refine⟨?_,hZ⟩;simp only[zOk]
        exact ae
       refine yj ?_;refine zk 89 rfl (fun bm=>?_) (fun bm=>?_)
       ·refine zn8 ?_;refine e_R ⟨agA,?_⟩;refine⟨?_,hZ⟩;simp only[zOk]
        exact ae
       refine zn3 ?_;refine wl (qw U31 rfl rfl (a2.sub (n:=2) (xs:=[_,_]) rfl) vj) (zn1 ?_);refine zW kR (K1 A1 c1 t1.type _) rfl (fun e' w14 hr=>?_);obtain⟨rfl,s9⟩:=hr;replace s9:=sB s9;replace hZ:=SameQ.trans hZ s9 (by simp);refine⟨_,rfl,?_⟩;refine zn5 ?_;refine e_R ⟨agA,?_⟩;refine⟨?_,hZ⟩;simp only[zOk]
       exact ae
      refine yj ?_;refine zk 80 rfl (fun cv=>?_) (fun cv=>?_)
      ·refine zn8 ?_;refine zk 84 rfl (fun bn=>?_) (fun bn=>?_)
       ·refine Ky ?_;refine e_R ⟨agA,?_⟩;refine⟨?_,hZ⟩;simp only[zOk]
        exact ae
       refine yj ?_;refine zk 89 rfl (fun bm=>?_) (fun bm=>?_)
       ·refine zn8 ?_;refine e_R ⟨agA,?_⟩;refine⟨?_,hZ⟩;simp only[zOk]
        exact ae
       refine zn3 ?_;refine wl (qw U31 rfl rfl (a2.sub (n:=2) (xs:=[_,_]) rfl) vj) (zn1 ?_);refine zW kR (K1 A1 c1 t1.type _) rfl (fun e' w15 hr=>?_);obtain⟨rfl,cc⟩:=hr;replace cc:=sB cc;replace hZ:=SameQ.trans hZ cc (by simp);refine⟨_,rfl,?_⟩;refine zn5 ?_;refine e_R ⟨agA,?_⟩;refine⟨?_,hZ⟩;simp only[zOk]
       exact ae
      refine Jq ?_;refine e_R ⟨agA,?_⟩;refine⟨?_,hZ⟩;simp only[zOk]
      exact ae
     refine zn26 ?_;refine e_R ⟨agA,?_⟩;refine⟨?_,hZ⟩;simp only[zOk]
     exact ae
    refine zn30 ?_;refine zn6 ?_;refine e_R ⟨agA,?_⟩;refine⟨?_,hZ⟩;simp only[zOk]
    exact ae
   obtain⟨h9,a8⟩:=hI;refine vZ 9 _ h9 nu (zn7 ?_);replace ho:=ho.tr0 a8;refine zZ rfl (fun d5=>?_) (fun d5=>?_)
   ·have b9:=ndX_5 (b:=e1) c0 c4 h1k h4k d5;refine zn3 ?_;refine e_R ⟨agA,?_⟩;replace hB:=hB.tr0 (s6.t a8);replace a3:=a3.tr0 (s6.t a8);replace a1:=a1.tr0 (s6.t a8);replace a4:=a4.tr0 (s6.t a8);replace a2:=a2.tr0 a8;exact⟨by rw[b9];rfl,hB,a3,a1,a4,a2,ho⟩
   have hzk:zOk kk t1:=au.1 d5;have bk:=ndX_z (b:=e1) c0 c4 h1k h4k hzk;refine xQ ?_;refine xv (rg [] 97 9) (fun g w'=>(g 105= .bool (decide (kk=1/\¬vY t1.name=true)))/\Same [] c7 w') ?_ (fun g17 c6 hI=>?_)
   ·have hZ:SameQ [] c7 c7:=Same.refl _ _;refine zn5 ?_;refine zk 100 rfl (fun d3=>?_) (fun d3=>?_)
    ·refine zn5 ?_;refine zW kR (name1_any _ _) rfl (fun e' w17 hr=>?_);obtain⟨rfl,rfl⟩:=hr;refine⟨_,rfl,?_⟩;refine zn4 ?_;refine e_R ⟨agA,?_⟩;refine⟨?_,hZ⟩
     exact ae
    refine zn6 ?_;refine e_R ⟨agA,?_⟩;refine⟨?_,hZ⟩
    exact ae
   obtain⟨cu,b3⟩:=hI;refine vZ 105 _ cu nu (e_S ?_);replace ho:=ho.tr0 b3;refine zZ rfl (fun bt=>?_) (fun bt=>?_)
   ·have b9:(ndX n d1 e1 t1)=10:=by rw[bk,if_pos bt.1,if_neg bt.2]
    refine zn3 ?_;refine e_R ⟨agA,?_⟩;replace hB:=hB.tr0 (s6.t (a8.t b3));replace a3:=a3.tr0 (s6.t (a8.t b3));replace a1:=a1.tr0 (s6.t (a8.t b3));replace a4:=a4.tr0 (s6.t (a8.t b3));replace a2:=a2.tr0 (a8.t b3);exact⟨by rw[b9];rfl,hB,a3,a1,a4,a2,ho⟩
   refine xQ ?_;refine xv (rg [] 106 14) (fun g w'=>(g 119= .bool (decide ((kk=1\/kk=3)/\smF t1.type≠0)))/\Same [] c6 w') ?_ (fun g19 w18 hI=>?_)
   ·have hZ:SameQ [] c6 c6:=Same.refl _ _;refine zn5 ?_;refine zk 109 rfl (fun d2=>?_) (fun d2=>?_)
    ·refine zn8 ?_;refine wl (qw U31 rfl rfl (a2.u.sub (n:=2) (xs:=[_,_]) rfl) vj) (zn1 ?_);refine zW kR (Bj A1 c1 t1.type _ (hs1.mono hB.u)) rfl (fun e' w19 hr=>?_);obtain⟨rfl,cb⟩:=hr;replace cb:=sB cb;replace hZ:=SameQ.trans hZ cb (by simp);refine⟨_,rfl,?_⟩;refine zn4 ?_;refine e_R ⟨agA,?_⟩;refine⟨?_,hZ⟩
     exact ae
    refine zn8 ?_;refine zk 114 rfl (fun cz=>?_) (fun cz=>?_)
    ·refine zn3 ?_;refine wl (qw U31 rfl rfl (a2.u.sub (n:=2) (xs:=[_,_]) rfl) vj) (zn1 ?_);refine zW kR (Bj A1 c1 t1.type _ (hs1.mono hB.u)) rfl (fun e' w20 hr=>?_);obtain⟨rfl,ca⟩:=hr;replace ca:=sB ca;replace hZ:=SameQ.trans hZ ca (by simp);refine⟨_,rfl,?_⟩;refine zn4 ?_;refine e_R ⟨agA,?_⟩;refine⟨?_,hZ⟩
     exact ae
    refine zn6 ?_;refine e_R ⟨agA,?_⟩;refine⟨?_,hZ⟩
    exact ae
   obtain⟨cr,bb⟩:=hI;refine vZ 119 _ cr nu (e_S ?_);replace ho:=ho.tr0 bb;refine zZ rfl (fun d8=>?_) (fun d8=>?_)
   ·have b9:(ndX n d1 e1 t1)=12:=by rw[bk];clear bk;grind
    refine zn3 ?_;refine e_R ⟨agA,?_⟩;replace hB:=hB.tr0 (s6.t (a8.t (b3.t bb)));replace a3:=a3.tr0 (s6.t (a8.t (b3.t bb)));replace a1:=a1.tr0 (s6.t (a8.t (b3.t bb)));replace a4:=a4.tr0 (s6.t (a8.t (b3.t bb)));replace a2:=a2.tr0 (a8.t (b3.t bb));exact⟨by rw[b9];rfl,hB,a3,a1,a4,a2,ho⟩
   refine xQ ?_;replace hB:=hB.tr0 (s6.t (a8.t (b3.t bb)));replace a3:=a3.tr0 (s6.t (a8.t (b3.t bb)));replace a1:=a1.tr0 (s6.t (a8.t (b3.t bb)));replace a4:=a4.tr0 (s6.t (a8.t (b3.t bb)));replace a2:=a2.tr0 (a8.t (b3.t bb));refine xj (rg [] 120 15) 134 (.bool (decide (kk=2/\(t1.index<0\/(e1:Int)<=t1.index)))) nu ?_ (fun gq=>?_)
   ·refine zn5 ?_;refine zk 123 rfl (fun cy=>?_) (fun cy=>?_)
    ·refine zn8 ?_;refine zk 127 rfl (fun cx=>?_) (fun cx=>?_)
     ·refine zn8 ?_;refine gk ?_
      exact ae
     refine uJ ?_;refine gk ?_
     exact ae
    refine vJ ?_;refine gk ?_
    exact ae
   refine e_S ?_;refine zZ rfl (fun d7=>?_) (fun d7=>?_)
   ·have b9:(ndX n d1 e1 t1)=15:=by rw[bk];clear bk;grind
    refine zn3 ?_;refine e_R ⟨agA,?_⟩;exact⟨by rw[b9];rfl,hB,a3,a1,a4,a2,ho⟩
   have b9:(ndX n d1 e1 t1)=0:=by rw[bk];clear bk;grind
   refine QK ?_;refine e_R ⟨agA,?_⟩;exact⟨by rw[b9];rfl,hB,a3,a1,a4,a2,ho⟩
  obtain⟨h7,hB,a3,a1,a4,a2,ho⟩:=hI;refine vZ 7 _ h7 nu (zn8 ?_);refine zZ rfl (fun bf=>?_) (fun bf=>?_)
  ·rw[ndX_bad bf]at hR;have hF:tmF t=((ndX n d1 e1 t1),(n:Int)):=by rw[NV (by rw[hR];exact bf),hR]
   refine zn4 ?_;refine vy ?_;refine zV a1 (fun w21 hq s16=>?_);replace a1:=hq;refine zn9 ?_;refine xK (.inl rfl) rfl (zX U45 rfl rfl a1.range0 zK) ?_;replace hB:=hB.tr1 s16 cd;exact⟨by rw[hF];rfl,hB⟩
  obtain⟨cq,⟨hd40,hn200⟩,cn⟩:=ndX_go (r:=ac.reverse) (au.1 bf);rw[cq]at hR;have hal:=ndC_len cn;refine Nk ?_;refine xv [10,145,146] (fun g w'=>g 10= .int .i64 ((inB t1 e1:Nat):Int)/\Bel w w'/\Blk w' b1 34 (cD (t) A c B mB)/\Blk w' b2 45 #[.int .i64 0,.int .i64 0]/\Blk w' b5 119 #[.int .i64 (t1).kind,.string (t1).name,.int .i64 (t1).index,.string (t1).type.base,.slice A1 (t1).type.args.length c1,.slice B1 (t1).args.length m1,.int .i64 (d1:Nat),.int .i64 (e1:Nat)]/\Blk w' b6 34 (cD t1 A1 c1 B1 m1)/\Own w' w.heap.size 119 8 (some ⟨q,0,none⟩) ac.length b4 c2) ?_ (fun gx2 w22 hI=>?_)
  ·refine zZ rfl (fun br=>?_) (fun br=>?_)
   ·have cm:inB t1 e1=e1+1:=if_pos br;refine zn5 ?_;refine e_R ⟨agA,?_⟩;exact⟨by rw[cm];rfl,hB,a3,a1,a4,a2,ho⟩
   have cm:inB t1 e1=e1:=if_neg br;refine QK ?_;refine e_R ⟨agA,?_⟩;exact⟨by rw[cm];rfl,hB,a3,a1,a4,a2,ho⟩
  obtain⟨h10,hB,a3,a1,a4,a2,ho⟩:=hI;refine vZ 10 _ h10 nu (zn6 ?_);refine wl (jJ rfl rfl rfl oG) (zn4 ?_);refine qz (rg [3,11] 151 17) (fun mm g w'=>∃(i:Nat) (z:Int) (ab:List (Tm×Nat×Nat)) (bu:List Value) (q2 bo:Nat),i<=t1.args.length/\mm=i/\z+1=i/\g 11= .int .i64 z/\g 3= .slice (some ⟨q2,0,none⟩) ab.length bo/\ab.length=ac.length+(t1.args.length-i)/\ab.reverse=(t1.args.drop i).map (fun y=>(y,d1+1,inB t1 e1))++ac.reverse/\Bel w w'/\Blk w' b1 34 (cD (t) A c B mB)/\Blk w' b2 45 #[.int .i64 0,.int .i64 0]/\Blk w' b5 119 #[.int .i64 (t1).kind,.string (t1).name,.int .i64 (t1).index,.string (t1).type.base,.slice A1 (t1).type.args.length c1,.slice B1 (t1).args.length m1,.int .i64 (d1:Nat),.int .i64 (e1:Nat)]/\Blk w' b6 34 (cD t1 A1 c1 B1 m1)/\Own w' w.heap.size 119 8 (some ⟨q2,0,none⟩) ab.length bo bu/\StkT w ab bu/\(∀ x∈ab,x.2.2<x.2.1)/\∀ g∈aL (some (⟨q2,0,none⟩:Addr)),g≠b5) (t1.args.length) ?_ (fun m g29 w23 hI=>?_)
  ·exact⟨t1.args.length,_,ac,c2,q,b4,ai _,rfl,by omega,rfl,rfl,by omega,by rw[List.drop_length];rfl,hB,a3,a1,a4,a2,ho,be,c5,fun g hg=>by have:=a5 g hg;omega⟩
  obtain⟨i,z,ab,bu,q2,bo,hi,hmi,hzi,h11,h3,hl2,ck,hB,a3,a1,a4,a2,ho,bh,bx,a5⟩:=hI;have ao:=Xv ho a3 dE;have an:=Xv ho a1 dE;have ad:=Xv ho a2 dE;refine zQ 11 _ h11 nu (zQ 3 _ h3 nu (zn7 ?_));refine zZ rfl (fun d6=>?_) (fun d6=>?_)
  ·obtain⟨p,rfl⟩:∃ p:Nat,z=p:=⟨z.toNat,by omega⟩
   obtain rfl:i=p+1:=by omega
   have a9:p<t1.args.length:=by omega
   obtain⟨tb,to,A9,c9,B9,m9,rfl,htb,htr,hs9,ht9⟩:=ht1.at_ a9;have cj:(ab++[((t1.args[p]'a9),d1+1,inB t1 e1)]).reverse=(t1.args.drop p).map (fun y=>(y,d1+1,inB t1 e1))++ac.reverse:=by
     rw[Iz,ck,List.drop_eq_getElem_cons a9];rfl
   refine zn4 ?_;have zo:=fun g hg=>(ho.lt g hg).2
   have lt5W:=a4.lt;refine gY [] [12] [0,1,2,3,4,5,6,7,8,9,10,11,12,13] rfl (fun w24 bi=>?_);have cg:=bi;refine zn4 ?_;refine hl rfl (fun _=>x7 (i:=p) U32 X7 rfl rfl a9 rfl) (zn5 ?_);refine hl rfl (fun _=>Ix (v0:= .agg _) (v1:= .int _ _) (v2:= .int _ _) (fun v0 v1 v2=>#[(qy v0 0),(qy v0 1),(qy v0 2),(qy v0 3),(qy v0 4),(qy v0 5),v1,v2]) rfl rfl rfl kR) (h1 rfl ?_);refine qZ (cs:=#[_,_,_,_,_,_,_,_]) [(0,.agg _)] rfl U120 Rj ze119 dE dE kR rfl (fun b166 w25 bz bg hr=>?_);have:=a3.u.ob hr;have:=a1.u.ob hr;have:=a4.u.ob hr;have:=a2.u.ob hr;have bv:=bg;refine qY (KQ bv (h1 rfl ?_));replace ho:=ho.tr0 (bi.t bg);refine vV U120 in119 rfl dE ho bz rfl rfl rfl xW dE oG oG (Bel.size hB.u) (fun ba b7 w26 bc bw bd=>?_);replace hB:=hB.tr0 (bi.t bg);replace hB:=hB.tr bw (fun g hg=>nLT (ai _) (ho.lt g hg).1);replace a3:=a3.tr0 (bi.t bg);replace a3:=a3.tb bw (fun g hg=>by have:=ao g hg;omega);replace a1:=a1.tr0 (bi.t bg);replace a1:=a1.tb bw (fun g hg=>by have:=an g hg;omega);replace a4:=a4.tr0 (bi.t bg);replace a4:=a4.tb bw (fun g hg=>by have:=a5 g hg;omega);replace a2:=a2.tr0 (bi.t bg);replace a2:=a2.tb bw (fun g hg=>by have:=ad g hg;omega);replace cg:=cg.t bg;obtain⟨ba,b7,d4,bc,bd⟩:∃ g cap,(.slice (some ⟨ba,0,none⟩) (ab.length+1) b7:Value)= .slice (some ⟨g,0,none⟩) (ab.length+1) cap/\Own w26 w.heap.size 119 8 (some ⟨g,0,none⟩) (ab.length+1) cap (bu++[.int .i64 ((t1.args[p]'a9)).kind,.string ((t1.args[p]'a9)).name,.int .i64 ((t1.args[p]'a9)).index,.string ((t1.args[p]'a9)).type.base,.slice A9 ((t1.args[p]'a9)).type.args.length c9,.slice B9 ((t1.args[p]'a9)).args.length m9,.int .i64 ((d1:Nat)+1:Int),.int .i64 ((inB t1 e1:Nat):Int)])/\(g=q2\/w23.heap.size<=g):=⟨_,_,rfl,bc,bd.imp (fun h=>(List.singleton_inj.1 h).symm) (fun h=>nLT cg.size h)⟩
   cases d4;refine qY (O9 [] ?_);have q1:(ab++[((t1.args[p]'a9),d1+1,inB t1 e1)]).length=ab.length+1:=by simp
   have ho:Own w26 w.heap.size 119 8 (some ⟨ba,0,none⟩) (ab++[((t1.args[p]'a9),d1+1,inB t1 e1)]).length b7 (bu++[.int .i64 ((t1.args[p]'a9)).kind,.string ((t1.args[p]'a9)).name,.int .i64 ((t1.args[p]'a9)).index,.string ((t1.args[p]'a9)).type.base,.slice A9 ((t1.args[p]'a9)).type.args.length c9,.slice B9 ((t1.args[p]'a9)).args.length m9,.int .i64 ((d1:Nat)+1:Int),.int .i64 ((inB t1 e1:Nat):Int)]):=by rw[q1];exact bc
   have b8:∀ g∈aL (some (⟨ba,0,none⟩:Addr)),g≠b5:=fun g hg=>by
     rw[List.mem_singleton.1 hg];rcases bd with h|h
     · show ba≠b5
       rw[h];exact a5 q2 (ar.2 rfl)
     · show ba≠b5
       omega
   refine zn6 ?_;refine wl (jJ rfl rfl rfl oG) (zn2 ?_);refine x9 (p) oG agA ?_
   exact⟨p,_,ab++[((t1.args[p]'a9),d1+1,inB t1 e1)],_,_,_,by omega,rfl,by omega,rfl,(by rw[q1];rfl),(by rw[q1,hl2];omega),cj,hB,a3,a1,a4,a2,ho,.snoc bh hs9 ht9,(fun x hx=>by
     rcases aD.1 hx with h|h
     · exact bx x h
     · rw[List.mem_singleton.1 h];show inB t1 e1<d1+1;have:=inB_le t1 e1;omega),b8⟩
  obtain rfl:i=0:=by omega
  rw[List.drop_zero]at ck;have cq:twk t 1 0 0=tst ab.reverse (n+1):=by rw[hR,ck]
  have hl3:ab.length=ac.length+t1.args.length:=by rw[hl2,Nat.sub_zero]
  refine vJ ?_;refine x9 (201-(n+1)) oG agA ?_;exact⟨ab,bu,_,_,n+1,rfl,by omega,by omega,rfl,rfl,hB,a3,a1,ho,bh,cq,bx⟩
 have hst:st= []:=aM.1 oG;subst hst;have hz:(twk t 1 0 0).2.1=0:=by rw[hR];rfl
 obtain⟨tv,rfl,hok,_,hv2⟩:=OV t 1 0 0 hz;have hF:=tmF_ok hz;refine zn9 ?_;refine zW kR (typeof_any tv A B c mB _ _ (Below.refl _ _) (hS.mono hB) (hT.mono hB) oG hok) rfl (fun e' w27 hr=>?_);obtain⟨⟨sX,AX,nX,cX,rfl,_⟩,c3⟩:=hr;replace c3:=sB c3;refine⟨_,rfl,?_⟩;refine wmT rfl (wl (yW (v:= .agg _) rfl rfl) (wl (yW (v:= .bool _) rfl rfl) ?_));refine y8 (cs:=#[.string ⟨#[]⟩,.slice none 0 0]) KJ rfl (fun _=>rfl) (fun _=>rfl) vj rfl xW (fun b12 w29 hb12 s20 hr=>?_);refine zn9 ?_;refine jv rfl (fun bq=>?_) (fun bq=>?_)
 ·rw[if_neg (by simpa using bq)]at hF;refine zn2 ?_;refine vy ?_;refine zV a1.u (fun w30 hq s21=>?_);replace a1:=hq;refine zn4 ?_;refine xK (.inl rfl) rfl (zX U45 rfl rfl a1.range0 zK) ?_;replace hB:=(hB.tr0 (c3.t s20)).tr1 s21 cd;exact⟨by rw[hF];rfl,hB⟩
 rw[if_pos (by simpa using bq)]at hF;refine zn4 ?_;refine jW (cs:=#[.int .i64 0,.int .i64 0]) ?_;refine zV a1.u (fun w31 hq s22=>?_);replace a1:=hq;refine zn3 ?_;refine xK (.inl rfl) rfl (zX U45 rfl rfl a1.range0 zK) ?_;replace hB:=(hB.tr0 (c3.t s20)).tr1 s22 cd;exact⟨by rw[hF];rfl,hB⟩
theorem mfault_any(SA BA:Option Addr)(cs mB:Nat)(t:Tm)(w:World)(hS:SimsIn w SA t.type.args)(hT:TmsIn w BA t.args):Calls prog 38 #[.agg (cD (t) SA cs BA mB)] w fun e w'=>e= .returned (flV (tmF t))/\Bel w w':=by
 refine enT func38 ntmps38 rfl rfl fun hB=>?_;refine zn2 ?_;refine qv (cs:=#[_,_,_,_,_,_]) rfl (fun b1 w1 hb1 s1 hr=>?_);refine qQ (cs:=#[.int .i64 0,.int .i64 0]) qV rfl (fun b2 w2 a1 s2 hr=>?_);have lo2:=hB.u.ob hr;refine zn5 ?_;refine a7 kR (MW SA BA cs mB t _ (hS.mono hB.u) (hT.mono hB.u)) rfl (fun w3 s3=>?_);refine zV a1.u (fun w4 hq s4=>?_);replace a1:=hq;refine zn3 ?_;refine xK (.inl rfl) rfl (zX U45 rfl rfl a1.range0 zK) ?_;exact⟨xX rfl,hB.u⟩
theorem lexr_any(A B G SA BA:Option Addr)(c d cg cs mB:Nat)(l:List Ty)(fs:List Ft)(x:Lx)(w:World)(hTy:TypesIn w A l)(hv:VT l)(h60:l.length<=60)(hF:FeatsIn w B fs)(hfo:FOk l.length fs)(hG:NodesIn w G x.gr)(hS:SimsIn w SA x.mean.type.args)(hT:TmsIn w BA x.mean.args)(hsz:x.word.size<9223372036854775807):Calls prog 11 #[.agg #[.slice A l.length c,.slice B fs.length d],.agg (cA (x) G cg ((x).mean) SA cs BA mB)] w fun e w'=>e= .returned (.int .i64 (Yy l fs x))/\Bel w w':=by
 refine enT func11 ntmps11 rfl rfl fun hB=>?_;refine zn2 ?_;refine qv (cs:=#[_,_]) rfl (fun b2 w1 hb2 s1 hr=>?_);refine qv (cs:=#[_,_,_,_,_,_,_,_,_]) rfl (fun b3 w2 hb3 s2 hr=>?_);refine zn8 ?_;refine a7 kR (VX x.word _ hsz) rfl (fun w3 s3=>?_);refine zn3 ?_;refine jv rfl (fun c9=>?_) (fun c9=>?_)
 ·have a1:yV x.word=false:=by simpa using c9
  refine zn8 ?_;exact⟨Qj (C6 a1),hB.u⟩
 have a1:yV x.word=true:=by simpa using c9
 refine zn4 ?_;replace hB:=hB.tr0 (s1.t (s2.t s3));refine xj (rg [] 10 8) 17 (.bool (decide (x.wt<0\/1000000<x.wt))) nu ?_ (fun gq=>?_)
 ·refine zn5 ?_;refine zk 13 rfl (fun g13=>?_) (fun g13=>?_)
  ·refine zn4 ?_;exact xq
  refine zn7 ?_;exact xq
 refine e_S ?_;refine zZ rfl (fun a2=>?_) (fun a2=>?_)
 ·refine zn8 ?_;exact⟨Qj (H8 a1 a2),hB⟩
 refine zn7 ?_;refine wl (qw U28 rfl rfl (hb3.u.sub (n:=1) (xs:=[_]) rfl) Y6) ?_;refine a7 kR (inh_any A B G c d cg l fs x.gr _ (hTy.mono hB) hv h60 (hF.mono hB) (hG.mono hB) hfo) rfl (fun w4 s4=>?_);refine y8 (cs:=#[.int .i64 0,.int .i64 0]) qV rfl (fun _=>rfl) (fun _=>rfl) zK rfl xW (fun b5 w6 hb5 s5 hr=>?_);refine zn9 ?_;refine zZ rfl (fun a3=>?_) (fun a3=>?_)
 ·refine yj ?_;exact⟨Qj (lx_gr a1 a2 a3),hB.u⟩
 have hin:=ak.1 a3;refine zn5 ?_;refine wl (qw U34 rfl rfl (hb3.u.sub (n:=6) (xs:=[_,_,_,_,_,_]) rfl) X7) ?_;refine a7 kR (mfault_any SA BA cs mB x.mean _ (hS.mono hB.u) (hT.mono hB.u)) rfl (fun w7 s6=>?_);refine wl (BY (v:= .int _ _) U45 rfl U3 rfl rfl rfl) (zn5 ?_);exact⟨Qj (lx_ok a1 a2 hin),hB.u⟩
mutual
theorem DK:∀(t:Tm) (d b n d' n':Nat),(twk t d b n).2.1=0->(n'+szT t<=200->d'+dpT t<=41->(twk t d' b n').2.1=0/\(twk t d' b n').1=n'+szT t)/\((twk t d' b n').2.1=0->n'+szT t<=200/\d'+dpT t<=41)
 | .mk k nm i s l,d,b,n,d',n',h=>by
  rw[twk]at h
  by_cases h1:200<n+1\/40<d
  ·rw[if_pos h1]at h;cases h
  rw[if_neg h1]at h
  by_cases h2:ndC b (.mk k nm i s l)=0
  ·rw[if_pos h2]at h
   have e:=LJ l (d+1) (inB (.mk k nm i s l) b) (n+1) (d'+1) (n'+1) h
   rw[twk,szT,dpT]
   by_cases h3:200<n'+1\/40<d'
   ·rw[if_pos h3]
    exact⟨fun _ _=>by omega,fun k=>by cases k⟩
   ·rw[if_neg h3,if_pos h2]
    refine⟨fun a c=>?_,fun k=>?_⟩
    ·obtain⟨x,y⟩:=e.1 oG oG
     exact⟨x,by omega⟩
    ·obtain⟨x,y⟩:=e.2 oG oG k
     omega
  ·rw[if_neg h2]at h;exact absurd h h2
theorem LJ:∀(l:List Tm) (d b n d' n':Nat),(Z5 l d b n).2.1=0->(n'+X1 l<=200->d'+J8 l<=41->(Z5 l d' b n').2.1=0/\(Z5 l d' b n').1=n'+X1 l)/\(n'<=200->d'<=41->(Z5 l d' b n').2.1=0->n'+X1 l<=200/\d'+J8 l<=41)
 | [],d,b,n,d',n',h=>by
  rw[Z5,X1,J8]
  exact⟨fun _ _=>⟨rfl,rfl⟩,fun a c _=>⟨a,c⟩⟩
 | x::r,d,b,n,d',n',h=>by
  rw[Z5]at h
  by_cases h1:(twk x d b n).2.1=0
  ·rw[if_pos h1]at h
   have e:=DK x d b n d' n' h1
   have e2:=LJ r d b (twk x d b n).1 d' (n'+szT x) h
   rw[Z5,X1,J8]
   refine⟨fun a c=>?_,fun a c k=>?_⟩
   ·obtain⟨y,z⟩:=e.1 oG oG
    rw[if_pos y,z]
    obtain⟨u,v⟩:=e2.1 oG oG
    exact⟨u,by omega⟩
   ·by_cases h3:(twk x d' b n').2.1=0
    ·rw[if_pos h3]at k
     obtain⟨p,q⟩:=e.2 h3
     rw[(e.1 p q).2]at k
     have:=e2.2 p c k
     omega
    ·rw[if_neg h3]at k;exact absurd k h3
  ·rw[if_neg h1]at h;exact absurd h h1
end
theorem W4(h:(tmF t).1=0):(twk t 1 0 0).2.1=0:=aK (fun hc=>by rw[NV hc]at h;exact hc h)
theorem apok_tmF{f x:Tm}(hf:(tmF f).1=0)(hx:(tmF x).1=0):(tmF (u4 f x)).1=0↔T7 f x:=by
 have wf:=W4 hf;have wx:=W4 hx;have es:szT (u4 f x)=szT f+(szT x+0)+1:=by rw[W6];rfl
 have ed:dpT (u4 f x)=max (dpT f) (max (dpT x) 0)+1:=by rw[dpT_eq];rfl
 constructor
 ·intro h
  have w:=W4 h;have e:=(DK (u4 f x) 1 0 0 1 0 w).2 w;have h2:=h;unfold tmF at h2;rw[if_pos w]at h2;by_cases k:∃ v τ,u4 f x=Tv.tm v/\tyv [] v=some τ
  ·obtain⟨v,τ,e1,e2⟩:=k
   refine⟨hf,hx,?_,by omega,by omega⟩;cases v with
   | con=>simp[u4,Tv.tm]at e1
   | var=>simp[u4,Tv.tm]at e1
   | abs=>simp[u4,Tv.tm]at e1
   | app a c=>
    simp only[u4,Tv.tm,Tm.mk.injEq,List.cons.injEq,and_true,true_and]at e1;exact⟨a,c,τ,e1.1,e1.2,e2⟩
  ·rw[if_neg k]at h2;cases h2
 ·rintro⟨_,_,⟨v,u,τ,rfl,rfl,e⟩,h1,h2⟩
  have w:(twk (Tv.app v u).tm 1 0 0).2.1=0:=by
   have a:=(DK v.tm 1 0 0 2 1 wf).1 oG oG;have c:=(DK u.tm 1 0 0 2 (1+szT v.tm) wx).1 oG oG;show (twk (.mk 4 ⟨#[]⟩ 0 smZ [v.tm,u.tm]) 1 0 0).2.1=0;rw[twk,if_neg dE,if_pos (show ndC 0 (.mk 4 ⟨#[]⟩ 0 smZ [v.tm,u.tm])=0 from rfl)];show (Z5 [v.tm,u.tm] 2 0 1).2.1=0;rw[Z5,if_pos a.1,a.2,Z5,if_pos c.1,Z5]
  show (tmF (Tv.app v u).tm).1=0;rw[tmF_ok w,e];rfl
def lx0:Lx:=⟨⟨#[]⟩,[],0,.mk 0 ⟨#[]⟩ 0 smZ []⟩
def lxR(r:Lr)(x:Lx)(ok:Bool)(Y:List Nd):Lx:=if ok=true then ⟨wdL r x,Y,x.wt+r.wt,u4 r.mean x.mean⟩else lx0
theorem lrs_det{Y Z:List Nd}{ok a1:Bool}(hj:Jok l fs 1 r.gr)(hx:GV l fs x.gr)(h:LrS l r x ok Y)(k:LrS l r x a1 Z):ok=a1/\lxR r x ok Y=lxR r x a1 Z:=by
 have jd:∀ {o o2:Bool} {Y Z:List Nd},IK l r.gr 0 [x.gr] o Y->IK l r.gr 0 [x.gr] o2 Z->o=o2/\Y=Z:=fun a c=>Sy [x.gr] r.gr 0 _ _ _ _ hj (fun q hq=>by rw[List.mem_singleton.1 hq];exact hx) (show ((0:Nat):Int)+((1:Nat):Int)<=1 by decide) a c
 cases ok<;>cases a1
 ·exact⟨rfl,rfl⟩
 ·obtain⟨a,b,c⟩:=k.1 rfl
  rcases h.2 rfl with q|q
  ·exact absurd ⟨a,b⟩ q
  ·cases (jd q c).1
 ·obtain⟨a,b,c⟩:=h.1 rfl
  rcases k.2 rfl with q|q
  ·exact absurd ⟨a,b⟩ q
  ·cases (jd q c).1
 ·rw[(jd (h.1 rfl).2.2 (k.1 rfl).2.2).2];exact⟨rfl,rfl⟩
noncomputable def apF(l:List Ty)(fs:List Ft)(r:Lr)(x:Lx):Fl:=if (lrV l fs r).1≠0 then lrV l fs r else if Yy l fs x≠0 then (Yy l fs x,-3)else (0,0)
theorem ap_lr(h:¬(lrV l fs r).1=0):apF l fs r x=lrV l fs r:=if_pos h
theorem ap_lx(h:(lrV l fs r).1=0)(h2:¬Yy l fs x=0):apF l fs r x=(Yy l fs x,-3):=by unfold apF;rw[if_neg (fun e=>e h),if_pos h2]
theorem ap_ok(h:(lrV l fs r).1=0)(h2:Yy l fs x=0):apF l fs r x=(0,0):=by unfold apF;rw[if_neg (fun e=>e h),if_neg (fun e=>e h2)]
theorem ap_parts(h:(apF l fs r x).1=0):(lrV l fs r).1=0/\Yy l fs x=0:=by
 by_cases h1:(lrV l fs r).1=0
 ·by_cases h2:Yy l fs x=0
  ·exact⟨h1,h2⟩
  ·rw[ap_lx h1 h2]at h;exact absurd h h2
 ·rw[ap_lr h1]at h;exact absurd h h1
theorem rlready_any(AT AF:Option Addr)(ct cf:Nat)(l:List Ty)(fs:List Ft)(w:World)(hct:l.length<=ct)(hcf:fs.length<=cf)(hTy:TypesIn w AT l)(hF:FeatsIn w AF fs):Calls prog 9 #[.agg #[.slice AT l.length ct,.slice AF fs.length cf]] w fun e w'=>e= .returned (flV (ZK l fs))/\Bel w w':=by
 refine enT func9 ntmps9 rfl rfl fun hB=>?_;refine zn2 ?_;refine qv (cs:=#[_,_]) rfl (fun b1 w1 hb1 s1 hr=>?_);refine qQ (cs:=#[.int .i64 0,.int .i64 0]) qV rfl (fun b2 w2 a1 s2 hr=>?_);have lo2:=hB.u.ob hr;refine zn6 ?_;refine a7 kR (TV AT AF ct cf l fs _ hct hcf (hTy.mono hB.u) (hF.mono hB.u)) rfl (fun w3 s3=>?_);refine y8 (cs:=#[.int .i64 0,.int .i64 0]) qV rfl (fun _=>rfl) (fun _=>rfl) zK rfl xW (fun b3 w5 hb3 s4 hr=>?_);refine zn9 ?_;refine zZ rfl (fun c8=>?_) (fun c8=>?_)
 ·refine zn3 ?_;refine zV a1.u (fun w6 hq s5=>?_);replace a1:=hq;refine zn4 ?_;refine xK (.inl rfl) rfl (zX U45 rfl rfl a1.range0 zK) ?_;exact⟨xX (O1 c8),hB.u⟩
 have h0:=ak.1 c8;refine vJ ?_;refine zZ rfl (fun c13=>?_) (fun c13=>?_)
 ·refine zn2 ?_;refine vy ?_;refine zV a1.u (fun w7 hq s6=>?_);replace a1:=hq;refine zn4 ?_;refine xK (.inl rfl) rfl (zX U45 rfl rfl a1.range0 zK) ?_;exact⟨xX (Hq h0 oG),hB.u⟩
 refine zn4 ?_;refine jW (cs:=#[.int .i64 0,.int .i64 0]) ?_;refine zV a1.u (fun w8 hq s7=>?_);replace a1:=hq;refine zn3 ?_;refine xK (.inl rfl) rfl (zX U45 rfl rfl a1.range0 zK) ?_;exact⟨xX (N8 h0 oG),hB.u⟩
set_option maxRecDepth 100000 in
set_option maxHeartbeats 2000000 in
theorem lxcode_any(AT AF:Option Addr)(ct cf:Nat)(l:List Ty)(fs:List Ft)(r:Lr)(G SA BA:Option Addr)(cg cs cb:Nat)(w:World)(hTy:TypesIn w AT l)(hv:VT l)(h60:l.length<=60)(hF:FeatsIn w AF fs)(hfo:FOk l.length fs)(hP:LrP w r G SA BA):Calls prog 10 #[.agg #[.slice AT l.length ct,.slice AF fs.length cf],.agg (cF r G cg (r.mean) SA cs BA cb)] w fun e w'=>e= .returned (.int .i64 (lrF l fs r))/\Bel w w':=by
 refine enT func10 ntmps10 rfl rfl fun hB=>?_;refine zn2 ?_;refine qv (cs:=#[_,_]) rfl (fun b2 w1 a4 s1 hr=>?_);refine qv (cs:=#[_,_,_,_,_,_,_,_,_,_,_]) rfl (fun b3 w2 a2 s2 hr=>?_);refine zn5 ?_;refine xv (rg [] 7 26) (fun g w'=>g 32= .bool (decide (Iv r))/\Bel w w'/\Blk w' b2 25 #[.slice AT l.length ct,.slice AF fs.length cf]/\Blk w' b3 36 (cF r G cg (r.mean) SA cs BA cb)) ?_ (fun g1 w3 hI=>?_)
 ·refine zn3 ?_;refine a7 D8 (P7 r.name _) rfl (fun w4 s3=>?_);refine zn2 ?_;refine uv 11 rfl (fun a1=>?_) (fun a1=>?_)
  ·refine zn22 ?_;refine e_R ⟨agA,?_⟩;replace hB:=hB.tr0 (s1.t (s2.t s3));replace a4:=a4.tr0 (s2.t s3);replace a2:=a2.tr0 s3
   exact⟨by
     first
     | exact ag (DZ a1)
     | exact ag (Dy a8 a5)
     | exact ag (XQ a1 (.inr a5) a3)
     | exact ag (XZ a1 (.inr a5) (ak.1 a3))
     | exact ag (XQ a1 (.inl (ak.1 a8)) a3)
     | exact ag (XZ a1 (.inl (ak.1 a8)) (ak.1 a3)),hB,a4,a2⟩
  refine zn8 ?_;refine zk 15 rfl (fun a8=>?_) (fun a8=>?_)
  ·refine zn5 ?_;refine a7 kR (VX r.cut _ hP.c) rfl (fun w5 s4=>?_);refine zn6 ?_;refine uv 22 rfl (fun a5=>?_) (fun a5=>?_)
   ·refine vJ ?_;refine e_R ⟨agA,?_⟩;replace hB:=hB.tr0 (s1.t (s2.t (s3.t s4)));replace a4:=a4.tr0 (s2.t (s3.t s4));replace a2:=a2.tr0 (s3.t s4)
    exact⟨by
      first
      | exact ag (DZ a1)
      | exact ag (Dy a8 a5)
      | exact ag (XQ a1 (.inr a5) a3)
      | exact ag (XZ a1 (.inr a5) (ak.1 a3))
      | exact ag (XQ a1 (.inl (ak.1 a8)) a3)
      | exact ag (XZ a1 (.inl (ak.1 a8)) (ak.1 a3)),hB,a4,a2⟩
   refine zn8 ?_;refine zk 26 rfl (fun a3=>?_) (fun a3=>?_)
   ·refine zn5 ?_;refine a7 kR (VX r.add _ hP.a) rfl (fun w6 s5=>?_);refine zn6 ?_;refine e_R ⟨agA,?_⟩;replace hB:=hB.tr0 (s1.t (s2.t (s3.t (s4.t s5))));replace a4:=a4.tr0 (s2.t (s3.t (s4.t s5)));replace a2:=a2.tr0 (s3.t (s4.t s5))
    exact⟨by
      first
      | exact ag (DZ a1)
      | exact ag (Dy a8 a5)
      | exact ag (XQ a1 (.inr a5) a3)
      | exact ag (XZ a1 (.inr a5) (ak.1 a3))
      | exact ag (XQ a1 (.inl (ak.1 a8)) a3)
      | exact ag (XZ a1 (.inl (ak.1 a8)) (ak.1 a3)),hB,a4,a2⟩
   refine zn8 ?_;refine e_R ⟨agA,?_⟩;replace hB:=hB.tr0 (s1.t (s2.t (s3.t s4)));replace a4:=a4.tr0 (s2.t (s3.t s4));replace a2:=a2.tr0 (s3.t s4)
   exact⟨by
     first
     | exact ag (DZ a1)
     | exact ag (Dy a8 a5)
     | exact ag (XQ a1 (.inr a5) a3)
     | exact ag (XZ a1 (.inr a5) (ak.1 a3))
     | exact ag (XQ a1 (.inl (ak.1 a8)) a3)
     | exact ag (XZ a1 (.inl (ak.1 a8)) (ak.1 a3)),hB,a4,a2⟩
  refine Jq ?_;refine zk 26 rfl (fun a3=>?_) (fun a3=>?_)
  ·refine zn5 ?_;refine a7 kR (VX r.add _ hP.a) rfl (fun w7 s6=>?_);refine zn6 ?_;refine e_R ⟨agA,?_⟩;replace hB:=hB.tr0 (s1.t (s2.t (s3.t s6)));replace a4:=a4.tr0 (s2.t (s3.t s6));replace a2:=a2.tr0 (s3.t s6)
   exact⟨by
     first
     | exact ag (DZ a1)
     | exact ag (Dy a8 a5)
     | exact ag (XQ a1 (.inr a5) a3)
     | exact ag (XZ a1 (.inr a5) (ak.1 a3))
     | exact ag (XQ a1 (.inl (ak.1 a8)) a3)
     | exact ag (XZ a1 (.inl (ak.1 a8)) (ak.1 a3)),hB,a4,a2⟩
  refine zn8 ?_;refine e_R ⟨agA,?_⟩;replace hB:=hB.tr0 (s1.t (s2.t s3));replace a4:=a4.tr0 (s2.t s3);replace a2:=a2.tr0 s3
  exact⟨by
    first
    | exact ag (DZ a1)
    | exact ag (Dy a8 a5)
    | exact ag (XQ a1 (.inr a5) a3)
    | exact ag (XZ a1 (.inr a5) (ak.1 a3))
    | exact ag (XQ a1 (.inl (ak.1 a8)) a3)
    | exact ag (XZ a1 (.inl (ak.1 a8)) (ak.1 a3)),hB,a4,a2⟩
 obtain⟨h32,hB,a4,a2⟩:=hI;refine vZ 32 _ h32 nu (e_S ?_);refine zZ rfl (fun a9=>?_) (fun a9=>?_)
 ·refine zn8 ?_;exact⟨Qj (lr_nm a9),hB⟩
 refine zn4 ?_;refine xj (rg [] 33 8) 40 (.bool (decide (r.wt<0\/1000000<r.wt))) nu ?_ (fun gq=>?_)
 ·refine zn5 ?_;refine zk 36 rfl (fun g36=>?_) (fun g36=>?_)
  ·refine zn4 ?_;exact xq
  refine zn7 ?_;exact xq
 refine e_S ?_;refine zZ rfl (fun b4=>?_) (fun b4=>?_)
 ·have ab:Yv r:=b4;refine zn8 ?_;exact⟨Qj (lr_bad a9 ab),hB⟩
 have ab:¬Yv r:=b4;refine zn7 ?_;refine wl (qw U28 rfl rfl (a2.sub (n:=1) (xs:=[_]) rfl) Y6) ?_;refine a7 kR (inh_any AT AF G ct cf cg l fs r.gr _ (hTy.mono hB) hv h60 (hF.mono hB) (hP.g.mono hB) hfo) rfl (fun w8 s7=>?_);refine y8 (cs:=#[.int .i64 0,.int .i64 0]) qV rfl (fun _=>rfl) (fun _=>rfl) zK rfl xW (fun b5 w10 hb5 s8 hr=>?_);refine zn9 ?_;refine zZ rfl (fun b1=>?_) (fun b1=>?_)
 ·refine yj ?_;exact⟨Qj (lr_gr a9 ab b1),hB.u⟩
 have an:=ak.1 b1;have hk0:=SX (Cv an);have h0:=hk0.pos;refine zn9 ?_;refine qz (rg [4,6] 50 12) (fun m g w'=>∃ j:Nat,j<=4/\m=4-j/\g 50= .int .i64 j/\Bel w w'/\Blk w' b3 36 (cF r G cg (r.mean) SA cs BA cb)/\∀ f,f<j->plN r.gr 1 f=true) (4) ?_ (fun m g9 w11 hI=>?_)
 ·exact⟨0,by omega,rfl,rfl,hB.u,a2.u,fun f hf=>by omega⟩
 obtain⟨j,hj,hm,h50,hB,a2,ac⟩:=hI;refine zQ 50 _ h50 nu (zn6 ?_);refine zZ rfl (fun c51=>?_) (fun c51=>?_)
 ·refine uJ ?_;refine wl (qw U28 rfl rfl (a2.sub (n:=1) (xs:=[_]) rfl) Y6) (wmI rfl ?_);refine a7 kR (V0 G cg r.gr 0 ((j:Nat):Int) _ (hP.g.mono hB) h0) rfl (fun w12 s9=>?_);refine zn3 ?_;refine wl (WY U4 rfl rfl) (qY (e_S ?_));refine jv rfl (fun ao=>?_) (fun ao=>?_)
  ·have ad:plN r.gr 1 j=false:=by
     have h:=ao;rw[Bool.not_eq_true']at h;have e1:decide (((j:Nat):Int)<2)=decide (((j:Nat):Int)<=1):=am.2 ⟨fun h=>by omega,fun h=>by omega⟩;rw[H1 h0,<- e1];exact h
   refine yZ ?_;exact⟨Qj (lr_pl a9 ab an (pl_no oG ad)),hB.u⟩
  have ad:plN r.gr 1 j=true:=by
    have h:=ao;rw[Bool.not_eq_false']at h;have e1:decide (((j:Nat):Int)<2)=decide (((j:Nat):Int)<=1):=am.2 ⟨fun h=>by omega,fun h=>by omega⟩;rw[H1 h0,<- e1];exact h
  refine zn7 ?_;refine x9 (4-(j+1)) oG agA ?_;replace hB:=hB.tr0 s9;replace a2:=a2.tr0 s9
  exact⟨j+1,by omega,rfl,rfl,hB,a2,fun f hf=>by
    by_cases e:f=j
    · rw[e];exact ad
    · exact ac f oG⟩
 refine zn8 ?_;refine wl (qw U34 rfl rfl (a2.sub (n:=6) (xs:=[_,_,_,_,_,_]) rfl) X7) ?_;refine a7 kR (MW SA BA cs cb r.mean _ (hP.s.mono hB) (hP.t.mono hB)) rfl (fun w13 s10=>?_);refine wl (BY (v:= .int _ _) U45 rfl U3 rfl rfl rfl) (zn5 ?_);exact⟨Qj (lr_ok a9 ab an (pl_yes (fun f hf=>ac f oG))),hB.u⟩
end Go.Proofs.YtndbjnkilegebaaGreatDoor
