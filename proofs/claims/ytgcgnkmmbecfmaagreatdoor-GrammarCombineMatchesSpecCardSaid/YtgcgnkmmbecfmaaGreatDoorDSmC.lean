/- Plain laws, and steps of programs, at every world. -/
import Derived.Test.YtgcgnkmmbecfmaaGreatDoorU
import Derived.Test.YtgcgnkmmbecfmaaGreatDoorZst
import Derived.Test.YtgcgnkmmbecfmaaGreatDoorHtx
import Derived.Test.YtgcgnkmmbecfmaaGreatDoorDSh
import Derived.Test.YtgcgnkmmbecfmaaGreatDoorDMe
namespace Go.Proofs.YtgcgnkmmbecfmaaGreatDoor
open Go.RowKit Go.Proofs.Tryz
set_option maxHeartbeats 1000000
variable {A:Prop}
section
def smallN:List ByteArray:=[⟨#[116,111,112]⟩,⟨#[114,117,108,101]⟩,⟨#[115,105,103,110]⟩,⟨#[110,117,109]⟩,⟨#[115,105,110,103]⟩,⟨#[112,108,117,114]⟩,⟨#[115]⟩,⟨#[110,112]⟩,⟨#[118,112]⟩,⟨#[110]⟩,⟨#[100,101,116]⟩,⟨#[105,118]⟩,⟨#[116,118]⟩,⟨#[97,100,118]⟩,⟨#[99,111,110,106]⟩]
def smallP:List Int:=[0,0,0,0,3,3,2,2,2,2,2,2,2,2,2]
def smallF:List Ft:=[⟨⟨#[109,111,116,104,101,114]⟩,1,2⟩,⟨⟨#[111,110,101]⟩,1,2⟩,⟨⟨#[116,119,111]⟩,1,2⟩,⟨⟨#[116,104,114,101,101]⟩,1,2⟩,⟨⟨#[110,117,109]⟩,2,3⟩]
def smallT:List Ty:=K3 smallN smallP 15
def F4:RlS:=⟨⟨#[115]⟩,[[1,0,1,1,2,2,4],[6],[7,4,3],[3],[8,4,3]],2,0,(YW[0]'dE)⟩
def F3:RlS:=⟨⟨#[110,112]⟩,[[1,0,1,1,3,2,4],[7,4,2],[3],[10,4,2],[9,4,2]],2,1,(YW[1]'dE)⟩
def F2:RlS:=⟨⟨#[118,112,45,105,118]⟩,[[1,0,1,1,3],[8,4,2],[3],[11,4,2]],1,0,(YW[2]'dE)⟩
def F1:RlS:=⟨⟨#[118,112,45,116,118]⟩,[[1,0,1,1,3,2,4],[8,4,2],[3],[12,4,2],[7]],2,2,(YW[3]'dE)⟩
def F0:RlS:=⟨⟨#[118,112,45,110,111,116]⟩,[[1,0,1,1,3,2,4],[8,4,2],[3],[13],[8,4,2]],2,3,(YW[4]'dE)⟩
def RY:RlS:=⟨⟨#[110,112,45,97,110,100]⟩,[[1,0,1,1,3,2,4,3,5],[7,4,2],[5],[7],[14],[7]],3,4,(YW[5]'dE)⟩
def smallRs:List RlS:=[F4,F3,F2,F1,F0,RY]
def smallR:List Rl:=smallRs.map RlS.rl
def smallW0:LxS:=⟨⟨#[101,118,101,114,121]⟩,[[10,4,1],[4]],1,(quN ⟨#[97,108,108]⟩ ⟨#[105,102]⟩)⟩
def smallW1:LxS:=⟨⟨#[97]⟩,[[10,4,1],[4]],0,(quN ⟨#[115,111,109,101]⟩ ⟨#[97,110,100]⟩)⟩
def smallW2:LxS:=⟨⟨#[110,111]⟩,[[10]],2,(quY ⟨#[115,111,109,101]⟩ ⟨#[97,110,100]⟩)⟩
def smallW3:LxS:=⟨⟨#[100,111,103]⟩,[[9,4,1],[4]],0,(Tv.con ⟨#[100,111,103]⟩ tyET)⟩
def smallW4:LxS:=⟨⟨#[100,111,103,115]⟩,[[9,4,1],[5]],0,(Tv.con ⟨#[100,111,103]⟩ tyET)⟩
def smallW5:LxS:=⟨⟨#[99,97,116]⟩,[[9,4,1],[4]],0,(Tv.con ⟨#[99,97,116]⟩ tyET)⟩
def smallW6:LxS:=⟨⟨#[99,97,116,115]⟩,[[9,4,1],[5]],0,(Tv.con ⟨#[99,97,116]⟩ tyET)⟩
def smallW7:LxS:=⟨⟨#[102,105,115,104]⟩,[[9,4,1],[4]],1,(Tv.con ⟨#[102,105,115,104]⟩ tyET)⟩
def smallW8:LxS:=⟨⟨#[102,105,115,104]⟩,[[9,4,1],[5]],2,(Tv.con ⟨#[102,105,115,104]⟩ tyET)⟩
def smallW9:LxS:=⟨⟨#[98,97,114,107,115]⟩,[[11,4,1],[4]],0,(Tv.con ⟨#[98,97,114,107]⟩ tyET)⟩
def smallW10:LxS:=⟨⟨#[98,97,114,107]⟩,[[11,4,1],[5]],0,(Tv.con ⟨#[98,97,114,107]⟩ tyET)⟩
def smallW11:LxS:=⟨⟨#[115,108,101,101,112,115]⟩,[[11,4,1],[4]],0,(Tv.con ⟨#[115,108,101,101,112]⟩ tyET)⟩
def smallW12:LxS:=⟨⟨#[115,108,101,101,112]⟩,[[11,4,1],[5]],0,(Tv.con ⟨#[115,108,101,101,112]⟩ tyET)⟩
def smallW13:LxS:=⟨⟨#[99,104,97,115,101,115]⟩,[[12,4,1],[4]],0,(Tv.con ⟨#[99,104,97,115,101]⟩ tyEET)⟩
def smallW14:LxS:=⟨⟨#[99,104,97,115,101]⟩,[[12,4,1],[5]],0,(Tv.con ⟨#[99,104,97,115,101]⟩ tyEET)⟩
def smallW15:LxS:=⟨⟨#[115,101,101,115]⟩,[[12,4,1],[4]],1,(Tv.con ⟨#[115,101,101]⟩ tyEET)⟩
def smallW16:LxS:=⟨⟨#[115,101,101]⟩,[[12,4,1],[5]],1,(Tv.con ⟨#[115,101,101]⟩ tyEET)⟩
def smallW17:LxS:=⟨⟨#[110,111,116]⟩,[[13]],0,(Tv.con ⟨#[110,111,116]⟩ (Ts.f (Ts.b true) (Ts.b true)))⟩
def smallW18:LxS:=⟨⟨#[97,110,100]⟩,[[14]],0,(Tv.con ⟨#[97,110,100]⟩ (Ts.f (Ts.b true) (Ts.f (Ts.b true) (Ts.b true))))⟩
def smallW19:LxS:=⟨⟨#[114,101,120]⟩,[[7,4,1],[4]],0,(Tv.abs tyET (Tv.app (Tv.var 0) (Tv.con ⟨#[114,101,120]⟩ (Ts.b false))))⟩
def smallW20:LxS:=⟨⟨#[109,105,97]⟩,[[7,4,1],[4]],0,(Tv.abs tyET (Tv.app (Tv.var 0) (Tv.con ⟨#[109,105,97]⟩ (Ts.b false))))⟩
def smallXs:List LxS:=[smallW0,smallW1,smallW2,smallW3,smallW4,smallW5,smallW6,smallW7,smallW8,smallW9,smallW10,smallW11,smallW12,smallW13,smallW14,smallW15,smallW16,smallW17,smallW18,smallW19,smallW20]
def D5:List Lx:=[]
def NX:List Lx:=D5++[smallW0.lx]
def NQ:List Lx:=NX++[smallW1.lx]
def NZ:List Lx:=NQ++[smallW2.lx]
def Ny:List Lx:=NZ++[smallW3.lx]
def Nv:List Lx:=Ny++[smallW4.lx]
def Nk:List Lx:=Nv++[smallW5.lx]
def Nj:List Lx:=Nk++[smallW6.lx]
def Nx:List Lx:=Nj++[smallW7.lx]
def Nq:List Lx:=Nx++[smallW8.lx]
def I2:List Lx:=Nq++[smallW9.lx]
def I1:List Lx:=I2++[smallW10.lx]
def I0:List Lx:=I1++[smallW11.lx]
def KY:List Lx:=I0++[smallW12.lx]
def KW:List Lx:=KY++[smallW13.lx]
def KV:List Lx:=KW++[smallW14.lx]
def KK:List Lx:=KV++[smallW15.lx]
def KJ:List Lx:=KK++[smallW16.lx]
def KX:List Lx:=KJ++[smallW17.lx]
def KQ:List Lx:=KX++[smallW18.lx]
def KZ:List Lx:=KQ++[smallW19.lx]
def Cq:List Lx:=KZ++[smallW20.lx]
def smallX:List Lx:=Cq
def smallS:List Nd:=([[6]]:List (List Int)).map K5
theorem sz26_DSmA:(Tryz.prog.info? 26).map (·.size)=some 1:=by kernel_rfl
theorem sz50_DSmA:(Tryz.prog.info? 50).map (·.size)=some 10:=by kernel_rfl
theorem ze50_DSmA:(Tryz.prog.info? 50).map (·.zero)=some (some (.agg cE)):=by kernel_rfl
theorem xY:(Tryz.prog.info? 59).map (·.zero)=some (some (.slice none 0 0)):=by kernel_rfl
variable {w wc:World} {b0 b1 b2 b3 b4 b5 b23 b93 base capt c12 c15:Nat} {At A12 A15:Option Addr} {cr:Array Value}
set_option maxHeartbeats 4000000 in
theorem small_r7{bm nm:Nat}{csm:List Value}(an:Blk wc b5 32 #[.slice At 15 capt,.slice (some ⟨b23,0,none⟩) 5 5,.slice none 0 0,.slice none 0 0,.slice none 0 0])(a1:Blk wc bm 44 csm.toArray)(a2:TmCs nm wc YW csm)(f:Fr)(Q:Exit->Act->World->Prop)(k6:f 6= .slice (some ⟨bm,0,none⟩) 6 6)(k5:f 5= .pointer (some ⟨b5,0,none⟩))(hPQ:PQ Q):WC Tryz.prog (sl (sr (sr (sr (sr (sr (sr (sr (ob Tryz.f4.body))))))))) (QRS 256 [27,28,29,30,31,32,33,34,35,36,37,38,39,40,41,42,43,44,45,46,47,48,49,50,51,52,53,54,55,56,57,58,59,60,61,62,63,64,65,66,67,68,69,70,71,72,73,74,75,76,77,78,79,80,81,82,83,84,85,86,87,88,89,90,91,92,93,94] f (fun _ w'=>Same [b5] wc w'/\∃ ao cr cm,wc.heap.size<=ao/\Blk w' ao 50 cr/\Fz [] cm TS w' (fun w=>RlCs w smallR cr.toList)/\Blk w' b5 32 #[.slice At 15 capt,.slice (some ⟨b23,0,none⟩) 5 5,.slice (some ⟨ao,0,none⟩) 6 6,.slice none 0 0,.slice none 0 0]) Q) 256 f wc:=by
 have hZ:Same [b5] wc wc:=(Same.refl [] wc).weak (by simp);refine zX 6 _ k6 nu (zX 5 _ k5 nu ?_);have z5:=an.lt;refine oW 67 [27,28,29,30,31,32,33,34,35,36,37,38,39,40,41,42,43,44,45,46,47,48,49,50,51,52,53,54,55,56,57,58,59,60,61,62,63,64,65,66,67,68,69,70,71,72,73,74,75,76,77,78,79,80,81,82,83,84,85,86,87,88,89,90,91,92,93] (fun ix=>Nat.beq ix 66) (fun ix v wv=>match ix with|0=>v= .slice (some ⟨bm,0,none⟩) 6 6|1=>v= .pointer (some ⟨bm,0+0*6,none⟩)|2=>TmD [] (YW[0]'dE) wv (v)|3=>IsP [1,0,1,1,2,2,4] wv (v)|4=>IsP [6] wv (v)|5=>IsP [7,4,3] wv (v)|6=>IsP [3] wv (v)|7=>IsP [8,4,3] wv (v)|8=>RsP [[1,0,1,1,2,2,4],[6],[7,4,3],[3],[8,4,3]] wv (v)|9=>GrP [[1,0,1,1,2,2,4],[6],[7,4,3],[3],[8,4,3]] wv (v)|10=>RlP F4 wv (v)|11=>v= .slice (some ⟨bm,0,none⟩) 6 6|12=>v= .pointer (some ⟨bm,0+1*6,none⟩)|13=>TmD [] (YW[1]'dE) wv (v)|14=>IsP [1,0,1,1,3,2,4] wv (v)|15=>IsP [7,4,2] wv (v)|16=>IsP [3] wv (v)|17=>IsP [10,4,2] wv (v)|18=>IsP [9,4,2] wv (v)|19=>RsP [[1,0,1,1,3,2,4],[7,4,2],[3],[10,4,2],[9,4,2]] wv (v)|20=>GrP [[1,0,1,1,3,2,4],[7,4,2],[3],[10,4,2],[9,4,2]] wv (v)|21=>RlP F3 wv (v)|22=>v= .slice (some ⟨bm,0,none⟩) 6 6|23=>v= .pointer (some ⟨bm,0+2*6,none⟩)|24=>TmD [] (YW[2]'dE) wv (v)|25=>IsP [1,0,1,1,3] wv (v)|26=>IsP [8,4,2] wv (v)|27=>IsP [3] wv (v)|28=>IsP [11,4,2] wv (v)|29=>RsP [[1,0,1,1,3],[8,4,2],[3],[11,4,2]] wv (v)|30=>GrP [[1,0,1,1,3],[8,4,2],[3],[11,4,2]] wv (v)|31=>RlP F2 wv (v)|32=>v= .slice (some ⟨bm,0,none⟩) 6 6|33=>v= .pointer (some ⟨bm,0+3*6,none⟩)|34=>TmD [] (YW[3]'dE) wv (v)|35=>IsP [1,0,1,1,3,2,4] wv (v)|36=>IsP [8,4,2] wv (v)|37=>IsP [3] wv (v)|38=>IsP [12,4,2] wv (v)|39=>IsP [7] wv (v)|40=>RsP [[1,0,1,1,3,2,4],[8,4,2],[3],[12,4,2],[7]] wv (v)|41=>GrP [[1,0,1,1,3,2,4],[8,4,2],[3],[12,4,2],[7]] wv (v)|42=>RlP F1 wv (v)|43=>v= .slice (some ⟨bm,0,none⟩) 6 6|44=>v= .pointer (some ⟨bm,0+4*6,none⟩)|45=>TmD [] (YW[4]'dE) wv (v)|46=>IsP [1,0,1,1,3,2,4] wv (v)|47=>IsP [8,4,2] wv (v)|48=>IsP [3] wv (v)|49=>IsP [13] wv (v)|50=>IsP [8,4,2] wv (v)|51=>RsP [[1,0,1,1,3,2,4],[8,4,2],[3],[13],[8,4,2]] wv (v)|52=>GrP [[1,0,1,1,3,2,4],[8,4,2],[3],[13],[8,4,2]] wv (v)|53=>RlP F0 wv (v)|54=>v= .slice (some ⟨bm,0,none⟩) 6 6|55=>v= .pointer (some ⟨bm,0+5*6,none⟩)|56=>TmD [] (YW[5]'dE) wv (v)|57=>IsP [1,0,1,1,3,2,4,3,5] wv (v)|58=>IsP [7,4,2] wv (v)|59=>IsP [5] wv (v)|60=>IsP [7] wv (v)|61=>IsP [14] wv (v)|62=>IsP [7] wv (v)|63=>RsP [[1,0,1,1,3,2,4,3,5],[7,4,2],[5],[7],[14],[7]] wv (v)|64=>GrP [[1,0,1,1,3,2,4,3,5],[7,4,2],[5],[7],[14],[7]] wv (v)|65=>RlP RY wv (v)|66=>∃ b cs n,v= .slice (some ⟨b,0,none⟩) 6 6/\wc.heap.size<=b/\Blk wv b 50 cs/\Fz [] n TS wv (fun w=>RlCs w smallR cs.toList)|_=>True) kR kR ?_ ?_ ?_
 ·intro ix v wv wv2 h s1
  match ix,h with
  | 0,h=>exact h
  | 1,h=>exact h
  | 2,h=>
   exact TmD.tr0 h s1
  | 3,h=>
   exact IsP.tr0 h s1
  | 4,h=>
   exact IsP.tr0 h s1
  | 5,h=>
   exact IsP.tr0 h s1
  | 6,h=>
   exact IsP.tr0 h s1
  | 7,h=>
   exact IsP.tr0 h s1
  | 8,h=>
   exact RsP.tr0 h s1
  | 9,h=>
   exact GrP.tr0 h s1
  | 10,h=>
   exact RlP.tr0 h s1
  | 11,h=>exact h
  | 12,h=>exact h
  | 13,h=>
   exact TmD.tr0 h s1
  | 14,h=>
   exact IsP.tr0 h s1
  | 15,h=>
   exact IsP.tr0 h s1
  | 16,h=>
   exact IsP.tr0 h s1
  | 17,h=>
   exact IsP.tr0 h s1
  | 18,h=>
   exact IsP.tr0 h s1
  | 19,h=>
   exact RsP.tr0 h s1
  | 20,h=>
   exact GrP.tr0 h s1
  | 21,h=>
   exact RlP.tr0 h s1
  | 22,h=>exact h
  | 23,h=>exact h
  | 24,h=>
   exact TmD.tr0 h s1
  | 25,h=>
   exact IsP.tr0 h s1
  | 26,h=>
   exact IsP.tr0 h s1
  | 27,h=>
   exact IsP.tr0 h s1
  | 28,h=>
   exact IsP.tr0 h s1
  | 29,h=>
   exact RsP.tr0 h s1
  | 30,h=>
   exact GrP.tr0 h s1
  | 31,h=>
   exact RlP.tr0 h s1
  | 32,h=>exact h
  | 33,h=>exact h
  | 34,h=>
   exact TmD.tr0 h s1
  | 35,h=>
   exact IsP.tr0 h s1
  | 36,h=>
   exact IsP.tr0 h s1
  | 37,h=>
   exact IsP.tr0 h s1
  | 38,h=>
   exact IsP.tr0 h s1
  | 39,h=>
   exact IsP.tr0 h s1
  | 40,h=>
   exact RsP.tr0 h s1
  | 41,h=>
   exact GrP.tr0 h s1
  | 42,h=>
   exact RlP.tr0 h s1
  | 43,h=>exact h
  | 44,h=>exact h
  | 45,h=>
   exact TmD.tr0 h s1
  | 46,h=>
   exact IsP.tr0 h s1
  | 47,h=>
   exact IsP.tr0 h s1
  | 48,h=>
   exact IsP.tr0 h s1
  | 49,h=>
   exact IsP.tr0 h s1
  | 50,h=>
   exact IsP.tr0 h s1
  | 51,h=>
   exact RsP.tr0 h s1
  | 52,h=>
   exact GrP.tr0 h s1
  | 53,h=>
   exact RlP.tr0 h s1
  | 54,h=>exact h
  | 55,h=>exact h
  | 56,h=>
   exact TmD.tr0 h s1
  | 57,h=>
   exact IsP.tr0 h s1
  | 58,h=>
   exact IsP.tr0 h s1
  | 59,h=>
   exact IsP.tr0 h s1
  | 60,h=>
   exact IsP.tr0 h s1
  | 61,h=>
   exact IsP.tr0 h s1
  | 62,h=>
   exact IsP.tr0 h s1
  | 63,h=>
   exact RsP.tr0 h s1
  | 64,h=>
   exact GrP.tr0 h s1
  | 65,h=>
   exact RlP.tr0 h s1
  | 66,h=>
   obtain⟨ao,cr,cm,di,lo93,a4,ck⟩:=h;exact⟨ao,cr,cm,di,lo93,a4.tr0 s1,ck.tr0 s1⟩
  | _+67,h=>exact trivial
 ·intro ix o hix hoq gg wx s2 hd dh
  match ix,hix,hoq with
  | 0,_,hoq=>
   cases sI hoq;exact oVq (xz (v:= .slice _ _ _) rfl) rfl
  | 1,_,hoq=>
   cases sI hoq;refine a7 27 (hd 0 a8) ?_;exact oVq (x9 (i:=0) U42 uy rfl rfl dE rfl) rfl
  | 2,_,hoq=>
   cases sI hoq;replace a1:=a1.tr0 s2;replace a2:=a2.tr0 s2;obtain⟨S0,B0,c0,d0,ab,a5⟩:=a2.at_ a1 (k:=0) dE;refine a7 28 (hd 1 a8) ?_;exact oVq (qw U44 rfl rfl ab uy) ⟨_,_,_,_,_,rfl,a5⟩
  | 3,_,hoq=>
   cases sI hoq;exact jW [1,0,1,1,2,2,4] rfl U59 qJ qX
  | 4,_,hoq=>
   cases sI hoq;exact jW [6] rfl U59 qJ qX
  | 5,_,hoq=>
   cases sI hoq;exact jW [7,4,3] rfl U59 qJ qX
  | 6,_,hoq=>
   cases sI hoq;exact jW [3] rfl U59 qJ qX
  | 7,_,hoq=>
   cases sI hoq;exact jW [8,4,3] rfl U59 qJ qX
  | 8,_,hoq=>
   cases sI hoq;obtain⟨b30,e30,cb⟩:=hd 3 (zk kR);obtain⟨b31,e31,ca⟩:=hd 4 (zk kR);obtain⟨b32,e32,c8⟩:=hd 5 (zk kR);obtain⟨b33,e33,c7⟩:=hd 6 (zk kR);obtain⟨b34,e34,c6⟩:=hd 7 (zk kR);refine zq 30 _ e30 nu (zq 31 _ e31 nu (zq 32 _ e32 nu (zq 33 _ e33 nu (zq 34 _ e34 nu ?_))));refine jK (fun b2 Q K=>?_);refine qV (cs:=#[_,_,_,_,_]) [(0,.slice _ _ _),(1,.slice _ _ _),(2,.slice _ _ _),(3,.slice _ _ _),(4,.slice _ _ _)] rfl U64 yQ xY dE dE kR rfl (fun b35 w1 cj s3 hr=>?_);exact K _ _ ⟨s3,⟨_,rfl,xx (rs:=[[1,0,1,1,2,2,4],[6],[7,4,3],[3],[8,4,3]]) cj (.cons ⟨_,_,rfl,(cb.mono s3.bel),by decide,by decide⟩ (.cons ⟨_,_,rfl,(ca.mono s3.bel),by decide,by decide⟩ (.cons ⟨_,_,rfl,(c8.mono s3.bel),by decide,by decide⟩ (.cons ⟨_,_,rfl,(c7.mono s3.bel),by decide,by decide⟩ (.cons ⟨_,_,rfl,(c6.mono s3.bel),by decide,by decide⟩ .nil))))) dE⟩,fRq hr cj.lt⟩
  | 9,_,hoq=>
   cases sI hoq;obtain⟨b35,e35,b9⟩:=hd 8 (zk kR);refine zq 35 _ e35 nu ?_;refine vZ kR (ZJ _ _ [[1,0,1,1,2,2,4],[6],[7,4,3],[3],[8,4,3]] wx b9) rfl (fun e' w2 hr=>?_);obtain⟨⟨G9,c9,rfl,a9⟩,s4⟩:=hr;exact⟨_,rfl,sB s4,⟨G9,c9,_,rfl,a9⟩,y8⟩
  | 10,_,hoq=>
   cases sI hoq;obtain⟨S29,c29,B29,m29,n29,e29,d3⟩:=hd 2 (zk kR);obtain⟨G36,c36,n36,e36,dg⟩:=hd 9 (zk kR);refine zq 29 _ e29 nu (zq 36 _ e36 nu ?_);exact oVq (r_bd4 (v0:= .string _) (v1:= .int _ _) (v2:= .agg _) (v3:= .agg _) (fun v0 v1 v2 v3=>#[v0,(x5 v3 0),v1,.int .i64 0,(x5 v2 0),(x5 v2 1),(x5 v2 2),(x5 v2 3),(x5 v2 4),(x5 v2 5)]) rfl rfl rfl rfl kR) ⟨_,_,_,_,_,_,_,_,rfl,dg,d3⟩
  | 11,_,hoq=>
   cases sI hoq;exact oVq (xz (v:= .slice _ _ _) rfl) rfl
  | 12,_,hoq=>
   cases sI hoq;refine a7 38 (hd 11 a8) ?_;exact oVq (x9 (i:=1) U42 uy rfl rfl dE rfl) rfl
  | 13,_,hoq=>
   cases sI hoq;replace a1:=a1.tr0 s2;replace a2:=a2.tr0 s2;obtain⟨S0,B0,c0,d0,ab,a5⟩:=a2.at_ a1 (k:=1) dE;refine a7 39 (hd 12 a8) ?_;exact oVq (qw U44 rfl rfl ab uy) ⟨_,_,_,_,_,rfl,a5⟩
  | 14,_,hoq=>
   cases sI hoq;exact jW [1,0,1,1,3,2,4] rfl U59 qJ qX
  | 15,_,hoq=>
   cases sI hoq;exact jW [7,4,2] rfl U59 qJ qX
  | 16,_,hoq=>
   cases sI hoq;exact jW [3] rfl U59 qJ qX
  | 17,_,hoq=>
   cases sI hoq;exact jW [10,4,2] rfl U59 qJ qX
  | 18,_,hoq=>
   cases sI hoq;exact jW [9,4,2] rfl U59 qJ qX
  | 19,_,hoq=>
   cases sI hoq;obtain⟨b41,e41,c5⟩:=hd 14 (zk kR);obtain⟨b42,e42,c4⟩:=hd 15 (zk kR);obtain⟨b43,e43,c3⟩:=hd 16 (zk kR);obtain⟨b44,e44,c2⟩:=hd 17 (zk kR);obtain⟨b45,e45,c1⟩:=hd 18 (zk kR);refine zq 41 _ e41 nu (zq 42 _ e42 nu (zq 43 _ e43 nu (zq 44 _ e44 nu (zq 45 _ e45 nu ?_))));refine jK (fun b2 Q K=>?_);refine qV (cs:=#[_,_,_,_,_]) [(0,.slice _ _ _),(1,.slice _ _ _),(2,.slice _ _ _),(3,.slice _ _ _),(4,.slice _ _ _)] rfl U64 yQ xY dE dE kR rfl (fun b46 w2 cg s5 hr=>?_);exact K _ _ ⟨s5,⟨_,rfl,xx (rs:=[[1,0,1,1,3,2,4],[7,4,2],[3],[10,4,2],[9,4,2]]) cg (.cons ⟨_,_,rfl,(c5.mono s5.bel),by decide,by decide⟩ (.cons ⟨_,_,rfl,(c4.mono s5.bel),by decide,by decide⟩ (.cons ⟨_,_,rfl,(c3.mono s5.bel),by decide,by decide⟩ (.cons ⟨_,_,rfl,(c2.mono s5.bel),by decide,by decide⟩ (.cons ⟨_,_,rfl,(c1.mono s5.bel),by decide,by decide⟩ .nil))))) dE⟩,fRq hr cg.lt⟩
  | 20,_,hoq=>
   cases sI hoq;obtain⟨b46,e46,b8⟩:=hd 19 (zk kR);refine zq 46 _ e46 nu ?_;refine vZ kR (ZJ _ _ [[1,0,1,1,3,2,4],[7,4,2],[3],[10,4,2],[9,4,2]] wx b8) rfl (fun e' w2 hr=>?_);obtain⟨⟨G9,c9,rfl,a9⟩,s6⟩:=hr;exact⟨_,rfl,sB s6,⟨G9,c9,_,rfl,a9⟩,y8⟩
  | 21,_,hoq=>
   cases sI hoq;obtain⟨S40,c40,B40,m40,n40,e40,cz⟩:=hd 13 (zk kR);obtain⟨G47,c47,n47,e47,de⟩:=hd 20 (zk kR);refine zq 40 _ e40 nu (zq 47 _ e47 nu ?_);exact oVq (Lj (v0:= .string _) (v1:= .int _ _) (v2:= .int _ _) (v3:= .agg _) (v4:= .agg _) (fun v0 v1 v2 v3 v4=>#[v0,(x5 v4 0),v1,v2,(x5 v3 0),(x5 v3 1),(x5 v3 2),(x5 v3 3),(x5 v3 4),(x5 v3 5)]) rfl rfl rfl rfl rfl kR) ⟨_,_,_,_,_,_,_,_,rfl,de,cz⟩
  | 22,_,hoq=>
   cases sI hoq;exact oVq (xz (v:= .slice _ _ _) rfl) rfl
  | 23,_,hoq=>
   cases sI hoq;refine a7 49 (hd 22 a8) ?_;exact oVq (x9 (i:=2) U42 uy rfl rfl dE rfl) rfl
  | 24,_,hoq=>
   cases sI hoq;replace a1:=a1.tr0 s2;replace a2:=a2.tr0 s2;obtain⟨S0,B0,c0,d0,ab,a5⟩:=a2.at_ a1 (k:=2) dE;refine a7 50 (hd 23 a8) ?_;exact oVq (qw U44 rfl rfl ab uy) ⟨_,_,_,_,_,rfl,a5⟩
  | 25,_,hoq=>
   cases sI hoq;exact jW [1,0,1,1,3] rfl U59 qJ qX
  | 26,_,hoq=>
   cases sI hoq;exact jW [8,4,2] rfl U59 qJ qX
  | 27,_,hoq=>
   cases sI hoq;exact jW [3] rfl U59 qJ qX
  | 28,_,hoq=>
   cases sI hoq;exact jW [11,4,2] rfl U59 qJ qX
  | 29,_,hoq=>
   cases sI hoq;obtain⟨b52,e52,bz⟩:=hd 25 (zk kR);obtain⟨b53,e53,bx⟩:=hd 26 (zk kR);obtain⟨b54,e54,bw⟩:=hd 27 (zk kR);obtain⟨b55,e55,bv⟩:=hd 28 (zk kR);refine zq 52 _ e52 nu (zq 53 _ e53 nu (zq 54 _ e54 nu (zq 55 _ e55 nu ?_)));refine jK (fun b2 Q K=>?_);refine qV (cs:=#[_,_,_,_]) [(0,.slice _ _ _),(1,.slice _ _ _),(2,.slice _ _ _),(3,.slice _ _ _)] rfl U64 yQ xY dE dE kR rfl (fun b56 w3 cf s7 hr=>?_);exact K _ _ ⟨s7,⟨_,rfl,xx (rs:=[[1,0,1,1,3],[8,4,2],[3],[11,4,2]]) cf (.cons ⟨_,_,rfl,(bz.mono s7.bel),by decide,by decide⟩ (.cons ⟨_,_,rfl,(bx.mono s7.bel),by decide,by decide⟩ (.cons ⟨_,_,rfl,(bw.mono s7.bel),by decide,by decide⟩ (.cons ⟨_,_,rfl,(bv.mono s7.bel),by decide,by decide⟩ .nil)))) dE⟩,fRq hr cf.lt⟩
  | 30,_,hoq=>
   cases sI hoq;obtain⟨b56,e56,b7⟩:=hd 29 (zk kR);refine zq 56 _ e56 nu ?_;refine vZ kR (ZJ _ _ [[1,0,1,1,3],[8,4,2],[3],[11,4,2]] wx b7) rfl (fun e' w2 hr=>?_);obtain⟨⟨G9,c9,rfl,a9⟩,s8⟩:=hr;exact⟨_,rfl,sB s8,⟨G9,c9,_,rfl,a9⟩,y8⟩
  | 31,_,hoq=>
   cases sI hoq;obtain⟨S51,c51,B51,m51,n51,e51,cx⟩:=hd 24 (zk kR);obtain⟨G57,c57,n57,e57,db⟩:=hd 30 (zk kR);refine zq 51 _ e51 nu (zq 57 _ e57 nu ?_);exact oVq (r_bd4 (v0:= .string _) (v1:= .int _ _) (v2:= .agg _) (v3:= .agg _) (fun v0 v1 v2 v3=>#[v0,(x5 v3 0),v1,.int .i64 0,(x5 v2 0),(x5 v2 1),(x5 v2 2),(x5 v2 3),(x5 v2 4),(x5 v2 5)]) rfl rfl rfl rfl kR) ⟨_,_,_,_,_,_,_,_,rfl,db,cx⟩
  | 32,_,hoq=>
   cases sI hoq;exact oVq (xz (v:= .slice _ _ _) rfl) rfl
  | 33,_,hoq=>
   cases sI hoq;refine a7 59 (hd 32 a8) ?_;exact oVq (x9 (i:=3) U42 uy rfl rfl dE rfl) rfl
  | 34,_,hoq=>
   cases sI hoq;replace a1:=a1.tr0 s2;replace a2:=a2.tr0 s2;obtain⟨S0,B0,c0,d0,ab,a5⟩:=a2.at_ a1 (k:=3) dE;refine a7 60 (hd 33 a8) ?_;exact oVq (qw U44 rfl rfl ab uy) ⟨_,_,_,_,_,rfl,a5⟩
  | 35,_,hoq=>
   cases sI hoq;exact jW [1,0,1,1,3,2,4] rfl U59 qJ qX
  | 36,_,hoq=>
   cases sI hoq;exact jW [8,4,2] rfl U59 qJ qX
  | 37,_,hoq=>
   cases sI hoq;exact jW [3] rfl U59 qJ qX
  | 38,_,hoq=>
   cases sI hoq;exact jW [12,4,2] rfl U59 qJ qX
  | 39,_,hoq=>
   cases sI hoq;exact jW [7] rfl U59 qJ qX
  | 40,_,hoq=>
   cases sI hoq;obtain⟨b62,e62,bu⟩:=hd 35 (zk kR);obtain⟨b63,e63,bt⟩:=hd 36 (zk kR);obtain⟨b64,e64,br⟩:=hd 37 (zk kR);obtain⟨b65,e65,bq⟩:=hd 38 (zk kR);obtain⟨b66,e66,bo⟩:=hd 39 (zk kR);refine zq 62 _ e62 nu (zq 63 _ e63 nu (zq 64 _ e64 nu (zq 65 _ e65 nu (zq 66 _ e66 nu ?_))));refine jK (fun b2 Q K=>?_);refine qV (cs:=#[_,_,_,_,_]) [(0,.slice _ _ _),(1,.slice _ _ _),(2,.slice _ _ _),(3,.slice _ _ _),(4,.slice _ _ _)] rfl U64 yQ xY dE dE kR rfl (fun b67 w4 ce s9 hr=>?_);exact K _ _ ⟨s9,⟨_,rfl,xx (rs:=[[1,0,1,1,3,2,4],[8,4,2],[3],[12,4,2],[7]]) ce (.cons ⟨_,_,rfl,(bu.mono s9.bel),by decide,by decide⟩ (.cons ⟨_,_,rfl,(bt.mono s9.bel),by decide,by decide⟩ (.cons ⟨_,_,rfl,(br.mono s9.bel),by decide,by decide⟩ (.cons ⟨_,_,rfl,(bq.mono s9.bel),by decide,by decide⟩ (.cons ⟨_,_,rfl,(bo.mono s9.bel),by decide,by decide⟩ .nil))))) dE⟩,fRq hr ce.lt⟩
  | 41,_,hoq=>
   cases sI hoq;obtain⟨b67,e67,b6⟩:=hd 40 (zk kR);refine zq 67 _ e67 nu ?_;refine vZ kR (ZJ _ _ [[1,0,1,1,3,2,4],[8,4,2],[3],[12,4,2],[7]] wx b6) rfl (fun e' w2 hr=>?_);obtain⟨⟨G9,c9,rfl,a9⟩,s10⟩:=hr;exact⟨_,rfl,sB s10,⟨G9,c9,_,rfl,a9⟩,y8⟩
  | 42,_,hoq=>
   cases sI hoq;obtain⟨S61,c61,B61,m61,n61,e61,cv⟩:=hd 34 (zk kR);obtain⟨G68,c68,n68,e68,d9⟩:=hd 41 (zk kR);refine zq 61 _ e61 nu (zq 68 _ e68 nu ?_);exact oVq (Lj (v0:= .string _) (v1:= .int _ _) (v2:= .int _ _) (v3:= .agg _) (v4:= .agg _) (fun v0 v1 v2 v3 v4=>#[v0,(x5 v4 0),v1,v2,(x5 v3 0),(x5 v3 1),(x5 v3 2),(x5 v3 3),(x5 v3 4),(x5 v3 5)]) rfl rfl rfl rfl rfl kR) ⟨_,_,_,_,_,_,_,_,rfl,d9,cv⟩
  | 43,_,hoq=>
   cases sI hoq;exact oVq (xz (v:= .slice _ _ _) rfl) rfl
  | 44,_,hoq=>
   cases sI hoq;refine a7 70 (hd 43 a8) ?_;exact oVq (x9 (i:=4) U42 uy rfl rfl dE rfl) rfl
  | 45,_,hoq=>
   cases sI hoq;replace a1:=a1.tr0 s2;replace a2:=a2.tr0 s2;obtain⟨S0,B0,c0,d0,ab,a5⟩:=a2.at_ a1 (k:=4) dE;refine a7 71 (hd 44 a8) ?_;exact oVq (qw U44 rfl rfl ab uy) ⟨_,_,_,_,_,rfl,a5⟩
  | 46,_,hoq=>
   cases sI hoq;exact jW [1,0,1,1,3,2,4] rfl U59 qJ qX
  | 47,_,hoq=>
   cases sI hoq;exact jW [8,4,2] rfl U59 qJ qX
  | 48,_,hoq=>
   cases sI hoq;exact jW [3] rfl U59 qJ qX
  | 49,_,hoq=>
   cases sI hoq;exact jW [13] rfl U59 qJ qX
  | 50,_,hoq=>
   cases sI hoq;exact jW [8,4,2] rfl U59 qJ qX
  | 51,_,hoq=>
   cases sI hoq;obtain⟨b73,e73,bn⟩:=hd 46 (zk kR);obtain⟨b74,e74,bk⟩:=hd 47 (zk kR);obtain⟨b75,e75,bj⟩:=hd 48 (zk kR);obtain⟨b76,e76,bi⟩:=hd 49 (zk kR);obtain⟨b77,e77,bh⟩:=hd 50 (zk kR);refine zq 73 _ e73 nu (zq 74 _ e74 nu (zq 75 _ e75 nu (zq 76 _ e76 nu (zq 77 _ e77 nu ?_))));refine jK (fun b2 Q K=>?_);refine qV (cs:=#[_,_,_,_,_]) [(0,.slice _ _ _),(1,.slice _ _ _),(2,.slice _ _ _),(3,.slice _ _ _),(4,.slice _ _ _)] rfl U64 yQ xY dE dE kR rfl (fun b78 w5 cd b1 hr=>?_);exact K _ _ ⟨b1,⟨_,rfl,xx (rs:=[[1,0,1,1,3,2,4],[8,4,2],[3],[13],[8,4,2]]) cd (.cons ⟨_,_,rfl,(bn.mono b1.bel),by decide,by decide⟩ (.cons ⟨_,_,rfl,(bk.mono b1.bel),by decide,by decide⟩ (.cons ⟨_,_,rfl,(bj.mono b1.bel),by decide,by decide⟩ (.cons ⟨_,_,rfl,(bi.mono b1.bel),by decide,by decide⟩ (.cons ⟨_,_,rfl,(bh.mono b1.bel),by decide,by decide⟩ .nil))))) dE⟩,fRq hr cd.lt⟩
  | 52,_,hoq=>
   cases sI hoq;obtain⟨b78,e78,b4⟩:=hd 51 (zk kR);refine zq 78 _ e78 nu ?_;refine vZ kR (ZJ _ _ [[1,0,1,1,3,2,4],[8,4,2],[3],[13],[8,4,2]] wx b4) rfl (fun e' w2 hr=>?_);obtain⟨⟨G9,c9,rfl,a9⟩,s12⟩:=hr;exact⟨_,rfl,sB s12,⟨G9,c9,_,rfl,a9⟩,y8⟩
  | 53,_,hoq=>
   cases sI hoq;obtain⟨S72,c72,B72,m72,n72,e72,cq⟩:=hd 45 (zk kR);obtain⟨G79,c79,n79,e79,d7⟩:=hd 52 (zk kR);refine zq 72 _ e72 nu (zq 79 _ e79 nu ?_);exact oVq (Lj (v0:= .string _) (v1:= .int _ _) (v2:= .int _ _) (v3:= .agg _) (v4:= .agg _) (fun v0 v1 v2 v3 v4=>#[v0,(x5 v4 0),v1,v2,(x5 v3 0),(x5 v3 1),(x5 v3 2),(x5 v3 3),(x5 v3 4),(x5 v3 5)]) rfl rfl rfl rfl rfl kR) ⟨_,_,_,_,_,_,_,_,rfl,d7,cq⟩
  | 54,_,hoq=>
   cases sI hoq;exact oVq (xz (v:= .slice _ _ _) rfl) rfl
  | 55,_,hoq=>
   cases sI hoq;refine a7 81 (hd 54 a8) ?_;exact oVq (x9 (i:=5) U42 uy rfl rfl dE rfl) rfl
  | 56,_,hoq=>
   cases sI hoq;replace a1:=a1.tr0 s2;replace a2:=a2.tr0 s2;obtain⟨S0,B0,c0,d0,ab,a5⟩:=a2.at_ a1 (k:=5) dE;refine a7 82 (hd 55 a8) ?_;exact oVq (qw U44 rfl rfl ab uy) ⟨_,_,_,_,_,rfl,a5⟩
  | 57,_,hoq=>
   cases sI hoq;exact jW [1,0,1,1,3,2,4,3,5] rfl U59 qJ qX
  | 58,_,hoq=>
   cases sI hoq;exact jW [7,4,2] rfl U59 qJ qX
  | 59,_,hoq=>
   cases sI hoq;exact jW [5] rfl U59 qJ qX
  | 60,_,hoq=>
   cases sI hoq;exact jW [7] rfl U59 qJ qX
  | 61,_,hoq=>
   cases sI hoq;exact jW [14] rfl U59 qJ qX
  | 62,_,hoq=>
   cases sI hoq;exact jW [7] rfl U59 qJ qX
  | 63,_,hoq=>
   cases sI hoq;obtain⟨b84,e84,bg⟩:=hd 57 (zk kR);obtain⟨b85,e85,bf⟩:=hd 58 (zk kR);obtain⟨b86,e86,be⟩:=hd 59 (zk kR);obtain⟨b87,e87,bd⟩:=hd 60 (zk kR);obtain⟨b88,e88,bc⟩:=hd 61 (zk kR);obtain⟨b89,e89,bb⟩:=hd 62 (zk kR);refine zq 84 _ e84 nu (zq 85 _ e85 nu (zq 86 _ e86 nu (zq 87 _ e87 nu (zq 88 _ e88 nu (zq 89 _ e89 nu ?_)))));refine jK (fun b2 Q K=>?_);refine qV (cs:=#[_,_,_,_,_,_]) [(0,.slice _ _ _),(1,.slice _ _ _),(2,.slice _ _ _),(3,.slice _ _ _),(4,.slice _ _ _),(5,.slice _ _ _)] rfl U64 yQ xY dE dE kR rfl (fun b90 w6 cc ac hr=>?_);exact K _ _ ⟨ac,⟨_,rfl,xx (rs:=[[1,0,1,1,3,2,4,3,5],[7,4,2],[5],[7],[14],[7]]) cc (.cons ⟨_,_,rfl,(bg.mono ac.bel),by decide,by decide⟩ (.cons ⟨_,_,rfl,(bf.mono ac.bel),by decide,by decide⟩ (.cons ⟨_,_,rfl,(be.mono ac.bel),by decide,by decide⟩ (.cons ⟨_,_,rfl,(bd.mono ac.bel),by decide,by decide⟩ (.cons ⟨_,_,rfl,(bc.mono ac.bel),by decide,by decide⟩ (.cons ⟨_,_,rfl,(bb.mono ac.bel),by decide,by decide⟩ .nil)))))) dE⟩,fRq hr cc.lt⟩
  | 64,_,hoq=>
   cases sI hoq;obtain⟨b90,e90,b3⟩:=hd 63 (zk kR);refine zq 90 _ e90 nu ?_;refine vZ kR (ZJ _ _ [[1,0,1,1,3,2,4,3,5],[7,4,2],[5],[7],[14],[7]] wx b3) rfl (fun e' w2 hr=>?_);obtain⟨⟨G9,c9,rfl,a9⟩,s14⟩:=hr;exact⟨_,rfl,sB s14,⟨G9,c9,_,rfl,a9⟩,y8⟩
  | 65,_,hoq=>
   cases sI hoq;obtain⟨S83,c83,B83,m83,n83,e83,co⟩:=hd 56 (zk kR);obtain⟨G91,c91,n91,e91,d5⟩:=hd 64 (zk kR);refine zq 83 _ e83 nu (zq 91 _ e91 nu ?_);exact oVq (Lj (v0:= .string _) (v1:= .int _ _) (v2:= .int _ _) (v3:= .agg _) (v4:= .agg _) (fun v0 v1 v2 v3 v4=>#[v0,(x5 v4 0),v1,v2,(x5 v3 0),(x5 v3 1),(x5 v3 2),(x5 v3 3),(x5 v3 4),(x5 v3 5)]) rfl rfl rfl rfl rfl kR) ⟨_,_,_,_,_,_,_,_,rfl,d5,co⟩
  | 66,_,hoq=>
   cases sI hoq;have hs0:=s2;obtain⟨G37,c37,n37,S37,d37,B37,f37,m37,e37,df,d2⟩:=hd 10 (zk kR);obtain⟨G48,c48,n48,S48,d48,B48,f48,m48,e48,dc,cy⟩:=hd 21 (zk kR);obtain⟨G58,c58,n58,S58,d58,B58,f58,m58,e58,da,cw⟩:=hd 31 (zk kR);obtain⟨G69,c69,n69,S69,d69,B69,f69,m69,e69,d8,cu⟩:=hd 42 (zk kR);obtain⟨G80,c80,n80,S80,d80,B80,f80,m80,e80,d6,cp⟩:=hd 53 (zk kR);obtain⟨G92,c92,n92,S92,d92,B92,f92,m92,e92,d4,cn⟩:=hd 65 (zk kR);refine zq 37 _ e37 nu (zq 48 _ e48 nu (zq 58 _ e58 nu (zq 69 _ e69 nu (zq 80 _ e80 nu (zq 92 _ e92 nu ?_)))));refine jK (fun b2 Q K=>?_);refine qV (cs:=#[_,_,_,_,_,_,_,_,_,_,_,_,_,_,_,_,_,_,_,_,_,_,_,_,_,_,_,_,_,_,_,_,_,_,_,_,_,_,_,_,_,_,_,_,_,_,_,_,_,_,_,_,_,_,_,_,_,_,_,_]) [(0,.agg _),(1,.agg _),(2,.agg _),(3,.agg _),(4,.agg _),(5,.agg _)] rfl U26 sz50_DSmA ze50_DSmA dE dE kR rfl (fun ao w7 a4 a3 hr=>?_);exact K _ _ ⟨a3,⟨_,_,_,rfl,nLT hs0.size hr,a4,(Fz.rcons (r:=F4) (df.tr0 a3) (d2.tr0 a3) (Fz.rcons (r:=F3) (dc.tr0 a3) (cy.tr0 a3) (Fz.rcons (r:=F2) (da.tr0 a3) (cw.tr0 a3) (Fz.rcons (r:=F1) (d8.tr0 a3) (cu.tr0 a3) (Fz.rcons (r:=F0) (d6.tr0 a3) (cp.tr0 a3) (Fz.rcons (r:=RY) (d4.tr0 a3) (cn.tr0 a3) (Fz.triv [] _ TS (fun _=>RlCs.nil))))))))⟩,fRq hr a4.lt⟩
  | _+67,hix,_=>exact absurd hix oG
 intro gg w8 s16 hR dh;replace hZ:=hZ.trans (s16.weak (by simp));obtain⟨ao,cr,cm,di,lo93,a4,ck⟩:=hR 66 dE;have:=nLL z5 lo93;refine xj 93 _ di nu (zn1 ?_);replace an:=an.tr0 s16;refine xQ (v:= .slice _ _ _) an rfl rfl sz26_DSmA (by first|decide|simp) rfl rfl (fun w9 hq s17=>?_);replace hZ:=hZ.trans (s17.weak (by simp));replace ck:=ck.sp1 s17 an (.inl dE);replace an:=hq;refine zJ ?_;refine e_R ⟨agA,?_⟩;exact⟨hZ,_,_,_,lo93,a4.u,ck,an⟩
end
section
theorem Vx:zK prog 15=true:=by kernel_rfl
variable {w wc:World} {b0 b1 b2 b3 b4 b5 b23 b93 base capt c12 c15:Nat} {At A12 A15:Option Addr} {cr:Array Value}
theorem sF{w:World}{b t:Nat}{x0 x1 x2:Int}(h:Blk w b t #[.int .i64 x0,.int .i64 x1,.int .i64 x2]):IntsIn w (some ⟨b,0,none⟩) [x0,x1,x2]:=qY _ h (by show 3<=_;decide)
theorem sE{w:World}{b t:Nat}{x0:Int}(h:Blk w b t #[.int .i64 x0]):IntsIn w (some ⟨b,0,none⟩) [x0]:=qY _ h (by show 1<=_;decide)
theorem sA (h:A:=by
 intro hI f Q k7 hPQ
 refine zX 7 _ k7 nu (zn2 ?_);refine qq kR (quN_d _ _ _) rfl (fun e' w1 hr=>?_);obtain⟨⟨_,rfl,Sq1,cq1,Bq1,mq1,nq1,rfl,a1⟩,s1⟩:=hr;replace s1:=sB s1;refine⟨_,rfl,?_⟩;refine qV (cs:=#[_,_,_]) [(0,.int _ _),(1,.int _ _),(2,.int _ _)] rfl U59 qJ qX dE dE kR rfl (fun bq2 w2 a4 s2 hr=>?_);refine qV (cs:=#[_]) [(0,.int _ _)] rfl U59 qJ qX dE dE kR rfl (fun bq3 w3 a3 s3 hr=>?_);refine qV (cs:=#[_,_]) [(0,.slice _ _ _),(1,.slice _ _ _)] rfl U64 yQ xY dE dE kR rfl (fun bq4 w4 a2 s4 hr=>?_);replace hI:=hI.tr0 (s1.t (s2.t (s3.t s4)));obtain⟨hC,A,cap,xs,nL,hb5,ho,hL⟩:=hI;replace a1:=a1.tr0 (s2.t (s3.t s4));refine yy rfl Vx (Z8 _ _ (quN _ _) _ _ _ _ _ _ _ _ _ _ _ _ _ _ _ _ _ _ _ _ _ dE (xx a2 (.cons ⟨_,_,rfl,(sF a4.u),by decide,by decide⟩ (.cons ⟨_,_,rfl,(sE a3.u),by decide,by decide⟩ .nil)) dE) a1 hb5 ho hL hC.bs hC.l.1 dE) rfl rfl (fun e' w5 hr=>?_);obtain⟨rfl,A2,cap2,xs2,a5,hon,hL2,hS,hA2⟩:=hr;replace hC:=hC.add hS hb5 ho;refine⟨_,rfl,?_⟩;refine zJ ?_;refine e_R ⟨agA,?_⟩;exact⟨hC,_,_,_,_,a5,hon,hL2⟩):A:=h
theorem sC (h:A:=by
 intro hI f Q k7 k3 hPQ
 have hb3:=hI.1.k3;have a9:=hI.1.p12;refine zX 7 _ k7 nu (zX 3 _ k3 nu (zn3 ?_));refine qq Vq (Z7 [] _ tyET _ _ _ _ a9) rfl (fun e' w1 hr=>?_);obtain⟨⟨_,rfl,Sq2,cq2,Bq2,mq2,nq2,rfl,a1⟩,s1⟩:=hr;replace s1:=sB s1;refine⟨_,rfl,?_⟩;refine qV (cs:=#[_,_,_]) [(0,.int _ _),(1,.int _ _),(2,.int _ _)] rfl U59 qJ qX dE dE kR rfl (fun bq3 w2 a4 s2 hr=>?_);refine qV (cs:=#[_]) [(0,.int _ _)] rfl U59 qJ qX dE dE kR rfl (fun bq4 w3 a3 s3 hr=>?_);refine qV (cs:=#[_,_]) [(0,.slice _ _ _),(1,.slice _ _ _)] rfl U64 yQ xY dE dE kR rfl (fun bq5 w4 a2 s4 hr=>?_);replace hI:=hI.tr0 (s1.t (s2.t (s3.t s4)));obtain⟨hC,A,cap,xs,nL,hb5,ho,hL⟩:=hI;replace a1:=a1.tr0 (s2.t (s3.t s4));refine yy rfl Vx (Z8 _ _ (Tv.con _ tyET) _ _ _ _ _ _ _ _ _ _ _ _ _ _ _ _ _ _ _ _ _ dE (xx a2 (.cons ⟨_,_,rfl,(sF a4.u),by decide,by decide⟩ (.cons ⟨_,_,rfl,(sE a3.u),by decide,by decide⟩ .nil)) dE) a1 hb5 ho hL hC.bs hC.l.1 dE) rfl rfl (fun e' w5 hr=>?_);obtain⟨rfl,A2,cap2,xs2,a5,hon,hL2,hS,hA2⟩:=hr;replace hC:=hC.add hS hb5 ho;refine⟨_,rfl,?_⟩;refine zJ ?_;refine e_R ⟨agA,?_⟩;exact⟨hC,_,_,_,_,a5,hon,hL2⟩):A:=h
theorem sD (h:A:=by
 intro hI f Q k7 k4 hPQ
 have hb4:=hI.1.k4;have a9:=hI.1.p15;refine zX 7 _ k7 nu (zX 4 _ k4 nu (zn3 ?_));refine qq Vq (Z7 [] _ tyEET _ _ _ _ a9) rfl (fun e' w1 hr=>?_);obtain⟨⟨_,rfl,Sq2,cq2,Bq2,mq2,nq2,rfl,a1⟩,s1⟩:=hr;replace s1:=sB s1;refine⟨_,rfl,?_⟩;refine qV (cs:=#[_,_,_]) [(0,.int _ _),(1,.int _ _),(2,.int _ _)] rfl U59 qJ qX dE dE kR rfl (fun bq3 w2 a4 s2 hr=>?_);refine qV (cs:=#[_]) [(0,.int _ _)] rfl U59 qJ qX dE dE kR rfl (fun bq4 w3 a3 s3 hr=>?_);refine qV (cs:=#[_,_]) [(0,.slice _ _ _),(1,.slice _ _ _)] rfl U64 yQ xY dE dE kR rfl (fun bq5 w4 a2 s4 hr=>?_);replace hI:=hI.tr0 (s1.t (s2.t (s3.t s4)));obtain⟨hC,A,cap,xs,nL,hb5,ho,hL⟩:=hI;replace a1:=a1.tr0 (s2.t (s3.t s4));refine yy rfl Vx (Z8 _ _ (Tv.con _ tyEET) _ _ _ _ _ _ _ _ _ _ _ _ _ _ _ _ _ _ _ _ _ dE (xx a2 (.cons ⟨_,_,rfl,(sF a4.u),by decide,by decide⟩ (.cons ⟨_,_,rfl,(sE a3.u),by decide,by decide⟩ .nil)) dE) a1 hb5 ho hL hC.bs hC.l.1 dE) rfl rfl (fun e' w5 hr=>?_);obtain⟨rfl,A2,cap2,xs2,a5,hon,hL2,hS,hA2⟩:=hr;replace hC:=hC.add hS hb5 ho;refine⟨_,rfl,?_⟩;refine zJ ?_;refine e_R ⟨agA,?_⟩;exact⟨hC,_,_,_,_,a5,hon,hL2⟩):A:=h
theorem small_r9 :∀(hI:SmSt smallT smallF smallR b0 b1 b2 b3 b4 b5 b23 b93 base capt c12 c15 At A12 A15 cr 0 D5 w wc) (f:Fr) (Q:Exit->Act->World->Prop) (k7:f 7= .func (.func 15) #[] #[.pointer (some ⟨b5,0,none⟩)]) (hPQ:PQ Q),WC prog (sl (sr (sr (sr (sr (sr (sr (sr (sr (sr (ob Tryz.f4.body))))))))))) (QRS 256 [96,97,98,99,100,101] f (fun _ w'=>SmSt smallT smallF smallR b0 b1 b2 b3 b4 b5 b23 b93 base capt c12 c15 At A12 A15 cr 1 NX w w') Q) 256 f wc:=sA
theorem small_r10 :∀(hI:SmSt smallT smallF smallR b0 b1 b2 b3 b4 b5 b23 b93 base capt c12 c15 At A12 A15 cr 1 NX w wc) (f:Fr) (Q:Exit->Act->World->Prop) (k7:f 7= .func (.func 15) #[] #[.pointer (some ⟨b5,0,none⟩)]) (hPQ:PQ Q),WC prog (sl (sr (sr (sr (sr (sr (sr (sr (sr (sr (sr (ob Tryz.f4.body)))))))))))) (QRS 256 [102,103,104,105,106,107] f (fun _ w'=>SmSt smallT smallF smallR b0 b1 b2 b3 b4 b5 b23 b93 base capt c12 c15 At A12 A15 cr 2 NQ w w') Q) 256 f wc:=sA
theorem small_r11(hI:SmSt smallT smallF smallR b0 b1 b2 b3 b4 b5 b23 b93 base capt c12 c15 At A12 A15 cr 2 NQ w wc)(f:Fr)(Q:Exit->Act->World->Prop)(k7:f 7= .func (.func 15) #[] #[.pointer (some ⟨b5,0,none⟩)])(hPQ:PQ Q):WC prog (sl (sr (sr (sr (sr (sr (sr (sr (sr (sr (sr (sr (ob Tryz.f4.body))))))))))))) (QRS 256 [108,109,110,111,112] f (fun _ w'=>SmSt smallT smallF smallR b0 b1 b2 b3 b4 b5 b23 b93 base capt c12 c15 At A12 A15 cr 3 NZ w w') Q) 256 f wc:=by
 refine zX 7 _ k7 nu (zn2 ?_);refine qq kR (quY_d ⟨#[115,111,109,101]⟩ ⟨#[97,110,100]⟩ _) rfl (fun e' w1 hr=>?_);obtain⟨⟨_,rfl,S109,c109,B109,m109,n109,rfl,a1⟩,s1⟩:=hr;replace s1:=sB s1;refine⟨_,rfl,?_⟩;refine qV (cs:=#[_]) [(0,.int _ _)] rfl U59 qJ qX dE dE kR rfl (fun b110 w2 a3 s2 hr=>?_);refine qV (cs:=#[_]) [(0,.slice _ _ _)] rfl U64 yQ xY dE dE kR rfl (fun b111 w3 a2 s3 hr=>?_);replace hI:=hI.tr0 (s1.t (s2.t s3));obtain⟨hC,A,cap,xs,nL,hb5,ho,hL⟩:=hI;replace a1:=a1.tr0 (s2.t s3);refine yy rfl Vx (Z8 ⟨#[110,111]⟩ 2 (quY ⟨#[115,111,109,101]⟩ ⟨#[97,110,100]⟩) _ _ _ _ _ _ [[10]] _ _ base _ _ _ _ _ _ _ _ _ NQ _ dE (xx (rs:=[[10]]) a2 (.cons ⟨_,_,rfl,(qY [10] a3.u dE),by decide,by decide⟩ .nil) dE) a1 hb5 ho hL hC.bs hC.l.1 dE) rfl rfl (fun e' w4 hr=>?_);obtain⟨rfl,A2,cap2,xs2,a4,hon,hL2,hS,hA2⟩:=hr;replace hC:=hC.add hS hb5 ho;refine⟨_,rfl,?_⟩;refine zJ ?_;refine e_R ⟨agA,?_⟩;exact⟨hC,_,_,_,_,a4,hon,hL2⟩
theorem small_r12 :∀(hI:SmSt smallT smallF smallR b0 b1 b2 b3 b4 b5 b23 b93 base capt c12 c15 At A12 A15 cr 3 NZ w wc) (f:Fr) (Q:Exit->Act->World->Prop) (k7:f 7= .func (.func 15) #[] #[.pointer (some ⟨b5,0,none⟩)]) (k3:f 3= .pointer (some ⟨b3,0,none⟩)) (hPQ:PQ Q),WC prog (sl (sr (sr (sr (sr (sr (sr (sr (sr (sr (sr (sr (sr (ob Tryz.f4.body)))))))))))))) (QRS 256 [113,114,115,116,117,118,119] f (fun _ w'=>SmSt smallT smallF smallR b0 b1 b2 b3 b4 b5 b23 b93 base capt c12 c15 At A12 A15 cr 4 Ny w w') Q) 256 f wc:=sC
theorem small_r13 :∀(hI:SmSt smallT smallF smallR b0 b1 b2 b3 b4 b5 b23 b93 base capt c12 c15 At A12 A15 cr 4 Ny w wc) (f:Fr) (Q:Exit->Act->World->Prop) (k7:f 7= .func (.func 15) #[] #[.pointer (some ⟨b5,0,none⟩)]) (k3:f 3= .pointer (some ⟨b3,0,none⟩)) (hPQ:PQ Q),WC prog (sl (sr (sr (sr (sr (sr (sr (sr (sr (sr (sr (sr (sr (sr (ob Tryz.f4.body))))))))))))))) (QRS 256 [120,121,122,123,124,125,126] f (fun _ w'=>SmSt smallT smallF smallR b0 b1 b2 b3 b4 b5 b23 b93 base capt c12 c15 At A12 A15 cr 5 Nv w w') Q) 256 f wc:=sC
theorem small_r14 :∀(hI:SmSt smallT smallF smallR b0 b1 b2 b3 b4 b5 b23 b93 base capt c12 c15 At A12 A15 cr 5 Nv w wc) (f:Fr) (Q:Exit->Act->World->Prop) (k7:f 7= .func (.func 15) #[] #[.pointer (some ⟨b5,0,none⟩)]) (k3:f 3= .pointer (some ⟨b3,0,none⟩)) (hPQ:PQ Q),WC prog (sl (sr (sr (sr (sr (sr (sr (sr (sr (sr (sr (sr (sr (sr (sr (ob Tryz.f4.body)))))))))))))))) (QRS 256 [127,128,129,130,131,132,133] f (fun _ w'=>SmSt smallT smallF smallR b0 b1 b2 b3 b4 b5 b23 b93 base capt c12 c15 At A12 A15 cr 6 Nk w w') Q) 256 f wc:=sC
theorem small_r15 :∀(hI:SmSt smallT smallF smallR b0 b1 b2 b3 b4 b5 b23 b93 base capt c12 c15 At A12 A15 cr 6 Nk w wc) (f:Fr) (Q:Exit->Act->World->Prop) (k7:f 7= .func (.func 15) #[] #[.pointer (some ⟨b5,0,none⟩)]) (k3:f 3= .pointer (some ⟨b3,0,none⟩)) (hPQ:PQ Q),WC prog (sl (sr (sr (sr (sr (sr (sr (sr (sr (sr (sr (sr (sr (sr (sr (sr (ob Tryz.f4.body))))))))))))))))) (QRS 256 [134,135,136,137,138,139,140] f (fun _ w'=>SmSt smallT smallF smallR b0 b1 b2 b3 b4 b5 b23 b93 base capt c12 c15 At A12 A15 cr 7 Nj w w') Q) 256 f wc:=sC
theorem small_r16 :∀(hI:SmSt smallT smallF smallR b0 b1 b2 b3 b4 b5 b23 b93 base capt c12 c15 At A12 A15 cr 7 Nj w wc) (f:Fr) (Q:Exit->Act->World->Prop) (k7:f 7= .func (.func 15) #[] #[.pointer (some ⟨b5,0,none⟩)]) (k3:f 3= .pointer (some ⟨b3,0,none⟩)) (hPQ:PQ Q),WC prog (sl (sr (sr (sr (sr (sr (sr (sr (sr (sr (sr (sr (sr (sr (sr (sr (sr (ob Tryz.f4.body)))))))))))))))))) (QRS 256 [141,142,143,144,145,146,147] f (fun _ w'=>SmSt smallT smallF smallR b0 b1 b2 b3 b4 b5 b23 b93 base capt c12 c15 At A12 A15 cr 8 Nx w w') Q) 256 f wc:=sC
theorem small_r17 :∀(hI:SmSt smallT smallF smallR b0 b1 b2 b3 b4 b5 b23 b93 base capt c12 c15 At A12 A15 cr 8 Nx w wc) (f:Fr) (Q:Exit->Act->World->Prop) (k7:f 7= .func (.func 15) #[] #[.pointer (some ⟨b5,0,none⟩)]) (k3:f 3= .pointer (some ⟨b3,0,none⟩)) (hPQ:PQ Q),WC prog (sl (sr (sr (sr (sr (sr (sr (sr (sr (sr (sr (sr (sr (sr (sr (sr (sr (sr (ob Tryz.f4.body))))))))))))))))))) (QRS 256 [148,149,150,151,152,153,154] f (fun _ w'=>SmSt smallT smallF smallR b0 b1 b2 b3 b4 b5 b23 b93 base capt c12 c15 At A12 A15 cr 9 Nq w w') Q) 256 f wc:=sC
theorem small_r18 :∀(hI:SmSt smallT smallF smallR b0 b1 b2 b3 b4 b5 b23 b93 base capt c12 c15 At A12 A15 cr 9 Nq w wc) (f:Fr) (Q:Exit->Act->World->Prop) (k7:f 7= .func (.func 15) #[] #[.pointer (some ⟨b5,0,none⟩)]) (k3:f 3= .pointer (some ⟨b3,0,none⟩)) (hPQ:PQ Q),WC prog (sl (sr (sr (sr (sr (sr (sr (sr (sr (sr (sr (sr (sr (sr (sr (sr (sr (sr (sr (ob Tryz.f4.body)))))))))))))))))))) (QRS 256 [155,156,157,158,159,160,161] f (fun _ w'=>SmSt smallT smallF smallR b0 b1 b2 b3 b4 b5 b23 b93 base capt c12 c15 At A12 A15 cr 10 I2 w w') Q) 256 f wc:=sC
theorem small_r19 :∀(hI:SmSt smallT smallF smallR b0 b1 b2 b3 b4 b5 b23 b93 base capt c12 c15 At A12 A15 cr 10 I2 w wc) (f:Fr) (Q:Exit->Act->World->Prop) (k7:f 7= .func (.func 15) #[] #[.pointer (some ⟨b5,0,none⟩)]) (k3:f 3= .pointer (some ⟨b3,0,none⟩)) (hPQ:PQ Q),WC prog (sl (sr (sr (sr (sr (sr (sr (sr (sr (sr (sr (sr (sr (sr (sr (sr (sr (sr (sr (sr (ob Tryz.f4.body))))))))))))))))))))) (QRS 256 [162,163,164,165,166,167,168] f (fun _ w'=>SmSt smallT smallF smallR b0 b1 b2 b3 b4 b5 b23 b93 base capt c12 c15 At A12 A15 cr 11 I1 w w') Q) 256 f wc:=sC
end
section
variable {w wc:World} {b0 b1 b2 b3 b4 b5 b23 b93 base capt c12 c15:Nat} {At A12 A15:Option Addr} {cr:Array Value}
theorem small_r20 :∀(hI:SmSt smallT smallF smallR b0 b1 b2 b3 b4 b5 b23 b93 base capt c12 c15 At A12 A15 cr 11 I1 w wc) (f:Fr) (Q:Exit->Act->World->Prop) (k7:f 7= .func (.func 15) #[] #[.pointer (some ⟨b5,0,none⟩)]) (k3:f 3= .pointer (some ⟨b3,0,none⟩)) (hPQ:PQ Q),WC prog (sl (sr (sr (sr (sr (sr (sr (sr (sr (sr (sr (sr (sr (sr (sr (sr (sr (sr (sr (sr (sr (ob Tryz.f4.body)))))))))))))))))))))) (QRS 256 [169,170,171,172,173,174,175] f (fun _ w'=>SmSt smallT smallF smallR b0 b1 b2 b3 b4 b5 b23 b93 base capt c12 c15 At A12 A15 cr 12 I0 w w') Q) 256 f wc:=sC
theorem small_r21 :∀(hI:SmSt smallT smallF smallR b0 b1 b2 b3 b4 b5 b23 b93 base capt c12 c15 At A12 A15 cr 12 I0 w wc) (f:Fr) (Q:Exit->Act->World->Prop) (k7:f 7= .func (.func 15) #[] #[.pointer (some ⟨b5,0,none⟩)]) (k3:f 3= .pointer (some ⟨b3,0,none⟩)) (hPQ:PQ Q),WC prog (sl (sr (sr (sr (sr (sr (sr (sr (sr (sr (sr (sr (sr (sr (sr (sr (sr (sr (sr (sr (sr (sr (ob Tryz.f4.body))))))))))))))))))))))) (QRS 256 [176,177,178,179,180,181,182] f (fun _ w'=>SmSt smallT smallF smallR b0 b1 b2 b3 b4 b5 b23 b93 base capt c12 c15 At A12 A15 cr 13 KY w w') Q) 256 f wc:=sC
theorem small_r22 :∀(hI:SmSt smallT smallF smallR b0 b1 b2 b3 b4 b5 b23 b93 base capt c12 c15 At A12 A15 cr 13 KY w wc) (f:Fr) (Q:Exit->Act->World->Prop) (k7:f 7= .func (.func 15) #[] #[.pointer (some ⟨b5,0,none⟩)]) (k4:f 4= .pointer (some ⟨b4,0,none⟩)) (hPQ:PQ Q),WC prog (sl (sr (sr (sr (sr (sr (sr (sr (sr (sr (sr (sr (sr (sr (sr (sr (sr (sr (sr (sr (sr (sr (sr (ob Tryz.f4.body)))))))))))))))))))))))) (QRS 256 [183,184,185,186,187,188,189] f (fun _ w'=>SmSt smallT smallF smallR b0 b1 b2 b3 b4 b5 b23 b93 base capt c12 c15 At A12 A15 cr 14 KW w w') Q) 256 f wc:=sD
theorem small_r23 :∀(hI:SmSt smallT smallF smallR b0 b1 b2 b3 b4 b5 b23 b93 base capt c12 c15 At A12 A15 cr 14 KW w wc) (f:Fr) (Q:Exit->Act->World->Prop) (k7:f 7= .func (.func 15) #[] #[.pointer (some ⟨b5,0,none⟩)]) (k4:f 4= .pointer (some ⟨b4,0,none⟩)) (hPQ:PQ Q),WC prog (sl (sr (sr (sr (sr (sr (sr (sr (sr (sr (sr (sr (sr (sr (sr (sr (sr (sr (sr (sr (sr (sr (sr (sr (ob Tryz.f4.body))))))))))))))))))))))))) (QRS 256 [190,191,192,193,194,195,196] f (fun _ w'=>SmSt smallT smallF smallR b0 b1 b2 b3 b4 b5 b23 b93 base capt c12 c15 At A12 A15 cr 15 KV w w') Q) 256 f wc:=sD
theorem small_r24 :∀(hI:SmSt smallT smallF smallR b0 b1 b2 b3 b4 b5 b23 b93 base capt c12 c15 At A12 A15 cr 15 KV w wc) (f:Fr) (Q:Exit->Act->World->Prop) (k7:f 7= .func (.func 15) #[] #[.pointer (some ⟨b5,0,none⟩)]) (k4:f 4= .pointer (some ⟨b4,0,none⟩)) (hPQ:PQ Q),WC prog (sl (sr (sr (sr (sr (sr (sr (sr (sr (sr (sr (sr (sr (sr (sr (sr (sr (sr (sr (sr (sr (sr (sr (sr (sr (ob Tryz.f4.body)))))))))))))))))))))))))) (QRS 256 [197,198,199,200,201,202,203] f (fun _ w'=>SmSt smallT smallF smallR b0 b1 b2 b3 b4 b5 b23 b93 base capt c12 c15 At A12 A15 cr 16 KK w w') Q) 256 f wc:=sD
theorem small_r25 :∀(hI:SmSt smallT smallF smallR b0 b1 b2 b3 b4 b5 b23 b93 base capt c12 c15 At A12 A15 cr 16 KK w wc) (f:Fr) (Q:Exit->Act->World->Prop) (k7:f 7= .func (.func 15) #[] #[.pointer (some ⟨b5,0,none⟩)]) (k4:f 4= .pointer (some ⟨b4,0,none⟩)) (hPQ:PQ Q),WC prog (sl (sr (sr (sr (sr (sr (sr (sr (sr (sr (sr (sr (sr (sr (sr (sr (sr (sr (sr (sr (sr (sr (sr (sr (sr (sr (ob Tryz.f4.body))))))))))))))))))))))))))) (QRS 256 [204,205,206,207,208,209,210] f (fun _ w'=>SmSt smallT smallF smallR b0 b1 b2 b3 b4 b5 b23 b93 base capt c12 c15 At A12 A15 cr 17 KJ w w') Q) 256 f wc:=sD
theorem small_r26(hI:SmSt smallT smallF smallR b0 b1 b2 b3 b4 b5 b23 b93 base capt c12 c15 At A12 A15 cr 17 KJ w wc)(f:Fr)(Q:Exit->Act->World->Prop)(k7:f 7= .func (.func 15) #[] #[.pointer (some ⟨b5,0,none⟩)])(k2:f 2= .pointer (some ⟨b2,0,none⟩))(hPQ:PQ Q):WC prog (sl (sr (sr (sr (sr (sr (sr (sr (sr (sr (sr (sr (sr (sr (sr (sr (sr (sr (sr (sr (sr (sr (sr (sr (sr (sr (sr (ob Tryz.f4.body)))))))))))))))))))))))))))) (QRS 256 [211,212,213,214,215,216,217,218] f (fun _ w'=>SmSt smallT smallF smallR b0 b1 b2 b3 b4 b5 b23 b93 base capt c12 c15 At A12 A15 cr 18 KX w w') Q) 256 f wc:=by
 have hb2:=hI.1.k2;refine zX 7 _ k7 nu (zX 2 _ k2 nu (zn4 ?_));refine qq K6 (Qx [] (Ts.b true) (Ts.b true) _ _ _ _ _ _ _ (by simp) (Fz.triv _ _ TS (fun _=>SimsIn.nil)) (Fz.triv _ _ TS (fun _=>SimsIn.nil))) rfl (fun e' w1 hr=>?_);obtain⟨⟨_,rfl,A214,c214,n214,rfl,a2⟩,s1⟩:=hr;replace s1:=sB s1;refine⟨_,rfl,?_⟩;refine qq Vq (Z7 [] ⟨#[110,111,116]⟩ (Ts.f (Ts.b true) (Ts.b true)) _ _ _ _ a2) rfl (fun e' w2 hr=>?_);obtain⟨⟨_,rfl,S215,c215,B215,m215,n215,rfl,a1⟩,s2⟩:=hr;replace s2:=sB s2;refine⟨_,rfl,?_⟩;refine qV (cs:=#[_]) [(0,.int _ _)] rfl U59 qJ qX dE dE kR rfl (fun b216 w3 a4 s3 hr=>?_);refine qV (cs:=#[_]) [(0,.slice _ _ _)] rfl U64 yQ xY dE dE kR rfl (fun b217 w4 a3 s4 hr=>?_);replace hI:=hI.tr0 (s1.t (s2.t (s3.t s4)));obtain⟨hC,A,cap,xs,nL,hb5,ho,hL⟩:=hI;replace a1:=a1.tr0 (s3.t s4);refine yy rfl Vx (Z8 ⟨#[110,111,116]⟩ 0 (Tv.con ⟨#[110,111,116]⟩ (Ts.f (Ts.b true) (Ts.b true))) _ _ _ _ _ _ [[13]] _ _ base _ _ _ _ _ _ _ _ _ KJ _ dE (xx (rs:=[[13]]) a3 (.cons ⟨_,_,rfl,(qY [13] a4.u dE),by decide,by decide⟩ .nil) dE) a1 hb5 ho hL hC.bs hC.l.1 dE) rfl rfl (fun e' w5 hr=>?_);obtain⟨rfl,A2,cap2,xs2,a5,hon,hL2,hS,hA2⟩:=hr;replace hC:=hC.add hS hb5 ho;refine⟨_,rfl,?_⟩;refine zJ ?_;refine e_R ⟨agA,?_⟩;exact⟨hC,_,_,_,_,a5,hon,hL2⟩
theorem small_r27(hI:SmSt smallT smallF smallR b0 b1 b2 b3 b4 b5 b23 b93 base capt c12 c15 At A12 A15 cr 18 KX w wc)(f:Fr)(Q:Exit->Act->World->Prop)(k7:f 7= .func (.func 15) #[] #[.pointer (some ⟨b5,0,none⟩)])(k2:f 2= .pointer (some ⟨b2,0,none⟩))(hPQ:PQ Q):WC prog (sl (sr (sr (sr (sr (sr (sr (sr (sr (sr (sr (sr (sr (sr (sr (sr (sr (sr (sr (sr (sr (sr (sr (sr (sr (sr (sr (sr (ob Tryz.f4.body))))))))))))))))))))))))))))) (QRS 256 [219,220,221,222,223,224,225,226,227,228] f (fun _ w'=>SmSt smallT smallF smallR b0 b1 b2 b3 b4 b5 b23 b93 base capt c12 c15 At A12 A15 cr 19 KQ w w') Q) 256 f wc:=by
 have bj:=hI.1.k2;refine zX 7 _ k7 nu (zX 2 _ k2 nu ?_);refine oW 9 [219,220,221,222,223,224,225,226,227] (fun _=>false) (fun ix v wv=>match ix with|0=>v= .func (.func 15) #[] #[.pointer (some ⟨b5,0,none⟩)]|1=>v= .agg cI|2=>v= .agg cI|3=>v= .agg cI|4=>SmD [] (Ts.f (Ts.b true) (Ts.b true)) wv (v)|5=>SmD [] (Ts.f (Ts.b true) (Ts.f (Ts.b true) (Ts.b true))) wv (v)|6=>TmD [] (Tv.con ⟨#[97,110,100]⟩ (Ts.f (Ts.b true) (Ts.f (Ts.b true) (Ts.b true)))) wv (v)|7=>IsP [14] wv (v)|8=>RsP [[14]] wv (v)|_=>True) kR kR ?_ ?_ ?_
 ·intro ix v wv wv2 h s1
  match ix,h with
  | 0,h=>exact h
  | 1,h=>exact h
  | 2,h=>exact h
  | 3,h=>exact h
  | 4,h=>
   obtain⟨bg,bc,b7,an,a3⟩:=h;exact⟨bg,bc,b7,an,a3.tr0 s1⟩
  | 5,h=>
   obtain⟨bf,bb,b6,ac,a2⟩:=h;exact⟨bf,bb,b6,ac,a2.tr0 s1⟩
  | 6,h=>
   obtain⟨bd,b9,be,b8,ao,ab,a1⟩:=h;exact⟨bd,b9,be,b8,ao,ab,a1.tr0 s1⟩
  | 7,h=>
   exact IsP.tr0 h s1
  | 8,h=>
   exact RsP.tr0 h s1
  | _+9,h=>exact trivial
 ·intro ix o hix hoq gg wx s2 hd bh
  match ix,hix,hoq with
  | 0,_,hoq=>
   cases sI hoq;exact oVq (xz (v:= .func _ _ _) rfl) rfl
  | 1,_,hoq=>
   cases sI hoq;exact oVq (qw U41 rfl rfl bj.u.range0 xW) rfl
  | 2,_,hoq=>
   cases sI hoq;exact oVq (qw U41 rfl rfl bj.u.range0 xW) rfl
  | 3,_,hoq=>
   cases sI hoq;exact oVq (qw U41 rfl rfl bj.u.range0 xW) rfl
  | 4,_,hoq=>
   cases sI hoq;refine a7 221 (hd 2 a8) (a7 222 (hd 3 a8) ?_);refine vZ K6 (Qx [] (Ts.b true) (Ts.b true) _ _ _ _ _ _ wx (by simp) (Fz.triv _ _ TS (fun _=>SimsIn.nil)) (Fz.triv _ _ TS (fun _=>SimsIn.nil))) rfl (fun e' w2 hr=>?_);obtain⟨⟨_,rfl,hd⟩,s3⟩:=hr;exact⟨_,rfl,sB s3,hd,y8⟩
  | 5,_,hoq=>
   cases sI hoq;obtain⟨bg,bc,b7,an,a3⟩:=hd 4 (zk kR);refine a7 220 (hd 1 a8) (zq 223 _ an nu ?_);refine vZ K6 (Qx [] (Ts.b true) (Ts.f (Ts.b true) (Ts.b true)) _ _ _ _ _ _ wx (by simp) (Fz.triv _ _ TS (fun _=>SimsIn.nil)) a3) rfl (fun e' w2 hr=>?_);obtain⟨⟨_,rfl,hd⟩,s4⟩:=hr;exact⟨_,rfl,sB s4,hd,y8⟩
  | 6,_,hoq=>
   cases sI hoq;obtain⟨bf,bb,b6,ac,a2⟩:=hd 5 (zk kR);refine zq 224 _ ac nu ?_;refine vZ Vq (Z7 [] ⟨#[97,110,100]⟩ (Ts.f (Ts.b true) (Ts.f (Ts.b true) (Ts.b true))) _ _ _ wx a2) rfl (fun e' w2 hr=>?_);obtain⟨⟨_,rfl,hd⟩,s5⟩:=hr;exact⟨_,rfl,sB s5,hd,y8⟩
  | 7,_,hoq=>
   cases sI hoq;exact jW [14] rfl U59 qJ qX
  | 8,_,hoq=>
   cases sI hoq;obtain⟨b226,bm,a9⟩:=hd 7 (zk kR);refine zq 226 _ bm nu ?_;refine jK (fun ops Q K=>?_);refine qV (cs:=#[_]) [(0,.slice _ _ _)] rfl U64 yQ xY dE dE kR rfl (fun bn w1 a4 s6 hr=>?_);exact K _ _ ⟨s6,⟨_,rfl,xx (rs:=[[14]]) a4 (.cons ⟨_,_,rfl,(a9.mono s6.bel),by decide,by decide⟩ .nil) dE⟩,fRq hr a4.lt⟩
  | _+9,hix,_=>exact absurd hix oG
 intro gg w2 s7 hR bh;obtain⟨bd,b9,be,b8,ao,ab,a1⟩:=hR 6 dE;obtain⟨bn,bk,a5⟩:=hR 8 dE;refine xj 219 _ (hR 0 dE) nu (xj 225 _ ab nu (xj 227 _ bk nu ?_));replace hI:=hI.tr0 s7;obtain⟨hC,A,cap,xs,nL,hb5,ho,hL⟩:=hI;refine yy rfl Vx (Z8 ⟨#[97,110,100]⟩ 0 (Tv.con ⟨#[97,110,100]⟩ (Ts.f (Ts.b true) (Ts.f (Ts.b true) (Ts.b true)))) _ _ _ _ _ _ [[14]] _ _ base _ _ _ _ _ _ _ _ _ KX _ dE a5 a1 hb5 ho hL hC.bs hC.l.1 dE) rfl rfl (fun e' w3 hr=>?_);obtain⟨rfl,A2,cap2,xs2,bi,hon,hL2,hS,hA2⟩:=hr;replace hC:=hC.add hS hb5 ho;refine⟨_,rfl,?_⟩;refine zJ ?_;refine e_R ⟨agA,?_⟩;exact⟨hC,_,_,_,_,bi,hon,hL2⟩
theorem small_r28(hI:SmSt smallT smallF smallR b0 b1 b2 b3 b4 b5 b23 b93 base capt c12 c15 At A12 A15 cr 19 KQ w wc)(f:Fr)(Q:Exit->Act->World->Prop)(k7:f 7= .func (.func 15) #[] #[.pointer (some ⟨b5,0,none⟩)])(k1:f 1= .pointer (some ⟨b1,0,none⟩))(k3:f 3= .pointer (some ⟨b3,0,none⟩))(hPQ:PQ Q):WC prog (sl (sr (sr (sr (sr (sr (sr (sr (sr (sr (sr (sr (sr (sr (sr (sr (sr (sr (sr (sr (sr (sr (sr (sr (sr (sr (sr (sr (sr (ob Tryz.f4.body)))))))))))))))))))))))))))))) (QRS 256 [229,230,231,232,233,234,235,236,237,238,239] f (fun _ w'=>SmSt smallT smallF smallR b0 b1 b2 b3 b4 b5 b23 b93 base capt c12 c15 At A12 A15 cr 20 KZ w w') Q) 256 f wc:=by
 have hb1:=hI.1.k1;have hb3:=hI.1.k3;have an:=hI.1.p12;refine zX 7 _ k7 nu (zX 1 _ k1 nu (zX 3 _ k3 nu ?_));refine oW 10 [229,230,231,232,233,234,235,236,237,238] (fun _=>false) (fun ix v wv=>match ix with|0=>v= .func (.func 15) #[] #[.pointer (some ⟨b5,0,none⟩)]|1=>v= .agg #[.string (tyET).sm.base,.slice A12 (tyET).sm.args.length c12]|2=>TmD [] (Tv.var 0) wv (v)|3=>v= .agg #[.string ((Ts.b false)).sm.base,.slice none ((Ts.b false)).sm.args.length 0]|4=>TmD [] (Tv.con ⟨#[114,101,120]⟩ (Ts.b false)) wv (v)|5=>TmD [] (Tv.app (Tv.var 0) (Tv.con ⟨#[114,101,120]⟩ (Ts.b false))) wv (v)|6=>TmD [] (Tv.abs tyET (Tv.app (Tv.var 0) (Tv.con ⟨#[114,101,120]⟩ (Ts.b false)))) wv (v)|7=>IsP [7,4,1] wv (v)|8=>IsP [4] wv (v)|9=>RsP [[7,4,1],[4]] wv (v)|_=>True) kR kR ?_ ?_ ?_
 ·intro ix v wv wv2 h s1
  match ix,h with
  | 0,h=>exact h
  | 1,h=>exact h
  | 2,h=>
   obtain⟨br,bm,bw,bh,bd,b8,a4⟩:=h;exact⟨br,bm,bw,bh,bd,b8,a4.tr0 s1⟩
  | 3,h=>exact h
  | 4,h=>
   obtain⟨bq,bk,bv,bg,bc,b7,a3⟩:=h;exact⟨bq,bk,bv,bg,bc,b7,a3.tr0 s1⟩
  | 5,h=>
   obtain⟨bo,bj,bu,bf,bb,b6,a2⟩:=h;exact⟨bo,bj,bu,bf,bb,b6,a2.tr0 s1⟩
  | 6,h=>
   obtain⟨bn,bi,bt,be,b9,ao,a1⟩:=h;exact⟨bn,bi,bt,be,b9,ao,a1.tr0 s1⟩
  | 7,h=>
   exact IsP.tr0 h s1
  | 8,h=>
   exact IsP.tr0 h s1
  | 9,h=>
   exact RsP.tr0 h s1
  | _+10,h=>exact trivial
 ·intro ix o hix hoq gg wx s2 hd bx
  match ix,hix,hoq with
  | 0,_,hoq=>
   cases sI hoq;exact oVq (xz (v:= .func _ _ _) rfl) rfl
  | 1,_,hoq=>
   cases sI hoq;exact oVq (qw U41 rfl rfl hb3.u.range0 xW) rfl
  | 2,_,hoq=>
   cases sI hoq;refine vZ Y9 (jw [] 0 wx) rfl (fun e' w2 hr=>?_);obtain⟨⟨_,rfl,hd⟩,s3⟩:=hr;exact⟨_,rfl,sB s3,hd,y8⟩
  | 3,_,hoq=>
   cases sI hoq;exact oVq (qw U41 rfl rfl hb1.u.range0 xW) rfl
  | 4,_,hoq=>
   cases sI hoq;refine a7 232 (hd 3 a8) ?_;refine vZ Vq (Z7 [] ⟨#[114,101,120]⟩ (Ts.b false) _ _ _ wx (Fz.triv _ _ TS (fun _=>SimsIn.nil))) rfl (fun e' w2 hr=>?_);obtain⟨⟨_,rfl,hd⟩,s4⟩:=hr;exact⟨_,rfl,sB s4,hd,y8⟩
  | 5,_,hoq=>
   cases sI hoq;obtain⟨br,bm,bw,bh,bd,b8,a4⟩:=hd 2 (zk kR);obtain⟨bq,bk,bv,bg,bc,b7,a3⟩:=hd 4 (zk kR);refine zq 231 _ b8 nu (zq 233 _ b7 nu ?_);refine vZ JQ (Qq [] (Tv.var 0) (Tv.con ⟨#[114,101,120]⟩ (Ts.b false)) _ _ _ _ _ _ _ _ _ _ wx (by simp) a4 a3) rfl (fun e' w2 hr=>?_);obtain⟨⟨_,rfl,hd⟩,s5⟩:=hr;exact⟨_,rfl,sB s5,hd,y8⟩
  | 6,_,hoq=>
   cases sI hoq;obtain⟨bo,bj,bu,bf,bb,b6,a2⟩:=hd 5 (zk kR);refine a7 230 (hd 1 a8) (zq 234 _ b6 nu ?_);replace an:=an.tr0 s2;refine vZ Yz (gz [] tyET (Tv.app (Tv.var 0) (Tv.con ⟨#[114,101,120]⟩ (Ts.b false))) _ _ _ _ _ _ _ _ wx (by simp) an a2) rfl (fun e' w2 hr=>?_);obtain⟨⟨_,rfl,hd⟩,s6⟩:=hr;exact⟨_,rfl,sB s6,hd,y8⟩
  | 7,_,hoq=>
   cases sI hoq;exact jW [7,4,1] rfl U59 qJ qX
  | 8,_,hoq=>
   cases sI hoq;exact jW [4] rfl U59 qJ qX
  | 9,_,hoq=>
   cases sI hoq;obtain⟨b236,c2,ac⟩:=hd 7 (zk kR);obtain⟨b237,c1,ab⟩:=hd 8 (zk kR);refine zq 236 _ c2 nu (zq 237 _ c1 nu ?_);refine jK (fun ops Q K=>?_);refine qV (cs:=#[_,_]) [(0,.slice _ _ _),(1,.slice _ _ _)] rfl U64 yQ xY dE dE kR rfl (fun c3 w1 a5 s7 hr=>?_);exact K _ _ ⟨s7,⟨_,rfl,xx (rs:=[[7,4,1],[4]]) a5 (.cons ⟨_,_,rfl,(ac.mono s7.bel),by decide,by decide⟩ (.cons ⟨_,_,rfl,(ab.mono s7.bel),by decide,by decide⟩ .nil)) dE⟩,fRq hr a5.lt⟩
  | _+10,hix,_=>exact absurd hix oG
 intro gg w2 s8 hR bx;obtain⟨bn,bi,bt,be,b9,ao,a1⟩:=hR 6 dE;obtain⟨c3,c0,a9⟩:=hR 9 dE;refine xj 229 _ (hR 0 dE) nu (xj 235 _ ao nu (xj 238 _ c0 nu ?_));replace hI:=hI.tr0 s8;obtain⟨hC,A,cap,xs,nL,hb5,ho,hL⟩:=hI;refine yy rfl Vx (Z8 ⟨#[114,101,120]⟩ 0 (Tv.abs tyET (Tv.app (Tv.var 0) (Tv.con ⟨#[114,101,120]⟩ (Ts.b false)))) _ _ _ _ _ _ [[7,4,1],[4]] _ _ base _ _ _ _ _ _ _ _ _ KQ _ dE a9 a1 hb5 ho hL hC.bs hC.l.1 dE) rfl rfl (fun e' w3 hr=>?_);obtain⟨rfl,A2,cap2,xs2,bz,hon,hL2,hS,hA2⟩:=hr;replace hC:=hC.add hS hb5 ho;refine⟨_,rfl,?_⟩;refine zJ ?_;refine e_R ⟨agA,?_⟩;exact⟨hC,_,_,_,_,bz,hon,hL2⟩
theorem small_r29(hI:SmSt smallT smallF smallR b0 b1 b2 b3 b4 b5 b23 b93 base capt c12 c15 At A12 A15 cr 20 KZ w wc)(f:Fr)(Q:Exit->Act->World->Prop)(k7:f 7= .func (.func 15) #[] #[.pointer (some ⟨b5,0,none⟩)])(k1:f 1= .pointer (some ⟨b1,0,none⟩))(k3:f 3= .pointer (some ⟨b3,0,none⟩))(hPQ:PQ Q):WC prog (sl (sr (sr (sr (sr (sr (sr (sr (sr (sr (sr (sr (sr (sr (sr (sr (sr (sr (sr (sr (sr (sr (sr (sr (sr (sr (sr (sr (sr (sr (ob Tryz.f4.body))))))))))))))))))))))))))))))) (QRS 256 [240,241,242,243,244,245,246,247,248,249,250] f (fun _ w'=>SmSt smallT smallF smallR b0 b1 b2 b3 b4 b5 b23 b93 base capt c12 c15 At A12 A15 cr 21 Cq w w') Q) 256 f wc:=by
 have hb1:=hI.1.k1;have hb3:=hI.1.k3;have an:=hI.1.p12;refine zX 7 _ k7 nu (zX 1 _ k1 nu (zX 3 _ k3 nu ?_));refine oW 10 [240,241,242,243,244,245,246,247,248,249] (fun _=>false) (fun ix v wv=>match ix with|0=>v= .func (.func 15) #[] #[.pointer (some ⟨b5,0,none⟩)]|1=>v= .agg #[.string (tyET).sm.base,.slice A12 (tyET).sm.args.length c12]|2=>TmD [] (Tv.var 0) wv (v)|3=>v= .agg #[.string ((Ts.b false)).sm.base,.slice none ((Ts.b false)).sm.args.length 0]|4=>TmD [] (Tv.con ⟨#[109,105,97]⟩ (Ts.b false)) wv (v)|5=>TmD [] (Tv.app (Tv.var 0) (Tv.con ⟨#[109,105,97]⟩ (Ts.b false))) wv (v)|6=>TmD [] (Tv.abs tyET (Tv.app (Tv.var 0) (Tv.con ⟨#[109,105,97]⟩ (Ts.b false)))) wv (v)|7=>IsP [7,4,1] wv (v)|8=>IsP [4] wv (v)|9=>RsP [[7,4,1],[4]] wv (v)|_=>True) kR kR ?_ ?_ ?_
 ·intro ix v wv wv2 h s1
  match ix,h with
  | 0,h=>exact h
  | 1,h=>exact h
  | 2,h=>
   obtain⟨br,bm,bw,bh,bd,b8,a4⟩:=h;exact⟨br,bm,bw,bh,bd,b8,a4.tr0 s1⟩
  | 3,h=>exact h
  | 4,h=>
   obtain⟨bq,bk,bv,bg,bc,b7,a3⟩:=h;exact⟨bq,bk,bv,bg,bc,b7,a3.tr0 s1⟩
  | 5,h=>
   obtain⟨bo,bj,bu,bf,bb,b6,a2⟩:=h;exact⟨bo,bj,bu,bf,bb,b6,a2.tr0 s1⟩
  | 6,h=>
   obtain⟨bn,bi,bt,be,b9,ao,a1⟩:=h;exact⟨bn,bi,bt,be,b9,ao,a1.tr0 s1⟩
  | 7,h=>
   exact IsP.tr0 h s1
  | 8,h=>
   exact IsP.tr0 h s1
  | 9,h=>
   exact RsP.tr0 h s1
  | _+10,h=>exact trivial
 ·intro ix o hix hoq gg wx s2 hd bx
  match ix,hix,hoq with
  | 0,_,hoq=>
   cases sI hoq;exact oVq (xz (v:= .func _ _ _) rfl) rfl
  | 1,_,hoq=>
   cases sI hoq;exact oVq (qw U41 rfl rfl hb3.u.range0 xW) rfl
  | 2,_,hoq=>
   cases sI hoq;refine vZ Y9 (jw [] 0 wx) rfl (fun e' w2 hr=>?_);obtain⟨⟨_,rfl,hd⟩,s3⟩:=hr;exact⟨_,rfl,sB s3,hd,y8⟩
  | 3,_,hoq=>
   cases sI hoq;exact oVq (qw U41 rfl rfl hb1.u.range0 xW) rfl
  | 4,_,hoq=>
   cases sI hoq;refine a7 243 (hd 3 a8) ?_;refine vZ Vq (Z7 [] ⟨#[109,105,97]⟩ (Ts.b false) _ _ _ wx (Fz.triv _ _ TS (fun _=>SimsIn.nil))) rfl (fun e' w2 hr=>?_);obtain⟨⟨_,rfl,hd⟩,s4⟩:=hr;exact⟨_,rfl,sB s4,hd,y8⟩
  | 5,_,hoq=>
   cases sI hoq;obtain⟨br,bm,bw,bh,bd,b8,a4⟩:=hd 2 (zk kR);obtain⟨bq,bk,bv,bg,bc,b7,a3⟩:=hd 4 (zk kR);refine zq 242 _ b8 nu (zq 244 _ b7 nu ?_);refine vZ JQ (Qq [] (Tv.var 0) (Tv.con ⟨#[109,105,97]⟩ (Ts.b false)) _ _ _ _ _ _ _ _ _ _ wx (by simp) a4 a3) rfl (fun e' w2 hr=>?_);obtain⟨⟨_,rfl,hd⟩,s5⟩:=hr;exact⟨_,rfl,sB s5,hd,y8⟩
  | 6,_,hoq=>
   cases sI hoq;obtain⟨bo,bj,bu,bf,bb,b6,a2⟩:=hd 5 (zk kR);refine a7 241 (hd 1 a8) (zq 245 _ b6 nu ?_);replace an:=an.tr0 s2;refine vZ Yz (gz [] tyET (Tv.app (Tv.var 0) (Tv.con ⟨#[109,105,97]⟩ (Ts.b false))) _ _ _ _ _ _ _ _ wx (by simp) an a2) rfl (fun e' w2 hr=>?_);obtain⟨⟨_,rfl,hd⟩,s6⟩:=hr;exact⟨_,rfl,sB s6,hd,y8⟩
  | 7,_,hoq=>
   cases sI hoq;exact jW [7,4,1] rfl U59 qJ qX
  | 8,_,hoq=>
   cases sI hoq;exact jW [4] rfl U59 qJ qX
  | 9,_,hoq=>
   cases sI hoq;obtain⟨b247,c2,ac⟩:=hd 7 (zk kR);obtain⟨b248,c1,ab⟩:=hd 8 (zk kR);refine zq 247 _ c2 nu (zq 248 _ c1 nu ?_);refine jK (fun ops Q K=>?_);refine qV (cs:=#[_,_]) [(0,.slice _ _ _),(1,.slice _ _ _)] rfl U64 yQ xY dE dE kR rfl (fun c3 w1 a5 s7 hr=>?_);exact K _ _ ⟨s7,⟨_,rfl,xx (rs:=[[7,4,1],[4]]) a5 (.cons ⟨_,_,rfl,(ac.mono s7.bel),by decide,by decide⟩ (.cons ⟨_,_,rfl,(ab.mono s7.bel),by decide,by decide⟩ .nil)) dE⟩,fRq hr a5.lt⟩
  | _+10,hix,_=>exact absurd hix oG
 intro gg w2 s8 hR bx;obtain⟨bn,bi,bt,be,b9,ao,a1⟩:=hR 6 dE;obtain⟨c3,c0,a9⟩:=hR 9 dE;refine xj 240 _ (hR 0 dE) nu (xj 246 _ ao nu (xj 249 _ c0 nu ?_));replace hI:=hI.tr0 s8;obtain⟨hC,A,cap,xs,nL,hb5,ho,hL⟩:=hI;refine yy rfl Vx (Z8 ⟨#[109,105,97]⟩ 0 (Tv.abs tyET (Tv.app (Tv.var 0) (Tv.con ⟨#[109,105,97]⟩ (Ts.b false)))) _ _ _ _ _ _ [[7,4,1],[4]] _ _ base _ _ _ _ _ _ _ _ _ KZ _ dE a9 a1 hb5 ho hL hC.bs hC.l.1 dE) rfl rfl (fun e' w3 hr=>?_);obtain⟨rfl,A2,cap2,xs2,bz,hon,hL2,hS,hA2⟩:=hr;replace hC:=hC.add hS hb5 ho;refine⟨_,rfl,?_⟩;refine zJ ?_;refine e_R ⟨agA,?_⟩;exact⟨hC,_,_,_,_,bz,hon,hL2⟩
end
end Go.Proofs.YtgcgnkmmbecfmaaGreatDoor
