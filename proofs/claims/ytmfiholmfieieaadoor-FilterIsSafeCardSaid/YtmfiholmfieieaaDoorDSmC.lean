/- Plain laws, and steps of programs, at every world. -/
import Derived.Test.YtmfiholmfieieaaDoorU
import Derived.Test.YtmfiholmfieieaaDoorZst
import Derived.Test.YtmfiholmfieieaaDoorWRc
import Derived.Test.YtmfiholmfieieaaDoorDSh
import Derived.Test.YtmfiholmfieieaaDoorDMe
namespace Go.Proofs.YtmfiholmfieieaaDoor
open Go.RowKit
set_option maxHeartbeats 1000000
variable {A:Prop}
section
def LZ:List ByteArray:=[⟨#[116,111,112]⟩,⟨#[114,117,108,101]⟩,⟨#[115,105,103,110]⟩,⟨#[110,117,109]⟩,⟨#[115,105,110,103]⟩,⟨#[112,108,117,114]⟩,⟨#[115]⟩,⟨#[110,112]⟩,⟨#[118,112]⟩,⟨#[110]⟩,⟨#[100,101,116]⟩,⟨#[105,118]⟩,⟨#[116,118]⟩,⟨#[97,100,118]⟩,⟨#[99,111,110,106]⟩]
def Ly:List Int:=[0,0,0,0,3,3,2,2,2,2,2,2,2,2,2]
def qX:List Ft:=[⟨⟨#[109,111,116,104,101,114]⟩,1,2⟩,⟨⟨#[111,110,101]⟩,1,2⟩,⟨⟨#[116,119,111]⟩,1,2⟩,⟨⟨#[116,104,114,101,101]⟩,1,2⟩,⟨⟨#[110,117,109]⟩,2,3⟩]
def smallT:List Ty:=Vy LZ Ly 15
def T4:RlS:=⟨⟨#[115]⟩,[[1,0,1,1,2,2,4],[6],[7,4,3],[3],[8,4,3]],2,0,(XQ[0]'dE)⟩
def T2:RlS:=⟨⟨#[110,112]⟩,[[1,0,1,1,3,2,4],[7,4,2],[3],[10,4,2],[9,4,2]],2,1,(XQ[1]'dE)⟩
def T1:RlS:=⟨⟨#[118,112,45,105,118]⟩,[[1,0,1,1,3],[8,4,2],[3],[11,4,2]],1,0,(XQ[2]'dE)⟩
def T0:RlS:=⟨⟨#[118,112,45,116,118]⟩,[[1,0,1,1,3,2,4],[8,4,2],[3],[12,4,2],[7]],2,2,(XQ[3]'dE)⟩
def SY:RlS:=⟨⟨#[118,112,45,110,111,116]⟩,[[1,0,1,1,3,2,4],[8,4,2],[3],[13],[8,4,2]],2,3,(XQ[4]'dE)⟩
def SW:RlS:=⟨⟨#[110,112,45,97,110,100]⟩,[[1,0,1,1,3,2,4,3,5],[7,4,2],[5],[7],[14],[7]],3,4,(XQ[5]'dE)⟩
def smallRs:List RlS:=[T4,T2,T1,T0,SY,SW]
def qv:List Rl:=smallRs.map RlS.rl
def smallW0:LxS:=⟨⟨#[101,118,101,114,121]⟩,[[10,4,1],[4]],1,(quN ⟨#[97,108,108]⟩ ⟨#[105,102]⟩)⟩
def smallW1:LxS:=⟨⟨#[97]⟩,[[10,4,1],[4]],0,(quN ⟨#[115,111,109,101]⟩ ⟨#[97,110,100]⟩)⟩
def smallW2:LxS:=⟨⟨#[110,111]⟩,[[10]],2,(quY ⟨#[115,111,109,101]⟩ ⟨#[97,110,100]⟩)⟩
def smallW3:LxS:=⟨⟨#[100,111,103]⟩,[[9,4,1],[4]],0,(Tv.con ⟨#[100,111,103]⟩ tyET)⟩
def smallW4:LxS:=⟨⟨#[100,111,103,115]⟩,[[9,4,1],[5]],0,(Tv.con ⟨#[100,111,103]⟩ tyET)⟩
def smallW5:LxS:=⟨⟨#[99,97,116]⟩,[[9,4,1],[4]],0,(Tv.con ⟨#[99,97,116]⟩ tyET)⟩
def smallW6:LxS:=⟨⟨#[99,97,116,115]⟩,[[9,4,1],[5]],0,(Tv.con ⟨#[99,97,116]⟩ tyET)⟩
def smallW7:LxS:=⟨⟨#[102,105,115,104]⟩,[[9,4,1],[4]],1,(Tv.con ⟨#[102,105,115,104]⟩ tyET)⟩
def smallW8:LxS:=⟨⟨#[102,105,115,104]⟩,[[9,4,1],[5]],2,(Tv.con ⟨#[102,105,115,104]⟩ tyET)⟩
def smallW9:LxS:=⟨⟨#[98,97,114,107,115]⟩,[[11,4,1],[4]],0,(Tv.con ⟨#[98,97,114,107]⟩ tyET)⟩
def smallW10:LxS:=⟨⟨#[98,97,114,107]⟩,[[11,4,1],[5]],0,(Tv.con ⟨#[98,97,114,107]⟩ tyET)⟩
def smallW11:LxS:=⟨⟨#[115,108,101,101,112,115]⟩,[[11,4,1],[4]],0,(Tv.con ⟨#[115,108,101,101,112]⟩ tyET)⟩
def smallW12:LxS:=⟨⟨#[115,108,101,101,112]⟩,[[11,4,1],[5]],0,(Tv.con ⟨#[115,108,101,101,112]⟩ tyET)⟩
def smallW13:LxS:=⟨⟨#[99,104,97,115,101,115]⟩,[[12,4,1],[4]],0,(Tv.con ⟨#[99,104,97,115,101]⟩ tyEET)⟩
def smallW14:LxS:=⟨⟨#[99,104,97,115,101]⟩,[[12,4,1],[5]],0,(Tv.con ⟨#[99,104,97,115,101]⟩ tyEET)⟩
def smallW15:LxS:=⟨⟨#[115,101,101,115]⟩,[[12,4,1],[4]],1,(Tv.con ⟨#[115,101,101]⟩ tyEET)⟩
def smallW16:LxS:=⟨⟨#[115,101,101]⟩,[[12,4,1],[5]],1,(Tv.con ⟨#[115,101,101]⟩ tyEET)⟩
def smallW17:LxS:=⟨⟨#[110,111,116]⟩,[[13]],0,(Tv.con ⟨#[110,111,116]⟩ (Ts.f (Ts.b true) (Ts.b true)))⟩
def smallW18:LxS:=⟨⟨#[97,110,100]⟩,[[14]],0,(Tv.con ⟨#[97,110,100]⟩ (Ts.f (Ts.b true) (Ts.f (Ts.b true) (Ts.b true))))⟩
def smallW19:LxS:=⟨⟨#[114,101,120]⟩,[[7,4,1],[4]],0,(Tv.abs tyET (Tv.app (Tv.var 0) (Tv.con ⟨#[114,101,120]⟩ (Ts.b false))))⟩
def smallW20:LxS:=⟨⟨#[109,105,97]⟩,[[7,4,1],[4]],0,(Tv.abs tyET (Tv.app (Tv.var 0) (Tv.con ⟨#[109,105,97]⟩ (Ts.b false))))⟩
def smallXs:List LxS:=[smallW0,smallW1,smallW2,smallW3,smallW4,smallW5,smallW6,smallW7,smallW8,smallW9,smallW10,smallW11,smallW12,smallW13,smallW14,smallW15,smallW16,smallW17,smallW18,smallW19,smallW20]
def OX:List Lx:=[]
def M8:List Lx:=OX++[smallW0.lx]
def M7:List Lx:=M8++[smallW1.lx]
def M6:List Lx:=M7++[smallW2.lx]
def M5:List Lx:=M6++[smallW3.lx]
def M4:List Lx:=M5++[smallW4.lx]
def M3:List Lx:=M4++[smallW5.lx]
def M2:List Lx:=M3++[smallW6.lx]
def M1:List Lx:=M2++[smallW7.lx]
def IY:List Lx:=M1++[smallW8.lx]
def Jw:List Lx:=IY++[smallW9.lx]
def Jv:List Lx:=Jw++[smallW10.lx]
def Jk:List Lx:=Jv++[smallW11.lx]
def Jj:List Lx:=Jk++[smallW12.lx]
def Jx:List Lx:=Jj++[smallW13.lx]
def Jq:List Lx:=Jx++[smallW14.lx]
def Jz:List Lx:=Jq++[smallW15.lx]
def J9:List Lx:=Jz++[smallW16.lx]
def J8:List Lx:=J9++[smallW17.lx]
def J7:List Lx:=J8++[smallW18.lx]
def J6:List Lx:=J7++[smallW19.lx]
def PZ:List Lx:=J6++[smallW20.lx]
def YK:List Lx:=PZ
def PX:List Nd:=([[6]]:List (List Int)).map VK
theorem sz26_DSmA:(Tryd.prog.info? 26).map (·.size)=some 1:=by kernel_rfl
theorem QQ:(Tryd.prog.info? 66).map (·.size)=some 10:=by kernel_rfl
theorem xq:(Tryd.prog.info? 36).map (·.zero)=some (some (.slice none 0 0)):=by kernel_rfl
theorem Nx:(Tryd.prog.info? 66).map (·.zero)=some (some (.agg cF)):=by kernel_rfl
variable {w wc:World} {b0 b1 b2 b3 b4 b5 b23 b93 base capt c12 c15:Nat} {At A12 A15:Option Addr} {cr:Array Value}
set_option maxHeartbeats 4000000 in
theorem small_r7{bm nm:Nat}{csm:List Value}(a9:Blk wc b5 32 #[.slice At 15 capt,.slice (some ⟨b23,0,none⟩) 5 5,.slice none 0 0,.slice none 0 0,.slice none 0 0])(a1:Blk wc bm 64 csm.toArray)(a2:TmCs nm wc XQ csm)(f:Fr)(Q:Exit->Act->World->Prop)(k6:f 6= .slice (some ⟨bm,0,none⟩) 6 6)(k5:f 5= .pointer (some ⟨b5,0,none⟩))(_hPQ:PQ Q):WC Tryd.prog (sl (sr (sr (sr (sr (sr (sr (sr (ob Tryd.f6.body))))))))) (QRS 256 [27,28,29,30,31,32,33,34,35,36,37,38,39,40,41,42,43,44,45,46,47,48,49,50,51,52,53,54,55,56,57,58,59,60,61,62,63,64,65,66,67,68,69,70,71,72,73,74,75,76,77,78,79,80,81,82,83,84,85,86,87,88,89,90,91,92,93,94] f (fun _ w'=>Same [b5] wc w'/\∃ ab cr cf,wc.heap.size<=ab/\Blk w' ab 66 cr/\Fz [] cf TS w' (fun w=>RlCs w qv cr.toList)/\Blk w' b5 32 #[.slice At 15 capt,.slice (some ⟨b23,0,none⟩) 5 5,.slice (some ⟨ab,0,none⟩) 6 6,.slice none 0 0,.slice none 0 0]) Q) 256 f wc:=by
 have hZ:Same [b5] wc wc:=(Same.refl [] wc).weak (by simp);refine zZ 6 _ k6 nu (zZ 5 _ k5 nu ?_);have z5:=a9.lt;refine Zj 67 [27,28,29,30,31,32,33,34,35,36,37,38,39,40,41,42,43,44,45,46,47,48,49,50,51,52,53,54,55,56,57,58,59,60,61,62,63,64,65,66,67,68,69,70,71,72,73,74,75,76,77,78,79,80,81,82,83,84,85,86,87,88,89,90,91,92,93] (fun ix=>Nat.beq ix 66) (fun ix v wv=>match ix with|0=>v= .slice (some ⟨bm,0,none⟩) 6 6|1=>v= .pointer (some ⟨bm,0+0*6,none⟩)|2=>TmD [] (XQ[0]'dE) wv (v)|3=>IsP [1,0,1,1,2,2,4] wv (v)|4=>IsP [6] wv (v)|5=>IsP [7,4,3] wv (v)|6=>IsP [3] wv (v)|7=>IsP [8,4,3] wv (v)|8=>RsP [[1,0,1,1,2,2,4],[6],[7,4,3],[3],[8,4,3]] wv (v)|9=>GrP [[1,0,1,1,2,2,4],[6],[7,4,3],[3],[8,4,3]] wv (v)|10=>RlP T4 wv (v)|11=>v= .slice (some ⟨bm,0,none⟩) 6 6|12=>v= .pointer (some ⟨bm,0+1*6,none⟩)|13=>TmD [] (XQ[1]'dE) wv (v)|14=>IsP [1,0,1,1,3,2,4] wv (v)|15=>IsP [7,4,2] wv (v)|16=>IsP [3] wv (v)|17=>IsP [10,4,2] wv (v)|18=>IsP [9,4,2] wv (v)|19=>RsP [[1,0,1,1,3,2,4],[7,4,2],[3],[10,4,2],[9,4,2]] wv (v)|20=>GrP [[1,0,1,1,3,2,4],[7,4,2],[3],[10,4,2],[9,4,2]] wv (v)|21=>RlP T2 wv (v)|22=>v= .slice (some ⟨bm,0,none⟩) 6 6|23=>v= .pointer (some ⟨bm,0+2*6,none⟩)|24=>TmD [] (XQ[2]'dE) wv (v)|25=>IsP [1,0,1,1,3] wv (v)|26=>IsP [8,4,2] wv (v)|27=>IsP [3] wv (v)|28=>IsP [11,4,2] wv (v)|29=>RsP [[1,0,1,1,3],[8,4,2],[3],[11,4,2]] wv (v)|30=>GrP [[1,0,1,1,3],[8,4,2],[3],[11,4,2]] wv (v)|31=>RlP T1 wv (v)|32=>v= .slice (some ⟨bm,0,none⟩) 6 6|33=>v= .pointer (some ⟨bm,0+3*6,none⟩)|34=>TmD [] (XQ[3]'dE) wv (v)|35=>IsP [1,0,1,1,3,2,4] wv (v)|36=>IsP [8,4,2] wv (v)|37=>IsP [3] wv (v)|38=>IsP [12,4,2] wv (v)|39=>IsP [7] wv (v)|40=>RsP [[1,0,1,1,3,2,4],[8,4,2],[3],[12,4,2],[7]] wv (v)|41=>GrP [[1,0,1,1,3,2,4],[8,4,2],[3],[12,4,2],[7]] wv (v)|42=>RlP T0 wv (v)|43=>v= .slice (some ⟨bm,0,none⟩) 6 6|44=>v= .pointer (some ⟨bm,0+4*6,none⟩)|45=>TmD [] (XQ[4]'dE) wv (v)|46=>IsP [1,0,1,1,3,2,4] wv (v)|47=>IsP [8,4,2] wv (v)|48=>IsP [3] wv (v)|49=>IsP [13] wv (v)|50=>IsP [8,4,2] wv (v)|51=>RsP [[1,0,1,1,3,2,4],[8,4,2],[3],[13],[8,4,2]] wv (v)|52=>GrP [[1,0,1,1,3,2,4],[8,4,2],[3],[13],[8,4,2]] wv (v)|53=>RlP SY wv (v)|54=>v= .slice (some ⟨bm,0,none⟩) 6 6|55=>v= .pointer (some ⟨bm,0+5*6,none⟩)|56=>TmD [] (XQ[5]'dE) wv (v)|57=>IsP [1,0,1,1,3,2,4,3,5] wv (v)|58=>IsP [7,4,2] wv (v)|59=>IsP [5] wv (v)|60=>IsP [7] wv (v)|61=>IsP [14] wv (v)|62=>IsP [7] wv (v)|63=>RsP [[1,0,1,1,3,2,4,3,5],[7,4,2],[5],[7],[14],[7]] wv (v)|64=>GrP [[1,0,1,1,3,2,4,3,5],[7,4,2],[5],[7],[14],[7]] wv (v)|65=>RlP SW wv (v)|66=>∃ b cs n,v= .slice (some ⟨b,0,none⟩) 6 6/\wc.heap.size<=b/\Blk wv b 66 cs/\Fz [] n TS wv (fun w=>RlCs w qv cs.toList)|_=>True) kR kR ?_ ?_ ?_
 ·intro ix v wv wv2 h s1
  match ix,h with
  | 0,h=>exact h
  | 1,h=>exact h
  | 2,h=>
   exact TmD.tr0 h s1
  | 3,h=>
   exact IsP.tr0 h s1
  | 4,h=>
   exact IsP.tr0 h s1
  | 5,h=>
   exact IsP.tr0 h s1
  | 6,h=>
   exact IsP.tr0 h s1
  | 7,h=>
   exact IsP.tr0 h s1
  | 8,h=>
   exact RsP.tr0 h s1
  | 9,h=>
   exact GrP.tr0 h s1
  | 10,h=>
   exact RlP.tr0 h s1
  | 11,h=>exact h
  | 12,h=>exact h
  | 13,h=>
   exact TmD.tr0 h s1
  | 14,h=>
   exact IsP.tr0 h s1
  | 15,h=>
   exact IsP.tr0 h s1
  | 16,h=>
   exact IsP.tr0 h s1
  | 17,h=>
   exact IsP.tr0 h s1
  | 18,h=>
   exact IsP.tr0 h s1
  | 19,h=>
   exact RsP.tr0 h s1
  | 20,h=>
   exact GrP.tr0 h s1
  | 21,h=>
   exact RlP.tr0 h s1
  | 22,h=>exact h
  | 23,h=>exact h
  | 24,h=>
   exact TmD.tr0 h s1
  | 25,h=>
   exact IsP.tr0 h s1
  | 26,h=>
   exact IsP.tr0 h s1
  | 27,h=>
   exact IsP.tr0 h s1
  | 28,h=>
   exact IsP.tr0 h s1
  | 29,h=>
   exact RsP.tr0 h s1
  | 30,h=>
   exact GrP.tr0 h s1
  | 31,h=>
   exact RlP.tr0 h s1
  | 32,h=>exact h
  | 33,h=>exact h
  | 34,h=>
   exact TmD.tr0 h s1
  | 35,h=>
   exact IsP.tr0 h s1
  | 36,h=>
   exact IsP.tr0 h s1
  | 37,h=>
   exact IsP.tr0 h s1
  | 38,h=>
   exact IsP.tr0 h s1
  | 39,h=>
   exact IsP.tr0 h s1
  | 40,h=>
   exact RsP.tr0 h s1
  | 41,h=>
   exact GrP.tr0 h s1
  | 42,h=>
   exact RlP.tr0 h s1
  | 43,h=>exact h
  | 44,h=>exact h
  | 45,h=>
   exact TmD.tr0 h s1
  | 46,h=>
   exact IsP.tr0 h s1
  | 47,h=>
   exact IsP.tr0 h s1
  | 48,h=>
   exact IsP.tr0 h s1
  | 49,h=>
   exact IsP.tr0 h s1
  | 50,h=>
   exact IsP.tr0 h s1
  | 51,h=>
   exact RsP.tr0 h s1
  | 52,h=>
   exact GrP.tr0 h s1
  | 53,h=>
   exact RlP.tr0 h s1
  | 54,h=>exact h
  | 55,h=>exact h
  | 56,h=>
   exact TmD.tr0 h s1
  | 57,h=>
   exact IsP.tr0 h s1
  | 58,h=>
   exact IsP.tr0 h s1
  | 59,h=>
   exact IsP.tr0 h s1
  | 60,h=>
   exact IsP.tr0 h s1
  | 61,h=>
   exact IsP.tr0 h s1
  | 62,h=>
   exact IsP.tr0 h s1
  | 63,h=>
   exact RsP.tr0 h s1
  | 64,h=>
   exact GrP.tr0 h s1
  | 65,h=>
   exact RlP.tr0 h s1
  | 66,h=>
   obtain⟨ab,cr,cf,de,lo93,a4,ce⟩:=h;exact⟨ab,cr,cf,de,lo93,a4.tr0 s1,ce.tr0 s1⟩
  | _+67,h=>exact trivial
 ·intro ix o hix hoq gg wx s2 hd dc
  match ix,hix,hoq with
  | 0,_,hoq=>
   cases sI hoq;exact oVq (x7 (v:= .slice _ _ _) rfl) rfl
  | 1,_,hoq=>
   cases sI hoq;refine aX 27 (hd 0 aY) ?_;exact oVq (xW (i:=0) U62 kz rfl rfl dE rfl) rfl
  | 2,_,hoq=>
   cases sI hoq;replace a1:=a1.tr0 s2;replace a2:=a2.tr0 s2;obtain⟨S0,B0,c0,d0,a7,a5⟩:=a2.at_ a1 (k:=0) dE;refine aX 28 (hd 1 aY) ?_;exact oVq (qK U64 rfl rfl a7 kz) ⟨_,_,_,_,_,rfl,a5⟩
  | 3,_,hoq=>
   cases sI hoq;exact vK [1,0,1,1,2,2,4] rfl U36 zY zW
  | 4,_,hoq=>
   cases sI hoq;exact vK [6] rfl U36 zY zW
  | 5,_,hoq=>
   cases sI hoq;exact vK [7,4,3] rfl U36 zY zW
  | 6,_,hoq=>
   cases sI hoq;exact vK [3] rfl U36 zY zW
  | 7,_,hoq=>
   cases sI hoq;exact vK [8,4,3] rfl U36 zY zW
  | 8,_,hoq=>
   cases sI hoq;obtain⟨b30,e30,c6⟩:=hd 3 (zq kR);obtain⟨b31,e31,c5⟩:=hd 4 (zq kR);obtain⟨b32,e32,c4⟩:=hd 5 (zq kR);obtain⟨b33,e33,c3⟩:=hd 6 (zq kR);obtain⟨b34,e34,c2⟩:=hd 7 (zq kR);refine zz 30 _ e30 nu (zz 31 _ e31 nu (zz 32 _ e32 nu (zz 33 _ e33 nu (zz 34 _ e34 nu ?_))));refine jK (fun ops Q K=>?_);refine qj (cs:=#[_,_,_,_,_]) [(0,.slice _ _ _),(1,.slice _ _ _),(2,.slice _ _ _),(3,.slice _ _ _),(4,.slice _ _ _)] rfl U86 xK xq dE dE kR rfl (fun b35 w1 cd s3 hr=>?_);exact K _ _ ⟨s3,⟨_,rfl,qY (rs:=[[1,0,1,1,2,2,4],[6],[7,4,3],[3],[8,4,3]]) cd (.cons ⟨_,_,rfl,(c6.mono s3.bel),by decide,by decide⟩ (.cons ⟨_,_,rfl,(c5.mono s3.bel),by decide,by decide⟩ (.cons ⟨_,_,rfl,(c4.mono s3.bel),by decide,by decide⟩ (.cons ⟨_,_,rfl,(c3.mono s3.bel),by decide,by decide⟩ (.cons ⟨_,_,rfl,(c2.mono s3.bel),by decide,by decide⟩ .nil))))) dE⟩,fRq hr cd.lt⟩
  | 9,_,hoq=>
   cases sI hoq;obtain⟨b35,e35,b6⟩:=hd 8 (zq kR);refine zz 35 _ e35 nu ?_;refine yK H0 (gZ _ _ [[1,0,1,1,2,2,4],[6],[7,4,3],[3],[8,4,3]] wx b6) rfl (fun e' w2 hr=>?_);obtain⟨⟨G9,c9,rfl,a6⟩,s4⟩:=hr;exact⟨_,rfl,sB s4,⟨G9,c9,_,rfl,a6⟩,xk⟩
  | 10,_,hoq=>
   cases sI hoq;obtain⟨S29,c29,B29,m29,n29,e29,cx⟩:=hd 2 (zq kR);obtain⟨G36,c36,n36,e36,db⟩:=hd 9 (zq kR);refine zz 29 _ e29 nu (zz 36 _ e36 nu ?_);exact oVq (r_bd4 (v0:= .string _) (v1:= .int _ _) (v2:= .agg _) (v3:= .agg _) (fun v0 v1 v2 v3=>#[v0,(x9 v3 0),v1,.int .i64 0,(x9 v2 0),(x9 v2 1),(x9 v2 2),(x9 v2 3),(x9 v2 4),(x9 v2 5)]) rfl rfl rfl rfl kR) ⟨_,_,_,_,_,_,_,_,rfl,db,cx⟩
  | 11,_,hoq=>
   cases sI hoq;exact oVq (x7 (v:= .slice _ _ _) rfl) rfl
  | 12,_,hoq=>
   cases sI hoq;refine aX 38 (hd 11 aY) ?_;exact oVq (xW (i:=1) U62 kz rfl rfl dE rfl) rfl
  | 13,_,hoq=>
   cases sI hoq;replace a1:=a1.tr0 s2;replace a2:=a2.tr0 s2;obtain⟨S0,B0,c0,d0,a7,a5⟩:=a2.at_ a1 (k:=1) dE;refine aX 39 (hd 12 aY) ?_;exact oVq (qK U64 rfl rfl a7 kz) ⟨_,_,_,_,_,rfl,a5⟩
  | 14,_,hoq=>
   cases sI hoq;exact vK [1,0,1,1,3,2,4] rfl U36 zY zW
  | 15,_,hoq=>
   cases sI hoq;exact vK [7,4,2] rfl U36 zY zW
  | 16,_,hoq=>
   cases sI hoq;exact vK [3] rfl U36 zY zW
  | 17,_,hoq=>
   cases sI hoq;exact vK [10,4,2] rfl U36 zY zW
  | 18,_,hoq=>
   cases sI hoq;exact vK [9,4,2] rfl U36 zY zW
  | 19,_,hoq=>
   cases sI hoq;obtain⟨b41,e41,c1⟩:=hd 14 (zq kR);obtain⟨b42,e42,bz⟩:=hd 15 (zq kR);obtain⟨b43,e43,bx⟩:=hd 16 (zq kR);obtain⟨b44,e44,bw⟩:=hd 17 (zq kR);obtain⟨b45,e45,bv⟩:=hd 18 (zq kR);refine zz 41 _ e41 nu (zz 42 _ e42 nu (zz 43 _ e43 nu (zz 44 _ e44 nu (zz 45 _ e45 nu ?_))));refine jK (fun ops Q K=>?_);refine qj (cs:=#[_,_,_,_,_]) [(0,.slice _ _ _),(1,.slice _ _ _),(2,.slice _ _ _),(3,.slice _ _ _),(4,.slice _ _ _)] rfl U86 xK xq dE dE kR rfl (fun b46 w2 cc s5 hr=>?_);exact K _ _ ⟨s5,⟨_,rfl,qY (rs:=[[1,0,1,1,3,2,4],[7,4,2],[3],[10,4,2],[9,4,2]]) cc (.cons ⟨_,_,rfl,(c1.mono s5.bel),by decide,by decide⟩ (.cons ⟨_,_,rfl,(bz.mono s5.bel),by decide,by decide⟩ (.cons ⟨_,_,rfl,(bx.mono s5.bel),by decide,by decide⟩ (.cons ⟨_,_,rfl,(bw.mono s5.bel),by decide,by decide⟩ (.cons ⟨_,_,rfl,(bv.mono s5.bel),by decide,by decide⟩ .nil))))) dE⟩,fRq hr cc.lt⟩
  | 20,_,hoq=>
   cases sI hoq;obtain⟨b46,e46,b4⟩:=hd 19 (zq kR);refine zz 46 _ e46 nu ?_;refine yK H0 (gZ _ _ [[1,0,1,1,3,2,4],[7,4,2],[3],[10,4,2],[9,4,2]] wx b4) rfl (fun e' w2 hr=>?_);obtain⟨⟨G9,c9,rfl,a6⟩,s6⟩:=hr;exact⟨_,rfl,sB s6,⟨G9,c9,_,rfl,a6⟩,xk⟩
  | 21,_,hoq=>
   cases sI hoq;obtain⟨S40,c40,B40,m40,n40,e40,cv⟩:=hd 13 (zq kR);obtain⟨G47,c47,n47,e47,d9⟩:=hd 20 (zq kR);refine zz 40 _ e40 nu (zz 47 _ e47 nu ?_);exact oVq (r_bd5 (v0:= .string _) (v1:= .int _ _) (v2:= .int _ _) (v3:= .agg _) (v4:= .agg _) (fun v0 v1 v2 v3 v4=>#[v0,(x9 v4 0),v1,v2,(x9 v3 0),(x9 v3 1),(x9 v3 2),(x9 v3 3),(x9 v3 4),(x9 v3 5)]) rfl rfl rfl rfl rfl kR) ⟨_,_,_,_,_,_,_,_,rfl,d9,cv⟩
  | 22,_,hoq=>
   cases sI hoq;exact oVq (x7 (v:= .slice _ _ _) rfl) rfl
  | 23,_,hoq=>
   cases sI hoq;refine aX 49 (hd 22 aY) ?_;exact oVq (xW (i:=2) U62 kz rfl rfl dE rfl) rfl
  | 24,_,hoq=>
   cases sI hoq;replace a1:=a1.tr0 s2;replace a2:=a2.tr0 s2;obtain⟨S0,B0,c0,d0,a7,a5⟩:=a2.at_ a1 (k:=2) dE;refine aX 50 (hd 23 aY) ?_;exact oVq (qK U64 rfl rfl a7 kz) ⟨_,_,_,_,_,rfl,a5⟩
  | 25,_,hoq=>
   cases sI hoq;exact vK [1,0,1,1,3] rfl U36 zY zW
  | 26,_,hoq=>
   cases sI hoq;exact vK [8,4,2] rfl U36 zY zW
  | 27,_,hoq=>
   cases sI hoq;exact vK [3] rfl U36 zY zW
  | 28,_,hoq=>
   cases sI hoq;exact vK [11,4,2] rfl U36 zY zW
  | 29,_,hoq=>
   cases sI hoq;obtain⟨b52,e52,bu⟩:=hd 25 (zq kR);obtain⟨b53,e53,bt⟩:=hd 26 (zq kR);obtain⟨b54,e54,br⟩:=hd 27 (zq kR);obtain⟨b55,e55,bq⟩:=hd 28 (zq kR);refine zz 52 _ e52 nu (zz 53 _ e53 nu (zz 54 _ e54 nu (zz 55 _ e55 nu ?_)));refine jK (fun ops Q K=>?_);refine qj (cs:=#[_,_,_,_]) [(0,.slice _ _ _),(1,.slice _ _ _),(2,.slice _ _ _),(3,.slice _ _ _)] rfl U86 xK xq dE dE kR rfl (fun b56 w3 cb s7 hr=>?_);exact K _ _ ⟨s7,⟨_,rfl,qY (rs:=[[1,0,1,1,3],[8,4,2],[3],[11,4,2]]) cb (.cons ⟨_,_,rfl,(bu.mono s7.bel),by decide,by decide⟩ (.cons ⟨_,_,rfl,(bt.mono s7.bel),by decide,by decide⟩ (.cons ⟨_,_,rfl,(br.mono s7.bel),by decide,by decide⟩ (.cons ⟨_,_,rfl,(bq.mono s7.bel),by decide,by decide⟩ .nil)))) dE⟩,fRq hr cb.lt⟩
  | 30,_,hoq=>
   cases sI hoq;obtain⟨b56,e56,b3⟩:=hd 29 (zq kR);refine zz 56 _ e56 nu ?_;refine yK H0 (gZ _ _ [[1,0,1,1,3],[8,4,2],[3],[11,4,2]] wx b3) rfl (fun e' w2 hr=>?_);obtain⟨⟨G9,c9,rfl,a6⟩,s8⟩:=hr;exact⟨_,rfl,sB s8,⟨G9,c9,_,rfl,a6⟩,xk⟩
  | 31,_,hoq=>
   cases sI hoq;obtain⟨S51,c51,B51,m51,n51,e51,cq⟩:=hd 24 (zq kR);obtain⟨G57,c57,n57,e57,d7⟩:=hd 30 (zq kR);refine zz 51 _ e51 nu (zz 57 _ e57 nu ?_);exact oVq (r_bd4 (v0:= .string _) (v1:= .int _ _) (v2:= .agg _) (v3:= .agg _) (fun v0 v1 v2 v3=>#[v0,(x9 v3 0),v1,.int .i64 0,(x9 v2 0),(x9 v2 1),(x9 v2 2),(x9 v2 3),(x9 v2 4),(x9 v2 5)]) rfl rfl rfl rfl kR) ⟨_,_,_,_,_,_,_,_,rfl,d7,cq⟩
  | 32,_,hoq=>
   cases sI hoq;exact oVq (x7 (v:= .slice _ _ _) rfl) rfl
  | 33,_,hoq=>
   cases sI hoq;refine aX 59 (hd 32 aY) ?_;exact oVq (xW (i:=3) U62 kz rfl rfl dE rfl) rfl
  | 34,_,hoq=>
   cases sI hoq;replace a1:=a1.tr0 s2;replace a2:=a2.tr0 s2;obtain⟨S0,B0,c0,d0,a7,a5⟩:=a2.at_ a1 (k:=3) dE;refine aX 60 (hd 33 aY) ?_;exact oVq (qK U64 rfl rfl a7 kz) ⟨_,_,_,_,_,rfl,a5⟩
  | 35,_,hoq=>
   cases sI hoq;exact vK [1,0,1,1,3,2,4] rfl U36 zY zW
  | 36,_,hoq=>
   cases sI hoq;exact vK [8,4,2] rfl U36 zY zW
  | 37,_,hoq=>
   cases sI hoq;exact vK [3] rfl U36 zY zW
  | 38,_,hoq=>
   cases sI hoq;exact vK [12,4,2] rfl U36 zY zW
  | 39,_,hoq=>
   cases sI hoq;exact vK [7] rfl U36 zY zW
  | 40,_,hoq=>
   cases sI hoq;obtain⟨b62,e62,bo⟩:=hd 35 (zq kR);obtain⟨b63,e63,bn⟩:=hd 36 (zq kR);obtain⟨b64,e64,bk⟩:=hd 37 (zq kR);obtain⟨b65,e65,bj⟩:=hd 38 (zq kR);obtain⟨b66,e66,bi⟩:=hd 39 (zq kR);refine zz 62 _ e62 nu (zz 63 _ e63 nu (zz 64 _ e64 nu (zz 65 _ e65 nu (zz 66 _ e66 nu ?_))));refine jK (fun ops Q K=>?_);refine qj (cs:=#[_,_,_,_,_]) [(0,.slice _ _ _),(1,.slice _ _ _),(2,.slice _ _ _),(3,.slice _ _ _),(4,.slice _ _ _)] rfl U86 xK xq dE dE kR rfl (fun b67 w4 ca s9 hr=>?_);exact K _ _ ⟨s9,⟨_,rfl,qY (rs:=[[1,0,1,1,3,2,4],[8,4,2],[3],[12,4,2],[7]]) ca (.cons ⟨_,_,rfl,(bo.mono s9.bel),by decide,by decide⟩ (.cons ⟨_,_,rfl,(bn.mono s9.bel),by decide,by decide⟩ (.cons ⟨_,_,rfl,(bk.mono s9.bel),by decide,by decide⟩ (.cons ⟨_,_,rfl,(bj.mono s9.bel),by decide,by decide⟩ (.cons ⟨_,_,rfl,(bi.mono s9.bel),by decide,by decide⟩ .nil))))) dE⟩,fRq hr ca.lt⟩
  | 41,_,hoq=>
   cases sI hoq;obtain⟨b67,e67,b2⟩:=hd 40 (zq kR);refine zz 67 _ e67 nu ?_;refine yK H0 (gZ _ _ [[1,0,1,1,3,2,4],[8,4,2],[3],[12,4,2],[7]] wx b2) rfl (fun e' w2 hr=>?_);obtain⟨⟨G9,c9,rfl,a6⟩,s10⟩:=hr;exact⟨_,rfl,sB s10,⟨G9,c9,_,rfl,a6⟩,xk⟩
  | 42,_,hoq=>
   cases sI hoq;obtain⟨S61,c61,B61,m61,n61,e61,co⟩:=hd 34 (zq kR);obtain⟨G68,c68,n68,e68,d5⟩:=hd 41 (zq kR);refine zz 61 _ e61 nu (zz 68 _ e68 nu ?_);exact oVq (r_bd5 (v0:= .string _) (v1:= .int _ _) (v2:= .int _ _) (v3:= .agg _) (v4:= .agg _) (fun v0 v1 v2 v3 v4=>#[v0,(x9 v4 0),v1,v2,(x9 v3 0),(x9 v3 1),(x9 v3 2),(x9 v3 3),(x9 v3 4),(x9 v3 5)]) rfl rfl rfl rfl rfl kR) ⟨_,_,_,_,_,_,_,_,rfl,d5,co⟩
  | 43,_,hoq=>
   cases sI hoq;exact oVq (x7 (v:= .slice _ _ _) rfl) rfl
  | 44,_,hoq=>
   cases sI hoq;refine aX 70 (hd 43 aY) ?_;exact oVq (xW (i:=4) U62 kz rfl rfl dE rfl) rfl
  | 45,_,hoq=>
   cases sI hoq;replace a1:=a1.tr0 s2;replace a2:=a2.tr0 s2;obtain⟨S0,B0,c0,d0,a7,a5⟩:=a2.at_ a1 (k:=4) dE;refine aX 71 (hd 44 aY) ?_;exact oVq (qK U64 rfl rfl a7 kz) ⟨_,_,_,_,_,rfl,a5⟩
  | 46,_,hoq=>
   cases sI hoq;exact vK [1,0,1,1,3,2,4] rfl U36 zY zW
  | 47,_,hoq=>
   cases sI hoq;exact vK [8,4,2] rfl U36 zY zW
  | 48,_,hoq=>
   cases sI hoq;exact vK [3] rfl U36 zY zW
  | 49,_,hoq=>
   cases sI hoq;exact vK [13] rfl U36 zY zW
  | 50,_,hoq=>
   cases sI hoq;exact vK [8,4,2] rfl U36 zY zW
  | 51,_,hoq=>
   cases sI hoq;obtain⟨b73,e73,bh⟩:=hd 46 (zq kR);obtain⟨b74,e74,bg⟩:=hd 47 (zq kR);obtain⟨b75,e75,bf⟩:=hd 48 (zq kR);obtain⟨b76,e76,be⟩:=hd 49 (zq kR);obtain⟨b77,e77,bd⟩:=hd 50 (zq kR);refine zz 73 _ e73 nu (zz 74 _ e74 nu (zz 75 _ e75 nu (zz 76 _ e76 nu (zz 77 _ e77 nu ?_))));refine jK (fun ops Q K=>?_);refine qj (cs:=#[_,_,_,_,_]) [(0,.slice _ _ _),(1,.slice _ _ _),(2,.slice _ _ _),(3,.slice _ _ _),(4,.slice _ _ _)] rfl U86 xK xq dE dE kR rfl (fun b78 w5 c8 an hr=>?_);exact K _ _ ⟨an,⟨_,rfl,qY (rs:=[[1,0,1,1,3,2,4],[8,4,2],[3],[13],[8,4,2]]) c8 (.cons ⟨_,_,rfl,(bh.mono an.bel),by decide,by decide⟩ (.cons ⟨_,_,rfl,(bg.mono an.bel),by decide,by decide⟩ (.cons ⟨_,_,rfl,(bf.mono an.bel),by decide,by decide⟩ (.cons ⟨_,_,rfl,(be.mono an.bel),by decide,by decide⟩ (.cons ⟨_,_,rfl,(bd.mono an.bel),by decide,by decide⟩ .nil))))) dE⟩,fRq hr c8.lt⟩
  | 52,_,hoq=>
   cases sI hoq;obtain⟨b78,e78,b1⟩:=hd 51 (zq kR);refine zz 78 _ e78 nu ?_;refine yK H0 (gZ _ _ [[1,0,1,1,3,2,4],[8,4,2],[3],[13],[8,4,2]] wx b1) rfl (fun e' w2 hr=>?_);obtain⟨⟨G9,c9,rfl,a6⟩,s12⟩:=hr;exact⟨_,rfl,sB s12,⟨G9,c9,_,rfl,a6⟩,xk⟩
  | 53,_,hoq=>
   cases sI hoq;obtain⟨S72,c72,B72,m72,n72,e72,cm⟩:=hd 45 (zq kR);obtain⟨G79,c79,n79,e79,d3⟩:=hd 52 (zq kR);refine zz 72 _ e72 nu (zz 79 _ e79 nu ?_);exact oVq (r_bd5 (v0:= .string _) (v1:= .int _ _) (v2:= .int _ _) (v3:= .agg _) (v4:= .agg _) (fun v0 v1 v2 v3 v4=>#[v0,(x9 v4 0),v1,v2,(x9 v3 0),(x9 v3 1),(x9 v3 2),(x9 v3 3),(x9 v3 4),(x9 v3 5)]) rfl rfl rfl rfl rfl kR) ⟨_,_,_,_,_,_,_,_,rfl,d3,cm⟩
  | 54,_,hoq=>
   cases sI hoq;exact oVq (x7 (v:= .slice _ _ _) rfl) rfl
  | 55,_,hoq=>
   cases sI hoq;refine aX 81 (hd 54 aY) ?_;exact oVq (xW (i:=5) U62 kz rfl rfl dE rfl) rfl
  | 56,_,hoq=>
   cases sI hoq;replace a1:=a1.tr0 s2;replace a2:=a2.tr0 s2;obtain⟨S0,B0,c0,d0,a7,a5⟩:=a2.at_ a1 (k:=5) dE;refine aX 82 (hd 55 aY) ?_;exact oVq (qK U64 rfl rfl a7 kz) ⟨_,_,_,_,_,rfl,a5⟩
  | 57,_,hoq=>
   cases sI hoq;exact vK [1,0,1,1,3,2,4,3,5] rfl U36 zY zW
  | 58,_,hoq=>
   cases sI hoq;exact vK [7,4,2] rfl U36 zY zW
  | 59,_,hoq=>
   cases sI hoq;exact vK [5] rfl U36 zY zW
  | 60,_,hoq=>
   cases sI hoq;exact vK [7] rfl U36 zY zW
  | 61,_,hoq=>
   cases sI hoq;exact vK [14] rfl U36 zY zW
  | 62,_,hoq=>
   cases sI hoq;exact vK [7] rfl U36 zY zW
  | 63,_,hoq=>
   cases sI hoq;obtain⟨b84,e84,bc⟩:=hd 57 (zq kR);obtain⟨b85,e85,bb⟩:=hd 58 (zq kR);obtain⟨b86,e86,ba⟩:=hd 59 (zq kR);obtain⟨b87,e87,b9⟩:=hd 60 (zq kR);obtain⟨b88,e88,b8⟩:=hd 61 (zq kR);obtain⟨b89,e89,b7⟩:=hd 62 (zq kR);refine zz 84 _ e84 nu (zz 85 _ e85 nu (zz 86 _ e86 nu (zz 87 _ e87 nu (zz 88 _ e88 nu (zz 89 _ e89 nu ?_)))));refine jK (fun ops Q K=>?_);refine qj (cs:=#[_,_,_,_,_,_]) [(0,.slice _ _ _),(1,.slice _ _ _),(2,.slice _ _ _),(3,.slice _ _ _),(4,.slice _ _ _),(5,.slice _ _ _)] rfl U86 xK xq dE dE kR rfl (fun b90 w6 c7 a8 hr=>?_);exact K _ _ ⟨a8,⟨_,rfl,qY (rs:=[[1,0,1,1,3,2,4,3,5],[7,4,2],[5],[7],[14],[7]]) c7 (.cons ⟨_,_,rfl,(bc.mono a8.bel),by decide,by decide⟩ (.cons ⟨_,_,rfl,(bb.mono a8.bel),by decide,by decide⟩ (.cons ⟨_,_,rfl,(ba.mono a8.bel),by decide,by decide⟩ (.cons ⟨_,_,rfl,(b9.mono a8.bel),by decide,by decide⟩ (.cons ⟨_,_,rfl,(b8.mono a8.bel),by decide,by decide⟩ (.cons ⟨_,_,rfl,(b7.mono a8.bel),by decide,by decide⟩ .nil)))))) dE⟩,fRq hr c7.lt⟩
  | 64,_,hoq=>
   cases sI hoq;obtain⟨b90,e90,ao⟩:=hd 63 (zq kR);refine zz 90 _ e90 nu ?_;refine yK H0 (gZ _ _ [[1,0,1,1,3,2,4,3,5],[7,4,2],[5],[7],[14],[7]] wx ao) rfl (fun e' w2 hr=>?_);obtain⟨⟨G9,c9,rfl,a6⟩,s14⟩:=hr;exact⟨_,rfl,sB s14,⟨G9,c9,_,rfl,a6⟩,xk⟩
  | 65,_,hoq=>
   cases sI hoq;obtain⟨S83,c83,B83,m83,n83,e83,cj⟩:=hd 56 (zq kR);obtain⟨G91,c91,n91,e91,cz⟩:=hd 64 (zq kR);refine zz 83 _ e83 nu (zz 91 _ e91 nu ?_);exact oVq (r_bd5 (v0:= .string _) (v1:= .int _ _) (v2:= .int _ _) (v3:= .agg _) (v4:= .agg _) (fun v0 v1 v2 v3 v4=>#[v0,(x9 v4 0),v1,v2,(x9 v3 0),(x9 v3 1),(x9 v3 2),(x9 v3 3),(x9 v3 4),(x9 v3 5)]) rfl rfl rfl rfl rfl kR) ⟨_,_,_,_,_,_,_,_,rfl,cz,cj⟩
  | 66,_,hoq=>
   cases sI hoq;have hs0:=s2;obtain⟨G37,c37,n37,S37,d37,B37,f37,m37,e37,da,cw⟩:=hd 10 (zq kR);obtain⟨G48,c48,n48,S48,d48,B48,f48,m48,e48,d8,cu⟩:=hd 21 (zq kR);obtain⟨G58,c58,n58,S58,d58,B58,f58,m58,e58,d6,cp⟩:=hd 31 (zq kR);obtain⟨G69,c69,n69,S69,d69,B69,f69,m69,e69,d4,cn⟩:=hd 42 (zq kR);obtain⟨G80,c80,n80,S80,d80,B80,f80,m80,e80,d2,ck⟩:=hd 53 (zq kR);obtain⟨G92,c92,n92,S92,d92,B92,f92,m92,e92,cy,cg⟩:=hd 65 (zq kR);refine zz 37 _ e37 nu (zz 48 _ e48 nu (zz 58 _ e58 nu (zz 69 _ e69 nu (zz 80 _ e80 nu (zz 92 _ e92 nu ?_)))));refine jK (fun ops Q K=>?_);refine qj (cs:=#[_,_,_,_,_,_,_,_,_,_,_,_,_,_,_,_,_,_,_,_,_,_,_,_,_,_,_,_,_,_,_,_,_,_,_,_,_,_,_,_,_,_,_,_,_,_,_,_,_,_,_,_,_,_,_,_,_,_,_,_]) [(0,.agg _),(1,.agg _),(2,.agg _),(3,.agg _),(4,.agg _),(5,.agg _)] rfl U26 QQ Nx dE dE kR rfl (fun ab w7 a4 a3 hr=>?_);exact K _ _ ⟨a3,⟨_,_,_,rfl,nLT hs0.size hr,a4,(Fz.rcons (r:=T4) (da.tr0 a3) (cw.tr0 a3) (Fz.rcons (r:=T2) (d8.tr0 a3) (cu.tr0 a3) (Fz.rcons (r:=T1) (d6.tr0 a3) (cp.tr0 a3) (Fz.rcons (r:=T0) (d4.tr0 a3) (cn.tr0 a3) (Fz.rcons (r:=SY) (d2.tr0 a3) (ck.tr0 a3) (Fz.rcons (r:=SW) (cy.tr0 a3) (cg.tr0 a3) (Fz.triv [] _ TS (fun _=>RlCs.nil))))))))⟩,fRq hr a4.lt⟩
  | _+67,hix,_=>exact absurd hix oG
 intro gg w8 s16 hR dc;replace hZ:=hZ.trans (s16.weak (by simp));obtain⟨ab,cr,cf,de,lo93,a4,ce⟩:=hR 66 dE;have:=nLL z5 lo93;refine xz 93 _ de nu (zn1 ?_);replace a9:=a9.tr0 s16;refine xj (v:= .slice _ _ _) a9 rfl rfl sz26_DSmA (by first|decide|simp) rfl rfl (fun w9 hq s17=>?_);replace hZ:=hZ.trans (s17.weak (by simp));replace ce:=ce.sp1 s17 a9 (.inl dE);replace a9:=hq;refine x6 ?_;refine e_R ⟨agA,?_⟩;exact⟨hZ,_,_,_,lo93,a4.u,ce,a9⟩
end
section
theorem Y0:zk Tryd.prog 26=true:=by kernel_rfl
variable {w wc:World} {b0 b1 b2 b3 b4 b5 b23 b93 base capt c12 c15:Nat} {At A12 A15:Option Addr} {cr:Array Value}
theorem sF{w:World}{b t:Nat}{x0 x1 x2:Int}(h:Blk w b t #[.int .i64 x0,.int .i64 x1,.int .i64 x2]):IntsIn w (some ⟨b,0,none⟩) [x0,x1,x2]:=qx _ h (by show 3<=_;decide)
theorem sE{w:World}{b t:Nat}{x0:Int}(h:Blk w b t #[.int .i64 x0]):IntsIn w (some ⟨b,0,none⟩) [x0]:=qx _ h (by show 1<=_;decide)
theorem sA (h:A:=by
 intro hI f Q k7 hPQ
 refine zZ 7 _ k7 nu (zn2 ?_);refine zX kR (quN_d _ _ _) rfl (fun e' w1 hr=>?_);obtain⟨⟨_,rfl,Sq1,cq1,Bq1,mq1,nq1,rfl,a1⟩,s1⟩:=hr;replace s1:=sB s1;refine⟨_,rfl,?_⟩;refine qj (cs:=#[_,_,_]) [(0,.int _ _),(1,.int _ _),(2,.int _ _)] rfl U36 zY zW dE dE kR rfl (fun bq2 w2 a4 s2 hr=>?_);refine qj (cs:=#[_]) [(0,.int _ _)] rfl U36 zY zW dE dE kR rfl (fun bq3 w3 a3 s3 hr=>?_);refine qj (cs:=#[_,_]) [(0,.slice _ _ _),(1,.slice _ _ _)] rfl U86 xK xq dE dE kR rfl (fun bq4 w4 a2 s4 hr=>?_);replace hI:=hI.tr0 (s1.t (s2.t (s3.t s4)));obtain⟨hC,A,cap,xs,nL,hb5,ho,hL⟩:=hI;replace a1:=a1.tr0 (s2.t (s3.t s4));refine xw rfl Y0 (ov _ _ (quN _ _) _ _ _ _ _ _ _ _ _ _ _ _ _ _ _ _ _ _ _ _ _ dE (qY a2 (.cons ⟨_,_,rfl,(sF a4.u),by decide,by decide⟩ (.cons ⟨_,_,rfl,(sE a3.u),by decide,by decide⟩ .nil)) dE) a1 hb5 ho hL hC.bs hC.l.1 dE) rfl rfl (fun e' w5 hr=>?_);obtain⟨rfl,A2,cap2,xs2,a5,hon,hL2,hS,hA2⟩:=hr;replace hC:=hC.add hS hb5 ho;refine⟨_,rfl,?_⟩;refine x6 ?_;refine e_R ⟨agA,?_⟩;exact⟨hC,_,_,_,_,a5,hon,hL2⟩):A:=h
theorem sC (h:A:=by
 intro hI f Q k7 k3 hPQ
 have hb3:=hI.1.k3;have a6:=hI.1.p12;refine zZ 7 _ k7 nu (zZ 3 _ k3 nu (zn3 ?_));refine zX XY (oz [] _ tyET _ _ _ _ a6) rfl (fun e' w1 hr=>?_);obtain⟨⟨_,rfl,Sq2,cq2,Bq2,mq2,nq2,rfl,a1⟩,s1⟩:=hr;replace s1:=sB s1;refine⟨_,rfl,?_⟩;refine qj (cs:=#[_,_,_]) [(0,.int _ _),(1,.int _ _),(2,.int _ _)] rfl U36 zY zW dE dE kR rfl (fun bq3 w2 a4 s2 hr=>?_);refine qj (cs:=#[_]) [(0,.int _ _)] rfl U36 zY zW dE dE kR rfl (fun bq4 w3 a3 s3 hr=>?_);refine qj (cs:=#[_,_]) [(0,.slice _ _ _),(1,.slice _ _ _)] rfl U86 xK xq dE dE kR rfl (fun bq5 w4 a2 s4 hr=>?_);replace hI:=hI.tr0 (s1.t (s2.t (s3.t s4)));obtain⟨hC,A,cap,xs,nL,hb5,ho,hL⟩:=hI;replace a1:=a1.tr0 (s2.t (s3.t s4));refine xw rfl Y0 (ov _ _ (Tv.con _ tyET) _ _ _ _ _ _ _ _ _ _ _ _ _ _ _ _ _ _ _ _ _ dE (qY a2 (.cons ⟨_,_,rfl,(sF a4.u),by decide,by decide⟩ (.cons ⟨_,_,rfl,(sE a3.u),by decide,by decide⟩ .nil)) dE) a1 hb5 ho hL hC.bs hC.l.1 dE) rfl rfl (fun e' w5 hr=>?_);obtain⟨rfl,A2,cap2,xs2,a5,hon,hL2,hS,hA2⟩:=hr;replace hC:=hC.add hS hb5 ho;refine⟨_,rfl,?_⟩;refine x6 ?_;refine e_R ⟨agA,?_⟩;exact⟨hC,_,_,_,_,a5,hon,hL2⟩):A:=h
theorem sD (h:A:=by
 intro hI f Q k7 k4 hPQ
 have hb4:=hI.1.k4;have a6:=hI.1.p15;refine zZ 7 _ k7 nu (zZ 4 _ k4 nu (zn3 ?_));refine zX XY (oz [] _ tyEET _ _ _ _ a6) rfl (fun e' w1 hr=>?_);obtain⟨⟨_,rfl,Sq2,cq2,Bq2,mq2,nq2,rfl,a1⟩,s1⟩:=hr;replace s1:=sB s1;refine⟨_,rfl,?_⟩;refine qj (cs:=#[_,_,_]) [(0,.int _ _),(1,.int _ _),(2,.int _ _)] rfl U36 zY zW dE dE kR rfl (fun bq3 w2 a4 s2 hr=>?_);refine qj (cs:=#[_]) [(0,.int _ _)] rfl U36 zY zW dE dE kR rfl (fun bq4 w3 a3 s3 hr=>?_);refine qj (cs:=#[_,_]) [(0,.slice _ _ _),(1,.slice _ _ _)] rfl U86 xK xq dE dE kR rfl (fun bq5 w4 a2 s4 hr=>?_);replace hI:=hI.tr0 (s1.t (s2.t (s3.t s4)));obtain⟨hC,A,cap,xs,nL,hb5,ho,hL⟩:=hI;replace a1:=a1.tr0 (s2.t (s3.t s4));refine xw rfl Y0 (ov _ _ (Tv.con _ tyEET) _ _ _ _ _ _ _ _ _ _ _ _ _ _ _ _ _ _ _ _ _ dE (qY a2 (.cons ⟨_,_,rfl,(sF a4.u),by decide,by decide⟩ (.cons ⟨_,_,rfl,(sE a3.u),by decide,by decide⟩ .nil)) dE) a1 hb5 ho hL hC.bs hC.l.1 dE) rfl rfl (fun e' w5 hr=>?_);obtain⟨rfl,A2,cap2,xs2,a5,hon,hL2,hS,hA2⟩:=hr;replace hC:=hC.add hS hb5 ho;refine⟨_,rfl,?_⟩;refine x6 ?_;refine e_R ⟨agA,?_⟩;exact⟨hC,_,_,_,_,a5,hon,hL2⟩):A:=h
theorem small_r9 :∀(_hI:SmSt smallT qX qv b0 b1 b2 b3 b4 b5 b23 b93 base capt c12 c15 At A12 A15 cr 0 OX w wc) (f:Fr) (Q:Exit->Act->World->Prop) (_k7:f 7= .func (.func 26) #[] #[.pointer (some ⟨b5,0,none⟩)]) (_hPQ:PQ Q),WC Tryd.prog (sl (sr (sr (sr (sr (sr (sr (sr (sr (sr (ob Tryd.f6.body))))))))))) (QRS 256 [96,97,98,99,100,101] f (fun _ w'=>SmSt smallT qX qv b0 b1 b2 b3 b4 b5 b23 b93 base capt c12 c15 At A12 A15 cr 1 M8 w w') Q) 256 f wc:=sA
theorem small_r10 :∀(_hI:SmSt smallT qX qv b0 b1 b2 b3 b4 b5 b23 b93 base capt c12 c15 At A12 A15 cr 1 M8 w wc) (f:Fr) (Q:Exit->Act->World->Prop) (_k7:f 7= .func (.func 26) #[] #[.pointer (some ⟨b5,0,none⟩)]) (_hPQ:PQ Q),WC Tryd.prog (sl (sr (sr (sr (sr (sr (sr (sr (sr (sr (sr (ob Tryd.f6.body)))))))))))) (QRS 256 [102,103,104,105,106,107] f (fun _ w'=>SmSt smallT qX qv b0 b1 b2 b3 b4 b5 b23 b93 base capt c12 c15 At A12 A15 cr 2 M7 w w') Q) 256 f wc:=sA
theorem small_r11(hI:SmSt smallT qX qv b0 b1 b2 b3 b4 b5 b23 b93 base capt c12 c15 At A12 A15 cr 2 M7 w wc)(f:Fr)(Q:Exit->Act->World->Prop)(k7:f 7= .func (.func 26) #[] #[.pointer (some ⟨b5,0,none⟩)])(_hPQ:PQ Q):WC Tryd.prog (sl (sr (sr (sr (sr (sr (sr (sr (sr (sr (sr (sr (ob Tryd.f6.body))))))))))))) (QRS 256 [108,109,110,111,112] f (fun _ w'=>SmSt smallT qX qv b0 b1 b2 b3 b4 b5 b23 b93 base capt c12 c15 At A12 A15 cr 3 M6 w w') Q) 256 f wc:=by
 refine zZ 7 _ k7 nu (zn2 ?_);refine zX kR (quY_d ⟨#[115,111,109,101]⟩ ⟨#[97,110,100]⟩ _) rfl (fun e' w1 hr=>?_);obtain⟨⟨_,rfl,S109,c109,B109,m109,n109,rfl,a1⟩,s1⟩:=hr;replace s1:=sB s1;refine⟨_,rfl,?_⟩;refine qj (cs:=#[_]) [(0,.int _ _)] rfl U36 zY zW dE dE kR rfl (fun b110 w2 a3 s2 hr=>?_);refine qj (cs:=#[_]) [(0,.slice _ _ _)] rfl U86 xK xq dE dE kR rfl (fun b111 w3 a2 s3 hr=>?_);replace hI:=hI.tr0 (s1.t (s2.t s3));obtain⟨hC,A,cap,xs,nL,hb5,ho,hL⟩:=hI;replace a1:=a1.tr0 (s2.t s3);refine xw rfl Y0 (ov ⟨#[110,111]⟩ 2 (quY ⟨#[115,111,109,101]⟩ ⟨#[97,110,100]⟩) _ _ _ _ _ _ [[10]] _ _ base _ _ _ _ _ _ _ _ _ M7 _ dE (qY (rs:=[[10]]) a2 (.cons ⟨_,_,rfl,(qx [10] a3.u dE),by decide,by decide⟩ .nil) dE) a1 hb5 ho hL hC.bs hC.l.1 dE) rfl rfl (fun e' w4 hr=>?_);obtain⟨rfl,A2,cap2,xs2,a4,hon,hL2,hS,hA2⟩:=hr;replace hC:=hC.add hS hb5 ho;refine⟨_,rfl,?_⟩;refine x6 ?_;refine e_R ⟨agA,?_⟩;exact⟨hC,_,_,_,_,a4,hon,hL2⟩
theorem small_r12 :∀(_hI:SmSt smallT qX qv b0 b1 b2 b3 b4 b5 b23 b93 base capt c12 c15 At A12 A15 cr 3 M6 w wc) (f:Fr) (Q:Exit->Act->World->Prop) (_k7:f 7= .func (.func 26) #[] #[.pointer (some ⟨b5,0,none⟩)]) (_k3:f 3= .pointer (some ⟨b3,0,none⟩)) (_hPQ:PQ Q),WC Tryd.prog (sl (sr (sr (sr (sr (sr (sr (sr (sr (sr (sr (sr (sr (ob Tryd.f6.body)))))))))))))) (QRS 256 [113,114,115,116,117,118,119] f (fun _ w'=>SmSt smallT qX qv b0 b1 b2 b3 b4 b5 b23 b93 base capt c12 c15 At A12 A15 cr 4 M5 w w') Q) 256 f wc:=sC
theorem small_r13 :∀(_hI:SmSt smallT qX qv b0 b1 b2 b3 b4 b5 b23 b93 base capt c12 c15 At A12 A15 cr 4 M5 w wc) (f:Fr) (Q:Exit->Act->World->Prop) (_k7:f 7= .func (.func 26) #[] #[.pointer (some ⟨b5,0,none⟩)]) (_k3:f 3= .pointer (some ⟨b3,0,none⟩)) (_hPQ:PQ Q),WC Tryd.prog (sl (sr (sr (sr (sr (sr (sr (sr (sr (sr (sr (sr (sr (sr (ob Tryd.f6.body))))))))))))))) (QRS 256 [120,121,122,123,124,125,126] f (fun _ w'=>SmSt smallT qX qv b0 b1 b2 b3 b4 b5 b23 b93 base capt c12 c15 At A12 A15 cr 5 M4 w w') Q) 256 f wc:=sC
theorem small_r14 :∀(_hI:SmSt smallT qX qv b0 b1 b2 b3 b4 b5 b23 b93 base capt c12 c15 At A12 A15 cr 5 M4 w wc) (f:Fr) (Q:Exit->Act->World->Prop) (_k7:f 7= .func (.func 26) #[] #[.pointer (some ⟨b5,0,none⟩)]) (_k3:f 3= .pointer (some ⟨b3,0,none⟩)) (_hPQ:PQ Q),WC Tryd.prog (sl (sr (sr (sr (sr (sr (sr (sr (sr (sr (sr (sr (sr (sr (sr (ob Tryd.f6.body)))))))))))))))) (QRS 256 [127,128,129,130,131,132,133] f (fun _ w'=>SmSt smallT qX qv b0 b1 b2 b3 b4 b5 b23 b93 base capt c12 c15 At A12 A15 cr 6 M3 w w') Q) 256 f wc:=sC
theorem small_r15 :∀(_hI:SmSt smallT qX qv b0 b1 b2 b3 b4 b5 b23 b93 base capt c12 c15 At A12 A15 cr 6 M3 w wc) (f:Fr) (Q:Exit->Act->World->Prop) (_k7:f 7= .func (.func 26) #[] #[.pointer (some ⟨b5,0,none⟩)]) (_k3:f 3= .pointer (some ⟨b3,0,none⟩)) (_hPQ:PQ Q),WC Tryd.prog (sl (sr (sr (sr (sr (sr (sr (sr (sr (sr (sr (sr (sr (sr (sr (sr (ob Tryd.f6.body))))))))))))))))) (QRS 256 [134,135,136,137,138,139,140] f (fun _ w'=>SmSt smallT qX qv b0 b1 b2 b3 b4 b5 b23 b93 base capt c12 c15 At A12 A15 cr 7 M2 w w') Q) 256 f wc:=sC
theorem small_r16 :∀(_hI:SmSt smallT qX qv b0 b1 b2 b3 b4 b5 b23 b93 base capt c12 c15 At A12 A15 cr 7 M2 w wc) (f:Fr) (Q:Exit->Act->World->Prop) (_k7:f 7= .func (.func 26) #[] #[.pointer (some ⟨b5,0,none⟩)]) (_k3:f 3= .pointer (some ⟨b3,0,none⟩)) (_hPQ:PQ Q),WC Tryd.prog (sl (sr (sr (sr (sr (sr (sr (sr (sr (sr (sr (sr (sr (sr (sr (sr (sr (ob Tryd.f6.body)))))))))))))))))) (QRS 256 [141,142,143,144,145,146,147] f (fun _ w'=>SmSt smallT qX qv b0 b1 b2 b3 b4 b5 b23 b93 base capt c12 c15 At A12 A15 cr 8 M1 w w') Q) 256 f wc:=sC
theorem small_r17 :∀(_hI:SmSt smallT qX qv b0 b1 b2 b3 b4 b5 b23 b93 base capt c12 c15 At A12 A15 cr 8 M1 w wc) (f:Fr) (Q:Exit->Act->World->Prop) (_k7:f 7= .func (.func 26) #[] #[.pointer (some ⟨b5,0,none⟩)]) (_k3:f 3= .pointer (some ⟨b3,0,none⟩)) (_hPQ:PQ Q),WC Tryd.prog (sl (sr (sr (sr (sr (sr (sr (sr (sr (sr (sr (sr (sr (sr (sr (sr (sr (sr (ob Tryd.f6.body))))))))))))))))))) (QRS 256 [148,149,150,151,152,153,154] f (fun _ w'=>SmSt smallT qX qv b0 b1 b2 b3 b4 b5 b23 b93 base capt c12 c15 At A12 A15 cr 9 IY w w') Q) 256 f wc:=sC
theorem small_r18 :∀(_hI:SmSt smallT qX qv b0 b1 b2 b3 b4 b5 b23 b93 base capt c12 c15 At A12 A15 cr 9 IY w wc) (f:Fr) (Q:Exit->Act->World->Prop) (_k7:f 7= .func (.func 26) #[] #[.pointer (some ⟨b5,0,none⟩)]) (_k3:f 3= .pointer (some ⟨b3,0,none⟩)) (_hPQ:PQ Q),WC Tryd.prog (sl (sr (sr (sr (sr (sr (sr (sr (sr (sr (sr (sr (sr (sr (sr (sr (sr (sr (sr (ob Tryd.f6.body)))))))))))))))))))) (QRS 256 [155,156,157,158,159,160,161] f (fun _ w'=>SmSt smallT qX qv b0 b1 b2 b3 b4 b5 b23 b93 base capt c12 c15 At A12 A15 cr 10 Jw w w') Q) 256 f wc:=sC
theorem small_r19 :∀(_hI:SmSt smallT qX qv b0 b1 b2 b3 b4 b5 b23 b93 base capt c12 c15 At A12 A15 cr 10 Jw w wc) (f:Fr) (Q:Exit->Act->World->Prop) (_k7:f 7= .func (.func 26) #[] #[.pointer (some ⟨b5,0,none⟩)]) (_k3:f 3= .pointer (some ⟨b3,0,none⟩)) (_hPQ:PQ Q),WC Tryd.prog (sl (sr (sr (sr (sr (sr (sr (sr (sr (sr (sr (sr (sr (sr (sr (sr (sr (sr (sr (sr (ob Tryd.f6.body))))))))))))))))))))) (QRS 256 [162,163,164,165,166,167,168] f (fun _ w'=>SmSt smallT qX qv b0 b1 b2 b3 b4 b5 b23 b93 base capt c12 c15 At A12 A15 cr 11 Jv w w') Q) 256 f wc:=sC
end
section
variable {w wc:World} {b0 b1 b2 b3 b4 b5 b23 b93 base capt c12 c15:Nat} {At A12 A15:Option Addr} {cr:Array Value}
theorem small_r20 :∀(_hI:SmSt smallT qX qv b0 b1 b2 b3 b4 b5 b23 b93 base capt c12 c15 At A12 A15 cr 11 Jv w wc) (f:Fr) (Q:Exit->Act->World->Prop) (_k7:f 7= .func (.func 26) #[] #[.pointer (some ⟨b5,0,none⟩)]) (_k3:f 3= .pointer (some ⟨b3,0,none⟩)) (_hPQ:PQ Q),WC Tryd.prog (sl (sr (sr (sr (sr (sr (sr (sr (sr (sr (sr (sr (sr (sr (sr (sr (sr (sr (sr (sr (sr (ob Tryd.f6.body)))))))))))))))))))))) (QRS 256 [169,170,171,172,173,174,175] f (fun _ w'=>SmSt smallT qX qv b0 b1 b2 b3 b4 b5 b23 b93 base capt c12 c15 At A12 A15 cr 12 Jk w w') Q) 256 f wc:=sC
theorem small_r21 :∀(_hI:SmSt smallT qX qv b0 b1 b2 b3 b4 b5 b23 b93 base capt c12 c15 At A12 A15 cr 12 Jk w wc) (f:Fr) (Q:Exit->Act->World->Prop) (_k7:f 7= .func (.func 26) #[] #[.pointer (some ⟨b5,0,none⟩)]) (_k3:f 3= .pointer (some ⟨b3,0,none⟩)) (_hPQ:PQ Q),WC Tryd.prog (sl (sr (sr (sr (sr (sr (sr (sr (sr (sr (sr (sr (sr (sr (sr (sr (sr (sr (sr (sr (sr (sr (ob Tryd.f6.body))))))))))))))))))))))) (QRS 256 [176,177,178,179,180,181,182] f (fun _ w'=>SmSt smallT qX qv b0 b1 b2 b3 b4 b5 b23 b93 base capt c12 c15 At A12 A15 cr 13 Jj w w') Q) 256 f wc:=sC
theorem small_r22 :∀(_hI:SmSt smallT qX qv b0 b1 b2 b3 b4 b5 b23 b93 base capt c12 c15 At A12 A15 cr 13 Jj w wc) (f:Fr) (Q:Exit->Act->World->Prop) (_k7:f 7= .func (.func 26) #[] #[.pointer (some ⟨b5,0,none⟩)]) (_k4:f 4= .pointer (some ⟨b4,0,none⟩)) (_hPQ:PQ Q),WC Tryd.prog (sl (sr (sr (sr (sr (sr (sr (sr (sr (sr (sr (sr (sr (sr (sr (sr (sr (sr (sr (sr (sr (sr (sr (ob Tryd.f6.body)))))))))))))))))))))))) (QRS 256 [183,184,185,186,187,188,189] f (fun _ w'=>SmSt smallT qX qv b0 b1 b2 b3 b4 b5 b23 b93 base capt c12 c15 At A12 A15 cr 14 Jx w w') Q) 256 f wc:=sD
theorem small_r23 :∀(_hI:SmSt smallT qX qv b0 b1 b2 b3 b4 b5 b23 b93 base capt c12 c15 At A12 A15 cr 14 Jx w wc) (f:Fr) (Q:Exit->Act->World->Prop) (_k7:f 7= .func (.func 26) #[] #[.pointer (some ⟨b5,0,none⟩)]) (_k4:f 4= .pointer (some ⟨b4,0,none⟩)) (_hPQ:PQ Q),WC Tryd.prog (sl (sr (sr (sr (sr (sr (sr (sr (sr (sr (sr (sr (sr (sr (sr (sr (sr (sr (sr (sr (sr (sr (sr (sr (ob Tryd.f6.body))))))))))))))))))))))))) (QRS 256 [190,191,192,193,194,195,196] f (fun _ w'=>SmSt smallT qX qv b0 b1 b2 b3 b4 b5 b23 b93 base capt c12 c15 At A12 A15 cr 15 Jq w w') Q) 256 f wc:=sD
theorem small_r24 :∀(_hI:SmSt smallT qX qv b0 b1 b2 b3 b4 b5 b23 b93 base capt c12 c15 At A12 A15 cr 15 Jq w wc) (f:Fr) (Q:Exit->Act->World->Prop) (_k7:f 7= .func (.func 26) #[] #[.pointer (some ⟨b5,0,none⟩)]) (_k4:f 4= .pointer (some ⟨b4,0,none⟩)) (_hPQ:PQ Q),WC Tryd.prog (sl (sr (sr (sr (sr (sr (sr (sr (sr (sr (sr (sr (sr (sr (sr (sr (sr (sr (sr (sr (sr (sr (sr (sr (sr (ob Tryd.f6.body)))))))))))))))))))))))))) (QRS 256 [197,198,199,200,201,202,203] f (fun _ w'=>SmSt smallT qX qv b0 b1 b2 b3 b4 b5 b23 b93 base capt c12 c15 At A12 A15 cr 16 Jz w w') Q) 256 f wc:=sD
theorem small_r25 :∀(_hI:SmSt smallT qX qv b0 b1 b2 b3 b4 b5 b23 b93 base capt c12 c15 At A12 A15 cr 16 Jz w wc) (f:Fr) (Q:Exit->Act->World->Prop) (_k7:f 7= .func (.func 26) #[] #[.pointer (some ⟨b5,0,none⟩)]) (_k4:f 4= .pointer (some ⟨b4,0,none⟩)) (_hPQ:PQ Q),WC Tryd.prog (sl (sr (sr (sr (sr (sr (sr (sr (sr (sr (sr (sr (sr (sr (sr (sr (sr (sr (sr (sr (sr (sr (sr (sr (sr (sr (ob Tryd.f6.body))))))))))))))))))))))))))) (QRS 256 [204,205,206,207,208,209,210] f (fun _ w'=>SmSt smallT qX qv b0 b1 b2 b3 b4 b5 b23 b93 base capt c12 c15 At A12 A15 cr 17 J9 w w') Q) 256 f wc:=sD
theorem small_r26(hI:SmSt smallT qX qv b0 b1 b2 b3 b4 b5 b23 b93 base capt c12 c15 At A12 A15 cr 17 J9 w wc)(f:Fr)(Q:Exit->Act->World->Prop)(k7:f 7= .func (.func 26) #[] #[.pointer (some ⟨b5,0,none⟩)])(k2:f 2= .pointer (some ⟨b2,0,none⟩))(_hPQ:PQ Q):WC Tryd.prog (sl (sr (sr (sr (sr (sr (sr (sr (sr (sr (sr (sr (sr (sr (sr (sr (sr (sr (sr (sr (sr (sr (sr (sr (sr (sr (sr (ob Tryd.f6.body)))))))))))))))))))))))))))) (QRS 256 [211,212,213,214,215,216,217,218] f (fun _ w'=>SmSt smallT qX qv b0 b1 b2 b3 b4 b5 b23 b93 base capt c12 c15 At A12 A15 cr 18 J8 w w') Q) 256 f wc:=by
 have hb2:=hI.1.k2;refine zZ 7 _ k7 nu (zZ 2 _ k2 nu (zn4 ?_));refine zX VV (Zy [] (Ts.b true) (Ts.b true) _ _ _ _ _ _ _ (by simp) (Fz.triv _ _ TS (fun _=>SimsIn.nil)) (Fz.triv _ _ TS (fun _=>SimsIn.nil))) rfl (fun e' w1 hr=>?_);obtain⟨⟨_,rfl,A214,c214,n214,rfl,a2⟩,s1⟩:=hr;replace s1:=sB s1;refine⟨_,rfl,?_⟩;refine zX XY (oz [] ⟨#[110,111,116]⟩ (Ts.f (Ts.b true) (Ts.b true)) _ _ _ _ a2) rfl (fun e' w2 hr=>?_);obtain⟨⟨_,rfl,S215,c215,B215,m215,n215,rfl,a1⟩,s2⟩:=hr;replace s2:=sB s2;refine⟨_,rfl,?_⟩;refine qj (cs:=#[_]) [(0,.int _ _)] rfl U36 zY zW dE dE kR rfl (fun b216 w3 a4 s3 hr=>?_);refine qj (cs:=#[_]) [(0,.slice _ _ _)] rfl U86 xK xq dE dE kR rfl (fun b217 w4 a3 s4 hr=>?_);replace hI:=hI.tr0 (s1.t (s2.t (s3.t s4)));obtain⟨hC,A,cap,xs,nL,hb5,ho,hL⟩:=hI;replace a1:=a1.tr0 (s3.t s4);refine xw rfl Y0 (ov ⟨#[110,111,116]⟩ 0 (Tv.con ⟨#[110,111,116]⟩ (Ts.f (Ts.b true) (Ts.b true))) _ _ _ _ _ _ [[13]] _ _ base _ _ _ _ _ _ _ _ _ J9 _ dE (qY (rs:=[[13]]) a3 (.cons ⟨_,_,rfl,(qx [13] a4.u dE),by decide,by decide⟩ .nil) dE) a1 hb5 ho hL hC.bs hC.l.1 dE) rfl rfl (fun e' w5 hr=>?_);obtain⟨rfl,A2,cap2,xs2,a5,hon,hL2,hS,hA2⟩:=hr;replace hC:=hC.add hS hb5 ho;refine⟨_,rfl,?_⟩;refine x6 ?_;refine e_R ⟨agA,?_⟩;exact⟨hC,_,_,_,_,a5,hon,hL2⟩
theorem small_r27(hI:SmSt smallT qX qv b0 b1 b2 b3 b4 b5 b23 b93 base capt c12 c15 At A12 A15 cr 18 J8 w wc)(f:Fr)(Q:Exit->Act->World->Prop)(k7:f 7= .func (.func 26) #[] #[.pointer (some ⟨b5,0,none⟩)])(k2:f 2= .pointer (some ⟨b2,0,none⟩))(_hPQ:PQ Q):WC Tryd.prog (sl (sr (sr (sr (sr (sr (sr (sr (sr (sr (sr (sr (sr (sr (sr (sr (sr (sr (sr (sr (sr (sr (sr (sr (sr (sr (sr (sr (ob Tryd.f6.body))))))))))))))))))))))))))))) (QRS 256 [219,220,221,222,223,224,225,226,227,228] f (fun _ w'=>SmSt smallT qX qv b0 b1 b2 b3 b4 b5 b23 b93 base capt c12 c15 At A12 A15 cr 19 J7 w w') Q) 256 f wc:=by
 have bg:=hI.1.k2;refine zZ 7 _ k7 nu (zZ 2 _ k2 nu ?_);refine Zj 9 [219,220,221,222,223,224,225,226,227] (fun _=>false) (fun ix v wv=>match ix with|0=>v= .func (.func 26) #[] #[.pointer (some ⟨b5,0,none⟩)]|1=>v= .agg cJ|2=>v= .agg cJ|3=>v= .agg cJ|4=>SmD [] (Ts.f (Ts.b true) (Ts.b true)) wv (v)|5=>SmD [] (Ts.f (Ts.b true) (Ts.f (Ts.b true) (Ts.b true))) wv (v)|6=>TmD [] (Tv.con ⟨#[97,110,100]⟩ (Ts.f (Ts.b true) (Ts.f (Ts.b true) (Ts.b true)))) wv (v)|7=>IsP [14] wv (v)|8=>RsP [[14]] wv (v)|_=>True) kR kR ?_ ?_ ?_
 ·intro ix v wv wv2 h s1
  match ix,h with
  | 0,h=>exact h
  | 1,h=>exact h
  | 2,h=>exact h
  | 3,h=>exact h
  | 4,h=>
   obtain⟨bd,b9,ao,a9,a3⟩:=h;exact⟨bd,b9,ao,a9,a3.tr0 s1⟩
  | 5,h=>
   obtain⟨bc,b8,an,a8,a2⟩:=h;exact⟨bc,b8,an,a8,a2.tr0 s1⟩
  | 6,h=>
   obtain⟨ba,b7,bb,b6,ab,a7,a1⟩:=h;exact⟨ba,b7,bb,b6,ab,a7,a1.tr0 s1⟩
  | 7,h=>
   exact IsP.tr0 h s1
  | 8,h=>
   exact RsP.tr0 h s1
  | _+9,h=>exact trivial
 ·intro ix o hix hoq gg wx s2 hd be
  match ix,hix,hoq with
  | 0,_,hoq=>
   cases sI hoq;exact oVq (x7 (v:= .func _ _ _) rfl) rfl
  | 1,_,hoq=>
   cases sI hoq;exact oVq (qK U61 rfl rfl bg.u.range0 yk) rfl
  | 2,_,hoq=>
   cases sI hoq;exact oVq (qK U61 rfl rfl bg.u.range0 yk) rfl
  | 3,_,hoq=>
   cases sI hoq;exact oVq (qK U61 rfl rfl bg.u.range0 yk) rfl
  | 4,_,hoq=>
   cases sI hoq;refine aX 221 (hd 2 aY) (aX 222 (hd 3 aY) ?_);refine yK VV (Zy [] (Ts.b true) (Ts.b true) _ _ _ _ _ _ wx (by simp) (Fz.triv _ _ TS (fun _=>SimsIn.nil)) (Fz.triv _ _ TS (fun _=>SimsIn.nil))) rfl (fun e' w2 hr=>?_);obtain⟨⟨_,rfl,hd⟩,s3⟩:=hr;exact⟨_,rfl,sB s3,hd,xk⟩
  | 5,_,hoq=>
   cases sI hoq;obtain⟨bd,b9,ao,a9,a3⟩:=hd 4 (zq kR);refine aX 220 (hd 1 aY) (zz 223 _ a9 nu ?_);refine yK VV (Zy [] (Ts.b true) (Ts.f (Ts.b true) (Ts.b true)) _ _ _ _ _ _ wx (by simp) (Fz.triv _ _ TS (fun _=>SimsIn.nil)) a3) rfl (fun e' w2 hr=>?_);obtain⟨⟨_,rfl,hd⟩,s4⟩:=hr;exact⟨_,rfl,sB s4,hd,xk⟩
  | 6,_,hoq=>
   cases sI hoq;obtain⟨bc,b8,an,a8,a2⟩:=hd 5 (zq kR);refine zz 224 _ a8 nu ?_;refine yK XY (oz [] ⟨#[97,110,100]⟩ (Ts.f (Ts.b true) (Ts.f (Ts.b true) (Ts.b true))) _ _ _ wx a2) rfl (fun e' w2 hr=>?_);obtain⟨⟨_,rfl,hd⟩,s5⟩:=hr;exact⟨_,rfl,sB s5,hd,xk⟩
  | 7,_,hoq=>
   cases sI hoq;exact vK [14] rfl U36 zY zW
  | 8,_,hoq=>
   cases sI hoq;obtain⟨b226,bi,a6⟩:=hd 7 (zq kR);refine zz 226 _ bi nu ?_;refine jK (fun ops Q K=>?_);refine qj (cs:=#[_]) [(0,.slice _ _ _)] rfl U86 xK xq dE dE kR rfl (fun bj w1 a4 s6 hr=>?_);exact K _ _ ⟨s6,⟨_,rfl,qY (rs:=[[14]]) a4 (.cons ⟨_,_,rfl,(a6.mono s6.bel),by decide,by decide⟩ .nil) dE⟩,fRq hr a4.lt⟩
  | _+9,hix,_=>exact absurd hix oG
 intro gg w2 s7 hR be;obtain⟨ba,b7,bb,b6,ab,a7,a1⟩:=hR 6 dE;obtain⟨bj,bh,a5⟩:=hR 8 dE;refine xz 219 _ (hR 0 dE) nu (xz 225 _ a7 nu (xz 227 _ bh nu ?_));replace hI:=hI.tr0 s7;obtain⟨hC,A,cap,xs,nL,hb5,ho,hL⟩:=hI;refine xw rfl Y0 (ov ⟨#[97,110,100]⟩ 0 (Tv.con ⟨#[97,110,100]⟩ (Ts.f (Ts.b true) (Ts.f (Ts.b true) (Ts.b true)))) _ _ _ _ _ _ [[14]] _ _ base _ _ _ _ _ _ _ _ _ J8 _ dE a5 a1 hb5 ho hL hC.bs hC.l.1 dE) rfl rfl (fun e' w3 hr=>?_);obtain⟨rfl,A2,cap2,xs2,bf,hon,hL2,hS,hA2⟩:=hr;replace hC:=hC.add hS hb5 ho;refine⟨_,rfl,?_⟩;refine x6 ?_;refine e_R ⟨agA,?_⟩;exact⟨hC,_,_,_,_,bf,hon,hL2⟩
theorem small_r28(hI:SmSt smallT qX qv b0 b1 b2 b3 b4 b5 b23 b93 base capt c12 c15 At A12 A15 cr 19 J7 w wc)(f:Fr)(Q:Exit->Act->World->Prop)(k7:f 7= .func (.func 26) #[] #[.pointer (some ⟨b5,0,none⟩)])(k1:f 1= .pointer (some ⟨b1,0,none⟩))(k3:f 3= .pointer (some ⟨b3,0,none⟩))(_hPQ:PQ Q):WC Tryd.prog (sl (sr (sr (sr (sr (sr (sr (sr (sr (sr (sr (sr (sr (sr (sr (sr (sr (sr (sr (sr (sr (sr (sr (sr (sr (sr (sr (sr (sr (ob Tryd.f6.body)))))))))))))))))))))))))))))) (QRS 256 [229,230,231,232,233,234,235,236,237,238,239] f (fun _ w'=>SmSt smallT qX qv b0 b1 b2 b3 b4 b5 b23 b93 base capt c12 c15 At A12 A15 cr 20 J6 w w') Q) 256 f wc:=by
 have hb1:=hI.1.k1;have hb3:=hI.1.k3;have a9:=hI.1.p12;refine zZ 7 _ k7 nu (zZ 1 _ k1 nu (zZ 3 _ k3 nu ?_));refine Zj 10 [229,230,231,232,233,234,235,236,237,238] (fun _=>false) (fun ix v wv=>match ix with|0=>v= .func (.func 26) #[] #[.pointer (some ⟨b5,0,none⟩)]|1=>v= .agg #[.string (tyET).sm.base,.slice A12 (tyET).sm.args.length c12]|2=>TmD [] (Tv.var 0) wv (v)|3=>v= .agg #[.string ((Ts.b false)).sm.base,.slice none ((Ts.b false)).sm.args.length 0]|4=>TmD [] (Tv.con ⟨#[114,101,120]⟩ (Ts.b false)) wv (v)|5=>TmD [] (Tv.app (Tv.var 0) (Tv.con ⟨#[114,101,120]⟩ (Ts.b false))) wv (v)|6=>TmD [] (Tv.abs tyET (Tv.app (Tv.var 0) (Tv.con ⟨#[114,101,120]⟩ (Ts.b false)))) wv (v)|7=>IsP [7,4,1] wv (v)|8=>IsP [4] wv (v)|9=>RsP [[7,4,1],[4]] wv (v)|_=>True) kR kR ?_ ?_ ?_
 ·intro ix v wv wv2 h s1
  match ix,h with
  | 0,h=>exact h
  | 1,h=>exact h
  | 2,h=>
   obtain⟨bn,bi,bt,be,ba,b6,a4⟩:=h;exact⟨bn,bi,bt,be,ba,b6,a4.tr0 s1⟩
  | 3,h=>exact h
  | 4,h=>
   obtain⟨bm,bh,br,bd,b9,ao,a3⟩:=h;exact⟨bm,bh,br,bd,b9,ao,a3.tr0 s1⟩
  | 5,h=>
   obtain⟨bk,bg,bq,bc,b8,an,a2⟩:=h;exact⟨bk,bg,bq,bc,b8,an,a2.tr0 s1⟩
  | 6,h=>
   obtain⟨bj,bf,bo,bb,b7,ab,a1⟩:=h;exact⟨bj,bf,bo,bb,b7,ab,a1.tr0 s1⟩
  | 7,h=>
   exact IsP.tr0 h s1
  | 8,h=>
   exact IsP.tr0 h s1
  | 9,h=>
   exact RsP.tr0 h s1
  | _+10,h=>exact trivial
 ·intro ix o hix hoq gg wx s2 hd bu
  match ix,hix,hoq with
  | 0,_,hoq=>
   cases sI hoq;exact oVq (x7 (v:= .func _ _ _) rfl) rfl
  | 1,_,hoq=>
   cases sI hoq;exact oVq (qK U61 rfl rfl hb3.u.range0 yk) rfl
  | 2,_,hoq=>
   cases sI hoq;refine yK X7 (vw [] 0 wx) rfl (fun e' w2 hr=>?_);obtain⟨⟨_,rfl,hd⟩,s3⟩:=hr;exact⟨_,rfl,sB s3,hd,xk⟩
  | 3,_,hoq=>
   cases sI hoq;exact oVq (qK U61 rfl rfl hb1.u.range0 yk) rfl
  | 4,_,hoq=>
   cases sI hoq;refine aX 232 (hd 3 aY) ?_;refine yK XY (oz [] ⟨#[114,101,120]⟩ (Ts.b false) _ _ _ wx (Fz.triv _ _ TS (fun _=>SimsIn.nil))) rfl (fun e' w2 hr=>?_);obtain⟨⟨_,rfl,hd⟩,s4⟩:=hr;exact⟨_,rfl,sB s4,hd,xk⟩
  | 5,_,hoq=>
   cases sI hoq;obtain⟨bn,bi,bt,be,ba,b6,a4⟩:=hd 2 (zq kR);obtain⟨bm,bh,br,bd,b9,ao,a3⟩:=hd 4 (zq kR);refine zz 231 _ b6 nu (zz 233 _ ao nu ?_);refine yK Vx (Zk [] (Tv.var 0) (Tv.con ⟨#[114,101,120]⟩ (Ts.b false)) _ _ _ _ _ _ _ _ _ _ wx (by simp) a4 a3) rfl (fun e' w2 hr=>?_);obtain⟨⟨_,rfl,hd⟩,s5⟩:=hr;exact⟨_,rfl,sB s5,hd,xk⟩
  | 6,_,hoq=>
   cases sI hoq;obtain⟨bk,bg,bq,bc,b8,an,a2⟩:=hd 5 (zq kR);refine aX 230 (hd 1 aY) (zz 234 _ an nu ?_);replace a9:=a9.tr0 s2;refine yK X8 (uZ [] tyET (Tv.app (Tv.var 0) (Tv.con ⟨#[114,101,120]⟩ (Ts.b false))) _ _ _ _ _ _ _ _ wx (by simp) a9 a2) rfl (fun e' w2 hr=>?_);obtain⟨⟨_,rfl,hd⟩,s6⟩:=hr;exact⟨_,rfl,sB s6,hd,xk⟩
  | 7,_,hoq=>
   cases sI hoq;exact vK [7,4,1] rfl U36 zY zW
  | 8,_,hoq=>
   cases sI hoq;exact vK [4] rfl U36 zY zW
  | 9,_,hoq=>
   cases sI hoq;obtain⟨b236,bz,a8⟩:=hd 7 (zq kR);obtain⟨b237,bx,a7⟩:=hd 8 (zq kR);refine zz 236 _ bz nu (zz 237 _ bx nu ?_);refine jK (fun ops Q K=>?_);refine qj (cs:=#[_,_]) [(0,.slice _ _ _),(1,.slice _ _ _)] rfl U86 xK xq dE dE kR rfl (fun c0 w1 a5 s7 hr=>?_);exact K _ _ ⟨s7,⟨_,rfl,qY (rs:=[[7,4,1],[4]]) a5 (.cons ⟨_,_,rfl,(a8.mono s7.bel),by decide,by decide⟩ (.cons ⟨_,_,rfl,(a7.mono s7.bel),by decide,by decide⟩ .nil)) dE⟩,fRq hr a5.lt⟩
  | _+10,hix,_=>exact absurd hix oG
 intro gg w2 s8 hR bu;obtain⟨bj,bf,bo,bb,b7,ab,a1⟩:=hR 6 dE;obtain⟨c0,bw,a6⟩:=hR 9 dE;refine xz 229 _ (hR 0 dE) nu (xz 235 _ ab nu (xz 238 _ bw nu ?_));replace hI:=hI.tr0 s8;obtain⟨hC,A,cap,xs,nL,hb5,ho,hL⟩:=hI;refine xw rfl Y0 (ov ⟨#[114,101,120]⟩ 0 (Tv.abs tyET (Tv.app (Tv.var 0) (Tv.con ⟨#[114,101,120]⟩ (Ts.b false)))) _ _ _ _ _ _ [[7,4,1],[4]] _ _ base _ _ _ _ _ _ _ _ _ J7 _ dE a6 a1 hb5 ho hL hC.bs hC.l.1 dE) rfl rfl (fun e' w3 hr=>?_);obtain⟨rfl,A2,cap2,xs2,bv,hon,hL2,hS,hA2⟩:=hr;replace hC:=hC.add hS hb5 ho;refine⟨_,rfl,?_⟩;refine x6 ?_;refine e_R ⟨agA,?_⟩;exact⟨hC,_,_,_,_,bv,hon,hL2⟩
theorem small_r29(hI:SmSt smallT qX qv b0 b1 b2 b3 b4 b5 b23 b93 base capt c12 c15 At A12 A15 cr 20 J6 w wc)(f:Fr)(Q:Exit->Act->World->Prop)(k7:f 7= .func (.func 26) #[] #[.pointer (some ⟨b5,0,none⟩)])(k1:f 1= .pointer (some ⟨b1,0,none⟩))(k3:f 3= .pointer (some ⟨b3,0,none⟩))(_hPQ:PQ Q):WC Tryd.prog (sl (sr (sr (sr (sr (sr (sr (sr (sr (sr (sr (sr (sr (sr (sr (sr (sr (sr (sr (sr (sr (sr (sr (sr (sr (sr (sr (sr (sr (sr (ob Tryd.f6.body))))))))))))))))))))))))))))))) (QRS 256 [240,241,242,243,244,245,246,247,248,249,250] f (fun _ w'=>SmSt smallT qX qv b0 b1 b2 b3 b4 b5 b23 b93 base capt c12 c15 At A12 A15 cr 21 PZ w w') Q) 256 f wc:=by
 have hb1:=hI.1.k1;have hb3:=hI.1.k3;have a9:=hI.1.p12;refine zZ 7 _ k7 nu (zZ 1 _ k1 nu (zZ 3 _ k3 nu ?_));refine Zj 10 [240,241,242,243,244,245,246,247,248,249] (fun _=>false) (fun ix v wv=>match ix with|0=>v= .func (.func 26) #[] #[.pointer (some ⟨b5,0,none⟩)]|1=>v= .agg #[.string (tyET).sm.base,.slice A12 (tyET).sm.args.length c12]|2=>TmD [] (Tv.var 0) wv (v)|3=>v= .agg #[.string ((Ts.b false)).sm.base,.slice none ((Ts.b false)).sm.args.length 0]|4=>TmD [] (Tv.con ⟨#[109,105,97]⟩ (Ts.b false)) wv (v)|5=>TmD [] (Tv.app (Tv.var 0) (Tv.con ⟨#[109,105,97]⟩ (Ts.b false))) wv (v)|6=>TmD [] (Tv.abs tyET (Tv.app (Tv.var 0) (Tv.con ⟨#[109,105,97]⟩ (Ts.b false)))) wv (v)|7=>IsP [7,4,1] wv (v)|8=>IsP [4] wv (v)|9=>RsP [[7,4,1],[4]] wv (v)|_=>True) kR kR ?_ ?_ ?_
 ·intro ix v wv wv2 h s1
  match ix,h with
  | 0,h=>exact h
  | 1,h=>exact h
  | 2,h=>
   obtain⟨bn,bi,bt,be,ba,b6,a4⟩:=h;exact⟨bn,bi,bt,be,ba,b6,a4.tr0 s1⟩
  | 3,h=>exact h
  | 4,h=>
   obtain⟨bm,bh,br,bd,b9,ao,a3⟩:=h;exact⟨bm,bh,br,bd,b9,ao,a3.tr0 s1⟩
  | 5,h=>
   obtain⟨bk,bg,bq,bc,b8,an,a2⟩:=h;exact⟨bk,bg,bq,bc,b8,an,a2.tr0 s1⟩
  | 6,h=>
   obtain⟨bj,bf,bo,bb,b7,ab,a1⟩:=h;exact⟨bj,bf,bo,bb,b7,ab,a1.tr0 s1⟩
  | 7,h=>
   exact IsP.tr0 h s1
  | 8,h=>
   exact IsP.tr0 h s1
  | 9,h=>
   exact RsP.tr0 h s1
  | _+10,h=>exact trivial
 ·intro ix o hix hoq gg wx s2 hd bu
  match ix,hix,hoq with
  | 0,_,hoq=>
   cases sI hoq;exact oVq (x7 (v:= .func _ _ _) rfl) rfl
  | 1,_,hoq=>
   cases sI hoq;exact oVq (qK U61 rfl rfl hb3.u.range0 yk) rfl
  | 2,_,hoq=>
   cases sI hoq;refine yK X7 (vw [] 0 wx) rfl (fun e' w2 hr=>?_);obtain⟨⟨_,rfl,hd⟩,s3⟩:=hr;exact⟨_,rfl,sB s3,hd,xk⟩
  | 3,_,hoq=>
   cases sI hoq;exact oVq (qK U61 rfl rfl hb1.u.range0 yk) rfl
  | 4,_,hoq=>
   cases sI hoq;refine aX 243 (hd 3 aY) ?_;refine yK XY (oz [] ⟨#[109,105,97]⟩ (Ts.b false) _ _ _ wx (Fz.triv _ _ TS (fun _=>SimsIn.nil))) rfl (fun e' w2 hr=>?_);obtain⟨⟨_,rfl,hd⟩,s4⟩:=hr;exact⟨_,rfl,sB s4,hd,xk⟩
  | 5,_,hoq=>
   cases sI hoq;obtain⟨bn,bi,bt,be,ba,b6,a4⟩:=hd 2 (zq kR);obtain⟨bm,bh,br,bd,b9,ao,a3⟩:=hd 4 (zq kR);refine zz 242 _ b6 nu (zz 244 _ ao nu ?_);refine yK Vx (Zk [] (Tv.var 0) (Tv.con ⟨#[109,105,97]⟩ (Ts.b false)) _ _ _ _ _ _ _ _ _ _ wx (by simp) a4 a3) rfl (fun e' w2 hr=>?_);obtain⟨⟨_,rfl,hd⟩,s5⟩:=hr;exact⟨_,rfl,sB s5,hd,xk⟩
  | 6,_,hoq=>
   cases sI hoq;obtain⟨bk,bg,bq,bc,b8,an,a2⟩:=hd 5 (zq kR);refine aX 241 (hd 1 aY) (zz 245 _ an nu ?_);replace a9:=a9.tr0 s2;refine yK X8 (uZ [] tyET (Tv.app (Tv.var 0) (Tv.con ⟨#[109,105,97]⟩ (Ts.b false))) _ _ _ _ _ _ _ _ wx (by simp) a9 a2) rfl (fun e' w2 hr=>?_);obtain⟨⟨_,rfl,hd⟩,s6⟩:=hr;exact⟨_,rfl,sB s6,hd,xk⟩
  | 7,_,hoq=>
   cases sI hoq;exact vK [7,4,1] rfl U36 zY zW
  | 8,_,hoq=>
   cases sI hoq;exact vK [4] rfl U36 zY zW
  | 9,_,hoq=>
   cases sI hoq;obtain⟨b247,bz,a8⟩:=hd 7 (zq kR);obtain⟨b248,bx,a7⟩:=hd 8 (zq kR);refine zz 247 _ bz nu (zz 248 _ bx nu ?_);refine jK (fun ops Q K=>?_);refine qj (cs:=#[_,_]) [(0,.slice _ _ _),(1,.slice _ _ _)] rfl U86 xK xq dE dE kR rfl (fun c0 w1 a5 s7 hr=>?_);exact K _ _ ⟨s7,⟨_,rfl,qY (rs:=[[7,4,1],[4]]) a5 (.cons ⟨_,_,rfl,(a8.mono s7.bel),by decide,by decide⟩ (.cons ⟨_,_,rfl,(a7.mono s7.bel),by decide,by decide⟩ .nil)) dE⟩,fRq hr a5.lt⟩
  | _+10,hix,_=>exact absurd hix oG
 intro gg w2 s8 hR bu;obtain⟨bj,bf,bo,bb,b7,ab,a1⟩:=hR 6 dE;obtain⟨c0,bw,a6⟩:=hR 9 dE;refine xz 240 _ (hR 0 dE) nu (xz 246 _ ab nu (xz 249 _ bw nu ?_));replace hI:=hI.tr0 s8;obtain⟨hC,A,cap,xs,nL,hb5,ho,hL⟩:=hI;refine xw rfl Y0 (ov ⟨#[109,105,97]⟩ 0 (Tv.abs tyET (Tv.app (Tv.var 0) (Tv.con ⟨#[109,105,97]⟩ (Ts.b false)))) _ _ _ _ _ _ [[7,4,1],[4]] _ _ base _ _ _ _ _ _ _ _ _ J6 _ dE a6 a1 hb5 ho hL hC.bs hC.l.1 dE) rfl rfl (fun e' w3 hr=>?_);obtain⟨rfl,A2,cap2,xs2,bv,hon,hL2,hS,hA2⟩:=hr;replace hC:=hC.add hS hb5 ho;refine⟨_,rfl,?_⟩;refine x6 ?_;refine e_R ⟨agA,?_⟩;exact⟨hC,_,_,_,_,bv,hon,hL2⟩
end
end Go.Proofs.YtmfiholmfieieaaDoor
