/- Regions of the function Small, each at every world. Regions of the function Small, each at every world. -/
import Derived.Test.YtbcpgfnfiekbiaaGreatDoorU
import Derived.Test.YtbcpgfnfiekbiaaGreatDoorTrm
import Derived.Test.YtbcpgfnfiekbiaaGreatDoorDHo
import Derived.Test.YtbcpgfnfiekbiaaGreatDoorDMe
namespace Go.Proofs.YtbcpgfnfiekbiaaGreatDoor
open Go.RowKit
def Hj:List ByteArray:=[⟨#[116,111,112]⟩,⟨#[114,117,108,101]⟩,⟨#[115,105,103,110]⟩,⟨#[110,117,109]⟩,⟨#[115,105,110,103]⟩,⟨#[112,108,117,114]⟩,⟨#[115]⟩,⟨#[110,112]⟩,⟨#[118,112]⟩,⟨#[110]⟩,⟨#[100,101,116]⟩,⟨#[105,118]⟩,⟨#[116,118]⟩,⟨#[97,100,118]⟩,⟨#[99,111,110,106]⟩]
def Hx:List Int:=[0,0,0,0,3,3,2,2,2,2,2,2,2,2,2]
def smallF:List Ft:=[⟨⟨#[109,111,116,104,101,114]⟩,1,2⟩,⟨⟨#[111,110,101]⟩,1,2⟩,⟨⟨#[116,119,111]⟩,1,2⟩,⟨⟨#[116,104,114,101,101]⟩,1,2⟩,⟨⟨#[110,117,109]⟩,2,3⟩]
def smallT:List Ty:=XW Hj Hx 15
def CV:RlS:=⟨⟨#[115]⟩,[[1,0,1,1,2,2,4],[6],[7,4,3],[3],[8,4,3]],2,0,(Qx[0]'dE)⟩
def CK:RlS:=⟨⟨#[110,112]⟩,[[1,0,1,1,3,2,4],[7,4,2],[3],[10,4,2],[9,4,2]],2,1,(Qx[1]'dE)⟩
def CJ:RlS:=⟨⟨#[118,112,45,105,118]⟩,[[1,0,1,1,3],[8,4,2],[3],[11,4,2]],1,0,(Qx[2]'dE)⟩
def CX:RlS:=⟨⟨#[118,112,45,116,118]⟩,[[1,0,1,1,3,2,4],[8,4,2],[3],[12,4,2],[7]],2,2,(Qx[3]'dE)⟩
def CQ:RlS:=⟨⟨#[118,112,45,110,111,116]⟩,[[1,0,1,1,3,2,4],[8,4,2],[3],[13],[8,4,2]],2,3,(Qx[4]'dE)⟩
def smallR5:RlS:=⟨⟨#[110,112,45,97,110,100]⟩,[[1,0,1,1,3,2,4,3,5],[7,4,2],[5],[7],[14],[7]],3,4,(Qx[5]'dE)⟩
def smallRs:List RlS:=[CV,CK,CJ,CX,CQ,smallR5]
def smallR:List Rl:=smallRs.map RlS.rl
def smallW0:LxS:=⟨⟨#[101,118,101,114,121]⟩,[[10,4,1],[4]],1,(quN ⟨#[97,108,108]⟩ ⟨#[105,102]⟩)⟩
def smallW1:LxS:=⟨⟨#[97]⟩,[[10,4,1],[4]],0,(quN ⟨#[115,111,109,101]⟩ ⟨#[97,110,100]⟩)⟩
def smallW2:LxS:=⟨⟨#[110,111]⟩,[[10]],2,(quY ⟨#[115,111,109,101]⟩ ⟨#[97,110,100]⟩)⟩
def smallW3:LxS:=⟨⟨#[100,111,103]⟩,[[9,4,1],[4]],0,(Tv.con ⟨#[100,111,103]⟩ tyET)⟩
def smallW4:LxS:=⟨⟨#[100,111,103,115]⟩,[[9,4,1],[5]],0,(Tv.con ⟨#[100,111,103]⟩ tyET)⟩
def smallW5:LxS:=⟨⟨#[99,97,116]⟩,[[9,4,1],[4]],0,(Tv.con ⟨#[99,97,116]⟩ tyET)⟩
def smallW6:LxS:=⟨⟨#[99,97,116,115]⟩,[[9,4,1],[5]],0,(Tv.con ⟨#[99,97,116]⟩ tyET)⟩
def smallW7:LxS:=⟨⟨#[102,105,115,104]⟩,[[9,4,1],[4]],1,(Tv.con ⟨#[102,105,115,104]⟩ tyET)⟩
def smallW8:LxS:=⟨⟨#[102,105,115,104]⟩,[[9,4,1],[5]],2,(Tv.con ⟨#[102,105,115,104]⟩ tyET)⟩
def smallW9:LxS:=⟨⟨#[98,97,114,107,115]⟩,[[11,4,1],[4]],0,(Tv.con ⟨#[98,97,114,107]⟩ tyET)⟩
def smallW10:LxS:=⟨⟨#[98,97,114,107]⟩,[[11,4,1],[5]],0,(Tv.con ⟨#[98,97,114,107]⟩ tyET)⟩
def smallW11:LxS:=⟨⟨#[115,108,101,101,112,115]⟩,[[11,4,1],[4]],0,(Tv.con ⟨#[115,108,101,101,112]⟩ tyET)⟩
def smallW12:LxS:=⟨⟨#[115,108,101,101,112]⟩,[[11,4,1],[5]],0,(Tv.con ⟨#[115,108,101,101,112]⟩ tyET)⟩
def smallW13:LxS:=⟨⟨#[99,104,97,115,101,115]⟩,[[12,4,1],[4]],0,(Tv.con ⟨#[99,104,97,115,101]⟩ tyEET)⟩
def smallW14:LxS:=⟨⟨#[99,104,97,115,101]⟩,[[12,4,1],[5]],0,(Tv.con ⟨#[99,104,97,115,101]⟩ tyEET)⟩
def smallW15:LxS:=⟨⟨#[115,101,101,115]⟩,[[12,4,1],[4]],1,(Tv.con ⟨#[115,101,101]⟩ tyEET)⟩
def smallW16:LxS:=⟨⟨#[115,101,101]⟩,[[12,4,1],[5]],1,(Tv.con ⟨#[115,101,101]⟩ tyEET)⟩
def smallW17:LxS:=⟨⟨#[110,111,116]⟩,[[13]],0,(Tv.con ⟨#[110,111,116]⟩ (Ts.f (Ts.b true) (Ts.b true)))⟩
def smallW18:LxS:=⟨⟨#[97,110,100]⟩,[[14]],0,(Tv.con ⟨#[97,110,100]⟩ (Ts.f (Ts.b true) (Ts.f (Ts.b true) (Ts.b true))))⟩
def smallW19:LxS:=⟨⟨#[114,101,120]⟩,[[7,4,1],[4]],0,(Tv.abs tyET (Tv.app (Tv.var 0) (Tv.con ⟨#[114,101,120]⟩ (Ts.b false))))⟩
def smallW20:LxS:=⟨⟨#[109,105,97]⟩,[[7,4,1],[4]],0,(Tv.abs tyET (Tv.app (Tv.var 0) (Tv.con ⟨#[109,105,97]⟩ (Ts.b false))))⟩
def N3:List Lx:=[]
def K6:List Lx:=N3 ++ [smallW0.lx]
def K5:List Lx:=K6 ++ [smallW1.lx]
def K4:List Lx:=K5 ++ [smallW2.lx]
def K3:List Lx:=K4 ++ [smallW3.lx]
def K1:List Lx:=K3 ++ [smallW4.lx]
def K0:List Lx:=K1 ++ [smallW5.lx]
def JY:List Lx:=K0 ++ [smallW6.lx]
def JW:List Lx:=JY ++ [smallW7.lx]
def JV:List Lx:=JW ++ [smallW8.lx]
def Yv:List Lx:=JV ++ [smallW9.lx]
def Yk:List Lx:=Yv ++ [smallW10.lx]
def Yj:List Lx:=Yk ++ [smallW11.lx]
def Yx:List Lx:=Yj ++ [smallW12.lx]
def Yq:List Lx:=Yx ++ [smallW13.lx]
def Yz:List Lx:=Yq ++ [smallW14.lx]
def Y9:List Lx:=Yz ++ [smallW15.lx]
def Y8:List Lx:=Y9 ++ [smallW16.lx]
def Y7:List Lx:=Y8 ++ [smallW17.lx]
def Y6:List Lx:=Y7 ++ [smallW18.lx]
def Y5:List Lx:=Y6 ++ [smallW19.lx]
def Ej:List Lx:=Y5 ++ [smallW20.lx]
def smallX:List Lx:=Ej
def smallS:List Nd:=([[6]]:List (List Int)).map XY
theorem sz26_DSmA:(Tryz.prog.info? 26).map (·.size)=some 1:=by kernel_rfl
theorem sz54_DSmA:(Tryz.prog.info? 54).map (·.size)=some 10:=by kernel_rfl
theorem ze54_DSmA:(Tryz.prog.info? 54).map (·.zero)=some (some (.agg #[.string ⟨#[]⟩,.slice none 0 0,.int .i64 0,.int .i64 0,.int .i64 0,.string ⟨#[]⟩,.int .i64 0,.string ⟨#[]⟩,.slice none 0 0,.slice none 0 0])):=by kernel_rfl
theorem xQ:(Tryz.prog.info? 66).map (·.zero)=some (some (.slice none 0 0)):=by kernel_rfl
variable {w wc:World} {b0 b1 b2 b3 b4 b5 b23 b93 base capt c12 c15:Nat} {At A12 A15:Option Addr} {cr:Array Value}
set_option maxHeartbeats 4000000 in
theorem small_r7 {bm nm:Nat} {csm:List Value} (hb5:Blk wc b5 32 #[.slice At 15 capt,.slice (some ⟨b23,0,none⟩) 5 5,.slice none 0 0,.slice none 0 0,.slice none 0 0]) (hbm:Blk wc bm 44 csm.toArray) (hTm:TmCs nm wc Qx csm)  (f:Fr) (Q:Exit→Act→World→Prop) (k6:f 6= .slice (some ⟨bm,0,none⟩) 6 6) (k5:f 5= .pointer (some ⟨b5,0,none⟩)) (hPQ:PQ Q):WC Tryz.prog (sl (sr (sr (sr (sr (sr (sr (sr (ob Tryz.f5.body))))))))) (QRS 256 [27,28,29,30,31,32,33,34,35,36,37,38,39,40,41,42,43,44,45,46,47,48,49,50,51,52,53,54,55,56,57,58,59,60,61,62,63,64,65,66,67,68,69,70,71,72,73,74,75,76,77,78,79,80,81,82,83,84,85,86,87,88,89,90,91,92,93,94] f (fun _ w'=>Same [b5] wc w'∧∃ b93 cr nRl,wc.heap.size≤b93∧Blk w' b93 54 cr∧Fz [] nRl TS w' (fun w=>RlCs w smallR cr.toList)∧Blk w' b5 32 #[.slice At 15 capt,.slice (some ⟨b23,0,none⟩) 5 5,.slice (some ⟨b93,0,none⟩) 6 6,.slice none 0 0,.slice none 0 0]) Q) 256 f wc:=by
 have hZ:Same [b5] wc wc:=(Same.refl [] wc).weak (by simp);refine zZ 6 _ k6 nu (zZ 5 _ k5 nu ?_);have z5:=hb5.lt;refine kK 67 [27,28,29,30,31,32,33,34,35,36,37,38,39,40,41,42,43,44,45,46,47,48,49,50,51,52,53,54,55,56,57,58,59,60,61,62,63,64,65,66,67,68,69,70,71,72,73,74,75,76,77,78,79,80,81,82,83,84,85,86,87,88,89,90,91,92,93] (fun ix=>Nat.beq ix 66) (fun ix v wv=>match ix with | 0=>v= .slice (some ⟨bm,0,none⟩) 6 6 | 1=>v= .pointer (some ⟨bm,0 + 0 * 6,none⟩) | 2=>TmD [] (Qx[0]'dE) wv (v) | 3=>IsP [1,0,1,1,2,2,4] wv (v) | 4=>IsP [6] wv (v) | 5=>IsP [7,4,3] wv (v) | 6=>IsP [3] wv (v) | 7=>IsP [8,4,3] wv (v) | 8=>RsP [[1,0,1,1,2,2,4],[6],[7,4,3],[3],[8,4,3]] wv (v) | 9=>GrP [[1,0,1,1,2,2,4],[6],[7,4,3],[3],[8,4,3]] wv (v) | 10=>RlP CV wv (v) | 11=>v= .slice (some ⟨bm,0,none⟩) 6 6 | 12=>v= .pointer (some ⟨bm,0 + 1 * 6,none⟩) | 13=>TmD [] (Qx[1]'dE) wv (v) | 14=>IsP [1,0,1,1,3,2,4] wv (v) | 15=>IsP [7,4,2] wv (v) | 16=>IsP [3] wv (v) | 17=>IsP [10,4,2] wv (v) | 18=>IsP [9,4,2] wv (v) | 19=>RsP [[1,0,1,1,3,2,4],[7,4,2],[3],[10,4,2],[9,4,2]] wv (v) | 20=>GrP [[1,0,1,1,3,2,4],[7,4,2],[3],[10,4,2],[9,4,2]] wv (v) | 21=>RlP CK wv (v) | 22=>v= .slice (some ⟨bm,0,none⟩) 6 6 | 23=>v= .pointer (some ⟨bm,0 + 2 * 6,none⟩) | 24=>TmD [] (Qx[2]'dE) wv (v) | 25=>IsP [1,0,1,1,3] wv (v) | 26=>IsP [8,4,2] wv (v) | 27=>IsP [3] wv (v) | 28=>IsP [11,4,2] wv (v) | 29=>RsP [[1,0,1,1,3],[8,4,2],[3],[11,4,2]] wv (v) | 30=>GrP [[1,0,1,1,3],[8,4,2],[3],[11,4,2]] wv (v) | 31=>RlP CJ wv (v) | 32=>v= .slice (some ⟨bm,0,none⟩) 6 6 | 33=>v= .pointer (some ⟨bm,0 + 3 * 6,none⟩) | 34=>TmD [] (Qx[3]'dE) wv (v) | 35=>IsP [1,0,1,1,3,2,4] wv (v) | 36=>IsP [8,4,2] wv (v) | 37=>IsP [3] wv (v) | 38=>IsP [12,4,2] wv (v) | 39=>IsP [7] wv (v) | 40=>RsP [[1,0,1,1,3,2,4],[8,4,2],[3],[12,4,2],[7]] wv (v) | 41=>GrP [[1,0,1,1,3,2,4],[8,4,2],[3],[12,4,2],[7]] wv (v) | 42=>RlP CX wv (v) | 43=>v= .slice (some ⟨bm,0,none⟩) 6 6 | 44=>v= .pointer (some ⟨bm,0 + 4 * 6,none⟩) | 45=>TmD [] (Qx[4]'dE) wv (v) | 46=>IsP [1,0,1,1,3,2,4] wv (v) | 47=>IsP [8,4,2] wv (v) | 48=>IsP [3] wv (v) | 49=>IsP [13] wv (v) | 50=>IsP [8,4,2] wv (v) | 51=>RsP [[1,0,1,1,3,2,4],[8,4,2],[3],[13],[8,4,2]] wv (v) | 52=>GrP [[1,0,1,1,3,2,4],[8,4,2],[3],[13],[8,4,2]] wv (v) | 53=>RlP CQ wv (v) | 54=>v= .slice (some ⟨bm,0,none⟩) 6 6 | 55=>v= .pointer (some ⟨bm,0 + 5 * 6,none⟩) | 56=>TmD [] (Qx[5]'dE) wv (v) | 57=>IsP [1,0,1,1,3,2,4,3,5] wv (v) | 58=>IsP [7,4,2] wv (v) | 59=>IsP [5] wv (v) | 60=>IsP [7] wv (v) | 61=>IsP [14] wv (v) | 62=>IsP [7] wv (v) | 63=>RsP [[1,0,1,1,3,2,4,3,5],[7,4,2],[5],[7],[14],[7]] wv (v) | 64=>GrP [[1,0,1,1,3,2,4,3,5],[7,4,2],[5],[7],[14],[7]] wv (v) | 65=>RlP smallR5 wv (v) | 66=>∃ b cs n,v= .slice (some ⟨b,0,none⟩) 6 6∧wc.heap.size≤b∧Blk wv b 54 cs∧Fz [] n TS wv (fun w=>RlCs w smallR cs.toList) | _=>True) kR kR ?_ ?_ ?_
 ·intro ix v wv wv2 h s1
  match ix,h with
  | 0,h=>exact h
  | 1,h=>exact h
  | 2,h=>
   exact TmD.tr0 h s1
  | 3,h=>
   exact IsP.tr0 h s1
  | 4,h=>
   exact IsP.tr0 h s1
  | 5,h=>
   exact IsP.tr0 h s1
  | 6,h=>
   exact IsP.tr0 h s1
  | 7,h=>
   exact IsP.tr0 h s1
  | 8,h=>
   exact RsP.tr0 h s1
  | 9,h=>
   exact GrP.tr0 h s1
  | 10,h=>
   exact RlP.tr0 h s1
  | 11,h=>exact h
  | 12,h=>exact h
  | 13,h=>
   exact TmD.tr0 h s1
  | 14,h=>
   exact IsP.tr0 h s1
  | 15,h=>
   exact IsP.tr0 h s1
  | 16,h=>
   exact IsP.tr0 h s1
  | 17,h=>
   exact IsP.tr0 h s1
  | 18,h=>
   exact IsP.tr0 h s1
  | 19,h=>
   exact RsP.tr0 h s1
  | 20,h=>
   exact GrP.tr0 h s1
  | 21,h=>
   exact RlP.tr0 h s1
  | 22,h=>exact h
  | 23,h=>exact h
  | 24,h=>
   exact TmD.tr0 h s1
  | 25,h=>
   exact IsP.tr0 h s1
  | 26,h=>
   exact IsP.tr0 h s1
  | 27,h=>
   exact IsP.tr0 h s1
  | 28,h=>
   exact IsP.tr0 h s1
  | 29,h=>
   exact RsP.tr0 h s1
  | 30,h=>
   exact GrP.tr0 h s1
  | 31,h=>
   exact RlP.tr0 h s1
  | 32,h=>exact h
  | 33,h=>exact h
  | 34,h=>
   exact TmD.tr0 h s1
  | 35,h=>
   exact IsP.tr0 h s1
  | 36,h=>
   exact IsP.tr0 h s1
  | 37,h=>
   exact IsP.tr0 h s1
  | 38,h=>
   exact IsP.tr0 h s1
  | 39,h=>
   exact IsP.tr0 h s1
  | 40,h=>
   exact RsP.tr0 h s1
  | 41,h=>
   exact GrP.tr0 h s1
  | 42,h=>
   exact RlP.tr0 h s1
  | 43,h=>exact h
  | 44,h=>exact h
  | 45,h=>
   exact TmD.tr0 h s1
  | 46,h=>
   exact IsP.tr0 h s1
  | 47,h=>
   exact IsP.tr0 h s1
  | 48,h=>
   exact IsP.tr0 h s1
  | 49,h=>
   exact IsP.tr0 h s1
  | 50,h=>
   exact IsP.tr0 h s1
  | 51,h=>
   exact RsP.tr0 h s1
  | 52,h=>
   exact GrP.tr0 h s1
  | 53,h=>
   exact RlP.tr0 h s1
  | 54,h=>exact h
  | 55,h=>exact h
  | 56,h=>
   exact TmD.tr0 h s1
  | 57,h=>
   exact IsP.tr0 h s1
  | 58,h=>
   exact IsP.tr0 h s1
  | 59,h=>
   exact IsP.tr0 h s1
  | 60,h=>
   exact IsP.tr0 h s1
  | 61,h=>
   exact IsP.tr0 h s1
  | 62,h=>
   exact IsP.tr0 h s1
  | 63,h=>
   exact RsP.tr0 h s1
  | 64,h=>
   exact GrP.tr0 h s1
  | 65,h=>
   exact RlP.tr0 h s1
  | 66,h=>
   obtain⟨b93,cr,nRl,e93,lo93,hb93,hRl⟩:=h;exact⟨b93,cr,nRl,e93,lo93,hb93.tr0 s1,hRl.tr0 s1⟩
  | _ + 67,h=>exact trivial
 ·intro ix o hix hoq gg wx s2 hd hdis
  match ix,hix,hoq with
  | 0,_,hoq=>
   cases sI hoq;exact oVq (yq (v:= .slice _ _ _) rfl) rfl
  | 1,_,hoq=>
   cases sI hoq;refine zx 27 _ (hd 0 (zj kR)) nu ?_;exact oVq (xk (i:=0) U42 kj rfl rfl dE rfl) rfl
  | 2,_,hoq=>
   cases sI hoq;replace hbm:=hbm.tr0 s2;replace hTm:=hTm.tr0 s2;obtain⟨S0,B0,c0,d0,hrg,hz0⟩:=hTm.at_ hbm (k:=0) dE;refine zx 28 _ (hd 1 (zj kR)) nu ?_;exact oVq (zY U44 rfl rfl hrg kj) ⟨_,_,_,_,_,rfl,hz0⟩
  | 3,_,hoq=>
   cases sI hoq;exact vY [1,0,1,1,2,2,4] rfl U66 qk qj
  | 4,_,hoq=>
   cases sI hoq;exact vY [6] rfl U66 qk qj
  | 5,_,hoq=>
   cases sI hoq;exact vY [7,4,3] rfl U66 qk qj
  | 6,_,hoq=>
   cases sI hoq;exact vY [3] rfl U66 qk qj
  | 7,_,hoq=>
   cases sI hoq;exact vY [8,4,3] rfl U66 qk qj
  | 8,_,hoq=>
   cases sI hoq;obtain⟨b30,e30,hin30⟩:=hd 3 (zj kR);obtain⟨b31,e31,hin31⟩:=hd 4 (zj kR);obtain⟨b32,e32,hin32⟩:=hd 5 (zj kR);obtain⟨b33,e33,hin33⟩:=hd 6 (zj kR);obtain⟨b34,e34,hin34⟩:=hd 7 (zj kR);refine zx 30 _ e30 nu (zx 31 _ e31 nu (zx 32 _ e32 nu (zx 33 _ e33 nu (zx 34 _ e34 nu ?_))));refine jk (fun ops Q K=>?_);refine qw (cs:=#[_,_,_,_,_]) [(0,.slice _ _ _),(1,.slice _ _ _),(2,.slice _ _ _),(3,.slice _ _ _),(4,.slice _ _ _)] rfl U71 y8 xQ dE dE kR rfl (fun b35 w1 hb35 s3 hr=>?_);exact K _ _ ⟨s3,⟨_,rfl,qY (rs:=[[1,0,1,1,2,2,4],[6],[7,4,3],[3],[8,4,3]]) hb35 (.cons ⟨_,_,rfl,(hin30.mono s3.bel),by decide,by decide⟩ (.cons ⟨_,_,rfl,(hin31.mono s3.bel),by decide,by decide⟩ (.cons ⟨_,_,rfl,(hin32.mono s3.bel),by decide,by decide⟩ (.cons ⟨_,_,rfl,(hin33.mono s3.bel),by decide,by decide⟩ (.cons ⟨_,_,rfl,(hin34.mono s3.bel),by decide,by decide⟩ .nil))))) dE⟩,fRq hr hb35.lt⟩
  | 9,_,hoq=>
   cases sI hoq;obtain⟨b35,e35,hrw35⟩:=hd 8 (zj kR);refine zx 35 _ e35 nu ?_;refine vQ W6 (o5 _ _ [[1,0,1,1,2,2,4],[6],[7,4,3],[3],[8,4,3]] wx hrw35) rfl (fun e' w2 hr=>?_);obtain⟨⟨G9,c9,rfl,hy9⟩,s4⟩:=hr;exact⟨_,rfl,sB s4,⟨G9,c9,_,rfl,hy9⟩,xX⟩
  | 10,_,hoq=>
   cases sI hoq;obtain⟨S29,c29,B29,m29,n29,e29,hz29⟩:=hd 2 (zj kR);obtain⟨G36,c36,n36,e36,hy36⟩:=hd 9 (zj kR);refine zx 29 _ e29 nu (zx 36 _ e36 nu ?_);exact oVq (r_bd4 (v0:= .string _) (v1:= .int _ _) (v2:= .agg _) (v3:= .agg _) (fun v0 v1 v2 v3=>#[v0,(qx v3 0),v1,.int .i64 0,(qx v2 0),(qx v2 1),(qx v2 2),(qx v2 3),(qx v2 4),(qx v2 5)]) rfl rfl rfl rfl kR) ⟨_,_,_,_,_,_,_,_,rfl,hy36,hz29⟩
  | 11,_,hoq=>
   cases sI hoq;exact oVq (yq (v:= .slice _ _ _) rfl) rfl
  | 12,_,hoq=>
   cases sI hoq;refine zx 38 _ (hd 11 (zj kR)) nu ?_;exact oVq (xk (i:=1) U42 kj rfl rfl dE rfl) rfl
  | 13,_,hoq=>
   cases sI hoq;replace hbm:=hbm.tr0 s2;replace hTm:=hTm.tr0 s2;obtain⟨S0,B0,c0,d0,hrg,hz0⟩:=hTm.at_ hbm (k:=1) dE;refine zx 39 _ (hd 12 (zj kR)) nu ?_;exact oVq (zY U44 rfl rfl hrg kj) ⟨_,_,_,_,_,rfl,hz0⟩
  | 14,_,hoq=>
   cases sI hoq;exact vY [1,0,1,1,3,2,4] rfl U66 qk qj
  | 15,_,hoq=>
   cases sI hoq;exact vY [7,4,2] rfl U66 qk qj
  | 16,_,hoq=>
   cases sI hoq;exact vY [3] rfl U66 qk qj
  | 17,_,hoq=>
   cases sI hoq;exact vY [10,4,2] rfl U66 qk qj
  | 18,_,hoq=>
   cases sI hoq;exact vY [9,4,2] rfl U66 qk qj
  | 19,_,hoq=>
   cases sI hoq;obtain⟨b41,e41,hin41⟩:=hd 14 (zj kR);obtain⟨b42,e42,hin42⟩:=hd 15 (zj kR);obtain⟨b43,e43,hin43⟩:=hd 16 (zj kR);obtain⟨b44,e44,hin44⟩:=hd 17 (zj kR);obtain⟨b45,e45,hin45⟩:=hd 18 (zj kR);refine zx 41 _ e41 nu (zx 42 _ e42 nu (zx 43 _ e43 nu (zx 44 _ e44 nu (zx 45 _ e45 nu ?_))));refine jk (fun ops Q K=>?_);refine qw (cs:=#[_,_,_,_,_]) [(0,.slice _ _ _),(1,.slice _ _ _),(2,.slice _ _ _),(3,.slice _ _ _),(4,.slice _ _ _)] rfl U71 y8 xQ dE dE kR rfl (fun b46 w2 hb46 s5 hr=>?_);exact K _ _ ⟨s5,⟨_,rfl,qY (rs:=[[1,0,1,1,3,2,4],[7,4,2],[3],[10,4,2],[9,4,2]]) hb46 (.cons ⟨_,_,rfl,(hin41.mono s5.bel),by decide,by decide⟩ (.cons ⟨_,_,rfl,(hin42.mono s5.bel),by decide,by decide⟩ (.cons ⟨_,_,rfl,(hin43.mono s5.bel),by decide,by decide⟩ (.cons ⟨_,_,rfl,(hin44.mono s5.bel),by decide,by decide⟩ (.cons ⟨_,_,rfl,(hin45.mono s5.bel),by decide,by decide⟩ .nil))))) dE⟩,fRq hr hb46.lt⟩
  | 20,_,hoq=>
   cases sI hoq;obtain⟨b46,e46,hrw46⟩:=hd 19 (zj kR);refine zx 46 _ e46 nu ?_;refine vQ W6 (o5 _ _ [[1,0,1,1,3,2,4],[7,4,2],[3],[10,4,2],[9,4,2]] wx hrw46) rfl (fun e' w2 hr=>?_);obtain⟨⟨G9,c9,rfl,hy9⟩,s6⟩:=hr;exact⟨_,rfl,sB s6,⟨G9,c9,_,rfl,hy9⟩,xX⟩
  | 21,_,hoq=>
   cases sI hoq;obtain⟨S40,c40,B40,m40,n40,e40,hz40⟩:=hd 13 (zj kR);obtain⟨G47,c47,n47,e47,hy47⟩:=hd 20 (zj kR);refine zx 40 _ e40 nu (zx 47 _ e47 nu ?_);exact oVq (F2 (v0:= .string _) (v1:= .int _ _) (v2:= .int _ _) (v3:= .agg _) (v4:= .agg _) (fun v0 v1 v2 v3 v4=>#[v0,(qx v4 0),v1,v2,(qx v3 0),(qx v3 1),(qx v3 2),(qx v3 3),(qx v3 4),(qx v3 5)]) rfl rfl rfl rfl rfl kR) ⟨_,_,_,_,_,_,_,_,rfl,hy47,hz40⟩
  | 22,_,hoq=>
   cases sI hoq;exact oVq (yq (v:= .slice _ _ _) rfl) rfl
  | 23,_,hoq=>
   cases sI hoq;refine zx 49 _ (hd 22 (zj kR)) nu ?_;exact oVq (xk (i:=2) U42 kj rfl rfl dE rfl) rfl
  | 24,_,hoq=>
   cases sI hoq;replace hbm:=hbm.tr0 s2;replace hTm:=hTm.tr0 s2;obtain⟨S0,B0,c0,d0,hrg,hz0⟩:=hTm.at_ hbm (k:=2) dE;refine zx 50 _ (hd 23 (zj kR)) nu ?_;exact oVq (zY U44 rfl rfl hrg kj) ⟨_,_,_,_,_,rfl,hz0⟩
  | 25,_,hoq=>
   cases sI hoq;exact vY [1,0,1,1,3] rfl U66 qk qj
  | 26,_,hoq=>
   cases sI hoq;exact vY [8,4,2] rfl U66 qk qj
  | 27,_,hoq=>
   cases sI hoq;exact vY [3] rfl U66 qk qj
  | 28,_,hoq=>
   cases sI hoq;exact vY [11,4,2] rfl U66 qk qj
  | 29,_,hoq=>
   cases sI hoq;obtain⟨b52,e52,hin52⟩:=hd 25 (zj kR);obtain⟨b53,e53,hin53⟩:=hd 26 (zj kR);obtain⟨b54,e54,hin54⟩:=hd 27 (zj kR);obtain⟨b55,e55,hin55⟩:=hd 28 (zj kR);refine zx 52 _ e52 nu (zx 53 _ e53 nu (zx 54 _ e54 nu (zx 55 _ e55 nu ?_)));refine jk (fun ops Q K=>?_);refine qw (cs:=#[_,_,_,_]) [(0,.slice _ _ _),(1,.slice _ _ _),(2,.slice _ _ _),(3,.slice _ _ _)] rfl U71 y8 xQ dE dE kR rfl (fun b56 w3 hb56 s7 hr=>?_);exact K _ _ ⟨s7,⟨_,rfl,qY (rs:=[[1,0,1,1,3],[8,4,2],[3],[11,4,2]]) hb56 (.cons ⟨_,_,rfl,(hin52.mono s7.bel),by decide,by decide⟩ (.cons ⟨_,_,rfl,(hin53.mono s7.bel),by decide,by decide⟩ (.cons ⟨_,_,rfl,(hin54.mono s7.bel),by decide,by decide⟩ (.cons ⟨_,_,rfl,(hin55.mono s7.bel),by decide,by decide⟩ .nil)))) dE⟩,fRq hr hb56.lt⟩
  | 30,_,hoq=>
   cases sI hoq;obtain⟨b56,e56,hrw56⟩:=hd 29 (zj kR);refine zx 56 _ e56 nu ?_;refine vQ W6 (o5 _ _ [[1,0,1,1,3],[8,4,2],[3],[11,4,2]] wx hrw56) rfl (fun e' w2 hr=>?_);obtain⟨⟨G9,c9,rfl,hy9⟩,s8⟩:=hr;exact⟨_,rfl,sB s8,⟨G9,c9,_,rfl,hy9⟩,xX⟩
  | 31,_,hoq=>
   cases sI hoq;obtain⟨S51,c51,B51,m51,n51,e51,hz51⟩:=hd 24 (zj kR);obtain⟨G57,c57,n57,e57,hy57⟩:=hd 30 (zj kR);refine zx 51 _ e51 nu (zx 57 _ e57 nu ?_);exact oVq (r_bd4 (v0:= .string _) (v1:= .int _ _) (v2:= .agg _) (v3:= .agg _) (fun v0 v1 v2 v3=>#[v0,(qx v3 0),v1,.int .i64 0,(qx v2 0),(qx v2 1),(qx v2 2),(qx v2 3),(qx v2 4),(qx v2 5)]) rfl rfl rfl rfl kR) ⟨_,_,_,_,_,_,_,_,rfl,hy57,hz51⟩
  | 32,_,hoq=>
   cases sI hoq;exact oVq (yq (v:= .slice _ _ _) rfl) rfl
  | 33,_,hoq=>
   cases sI hoq;refine zx 59 _ (hd 32 (zj kR)) nu ?_;exact oVq (xk (i:=3) U42 kj rfl rfl dE rfl) rfl
  | 34,_,hoq=>
   cases sI hoq;replace hbm:=hbm.tr0 s2;replace hTm:=hTm.tr0 s2;obtain⟨S0,B0,c0,d0,hrg,hz0⟩:=hTm.at_ hbm (k:=3) dE;refine zx 60 _ (hd 33 (zj kR)) nu ?_;exact oVq (zY U44 rfl rfl hrg kj) ⟨_,_,_,_,_,rfl,hz0⟩
  | 35,_,hoq=>
   cases sI hoq;exact vY [1,0,1,1,3,2,4] rfl U66 qk qj
  | 36,_,hoq=>
   cases sI hoq;exact vY [8,4,2] rfl U66 qk qj
  | 37,_,hoq=>
   cases sI hoq;exact vY [3] rfl U66 qk qj
  | 38,_,hoq=>
   cases sI hoq;exact vY [12,4,2] rfl U66 qk qj
  | 39,_,hoq=>
   cases sI hoq;exact vY [7] rfl U66 qk qj
  | 40,_,hoq=>
   cases sI hoq;obtain⟨b62,e62,hin62⟩:=hd 35 (zj kR);obtain⟨b63,e63,hin63⟩:=hd 36 (zj kR);obtain⟨b64,e64,hin64⟩:=hd 37 (zj kR);obtain⟨b65,e65,hin65⟩:=hd 38 (zj kR);obtain⟨b66,e66,hin66⟩:=hd 39 (zj kR);refine zx 62 _ e62 nu (zx 63 _ e63 nu (zx 64 _ e64 nu (zx 65 _ e65 nu (zx 66 _ e66 nu ?_))));refine jk (fun ops Q K=>?_);refine qw (cs:=#[_,_,_,_,_]) [(0,.slice _ _ _),(1,.slice _ _ _),(2,.slice _ _ _),(3,.slice _ _ _),(4,.slice _ _ _)] rfl U71 y8 xQ dE dE kR rfl (fun b67 w4 hb67 s9 hr=>?_);exact K _ _ ⟨s9,⟨_,rfl,qY (rs:=[[1,0,1,1,3,2,4],[8,4,2],[3],[12,4,2],[7]]) hb67 (.cons ⟨_,_,rfl,(hin62.mono s9.bel),by decide,by decide⟩ (.cons ⟨_,_,rfl,(hin63.mono s9.bel),by decide,by decide⟩ (.cons ⟨_,_,rfl,(hin64.mono s9.bel),by decide,by decide⟩ (.cons ⟨_,_,rfl,(hin65.mono s9.bel),by decide,by decide⟩ (.cons ⟨_,_,rfl,(hin66.mono s9.bel),by decide,by decide⟩ .nil))))) dE⟩,fRq hr hb67.lt⟩
  | 41,_,hoq=>
   cases sI hoq;obtain⟨b67,e67,hrw67⟩:=hd 40 (zj kR);refine zx 67 _ e67 nu ?_;refine vQ W6 (o5 _ _ [[1,0,1,1,3,2,4],[8,4,2],[3],[12,4,2],[7]] wx hrw67) rfl (fun e' w2 hr=>?_);obtain⟨⟨G9,c9,rfl,hy9⟩,s10⟩:=hr;exact⟨_,rfl,sB s10,⟨G9,c9,_,rfl,hy9⟩,xX⟩
  | 42,_,hoq=>
   cases sI hoq;obtain⟨S61,c61,B61,m61,n61,e61,hz61⟩:=hd 34 (zj kR);obtain⟨G68,c68,n68,e68,hy68⟩:=hd 41 (zj kR);refine zx 61 _ e61 nu (zx 68 _ e68 nu ?_);exact oVq (F2 (v0:= .string _) (v1:= .int _ _) (v2:= .int _ _) (v3:= .agg _) (v4:= .agg _) (fun v0 v1 v2 v3 v4=>#[v0,(qx v4 0),v1,v2,(qx v3 0),(qx v3 1),(qx v3 2),(qx v3 3),(qx v3 4),(qx v3 5)]) rfl rfl rfl rfl rfl kR) ⟨_,_,_,_,_,_,_,_,rfl,hy68,hz61⟩
  | 43,_,hoq=>
   cases sI hoq;exact oVq (yq (v:= .slice _ _ _) rfl) rfl
  | 44,_,hoq=>
   cases sI hoq;refine zx 70 _ (hd 43 (zj kR)) nu ?_;exact oVq (xk (i:=4) U42 kj rfl rfl dE rfl) rfl
  | 45,_,hoq=>
   cases sI hoq;replace hbm:=hbm.tr0 s2;replace hTm:=hTm.tr0 s2;obtain⟨S0,B0,c0,d0,hrg,hz0⟩:=hTm.at_ hbm (k:=4) dE;refine zx 71 _ (hd 44 (zj kR)) nu ?_;exact oVq (zY U44 rfl rfl hrg kj) ⟨_,_,_,_,_,rfl,hz0⟩
  | 46,_,hoq=>
   cases sI hoq;exact vY [1,0,1,1,3,2,4] rfl U66 qk qj
  | 47,_,hoq=>
   cases sI hoq;exact vY [8,4,2] rfl U66 qk qj
  | 48,_,hoq=>
   cases sI hoq;exact vY [3] rfl U66 qk qj
  | 49,_,hoq=>
   cases sI hoq;exact vY [13] rfl U66 qk qj
  | 50,_,hoq=>
   cases sI hoq;exact vY [8,4,2] rfl U66 qk qj
  | 51,_,hoq=>
   cases sI hoq;obtain⟨b73,e73,hin73⟩:=hd 46 (zj kR);obtain⟨b74,e74,hin74⟩:=hd 47 (zj kR);obtain⟨b75,e75,hin75⟩:=hd 48 (zj kR);obtain⟨b76,e76,hin76⟩:=hd 49 (zj kR);obtain⟨b77,e77,hin77⟩:=hd 50 (zj kR);refine zx 73 _ e73 nu (zx 74 _ e74 nu (zx 75 _ e75 nu (zx 76 _ e76 nu (zx 77 _ e77 nu ?_))));refine jk (fun ops Q K=>?_);refine qw (cs:=#[_,_,_,_,_]) [(0,.slice _ _ _),(1,.slice _ _ _),(2,.slice _ _ _),(3,.slice _ _ _),(4,.slice _ _ _)] rfl U71 y8 xQ dE dE kR rfl (fun b78 w5 hb78 s11 hr=>?_);exact K _ _ ⟨s11,⟨_,rfl,qY (rs:=[[1,0,1,1,3,2,4],[8,4,2],[3],[13],[8,4,2]]) hb78 (.cons ⟨_,_,rfl,(hin73.mono s11.bel),by decide,by decide⟩ (.cons ⟨_,_,rfl,(hin74.mono s11.bel),by decide,by decide⟩ (.cons ⟨_,_,rfl,(hin75.mono s11.bel),by decide,by decide⟩ (.cons ⟨_,_,rfl,(hin76.mono s11.bel),by decide,by decide⟩ (.cons ⟨_,_,rfl,(hin77.mono s11.bel),by decide,by decide⟩ .nil))))) dE⟩,fRq hr hb78.lt⟩
  | 52,_,hoq=>
   cases sI hoq;obtain⟨b78,e78,hrw78⟩:=hd 51 (zj kR);refine zx 78 _ e78 nu ?_;refine vQ W6 (o5 _ _ [[1,0,1,1,3,2,4],[8,4,2],[3],[13],[8,4,2]] wx hrw78) rfl (fun e' w2 hr=>?_);obtain⟨⟨G9,c9,rfl,hy9⟩,s12⟩:=hr;exact⟨_,rfl,sB s12,⟨G9,c9,_,rfl,hy9⟩,xX⟩
  | 53,_,hoq=>
   cases sI hoq;obtain⟨S72,c72,B72,m72,n72,e72,hz72⟩:=hd 45 (zj kR);obtain⟨G79,c79,n79,e79,hy79⟩:=hd 52 (zj kR);refine zx 72 _ e72 nu (zx 79 _ e79 nu ?_);exact oVq (F2 (v0:= .string _) (v1:= .int _ _) (v2:= .int _ _) (v3:= .agg _) (v4:= .agg _) (fun v0 v1 v2 v3 v4=>#[v0,(qx v4 0),v1,v2,(qx v3 0),(qx v3 1),(qx v3 2),(qx v3 3),(qx v3 4),(qx v3 5)]) rfl rfl rfl rfl rfl kR) ⟨_,_,_,_,_,_,_,_,rfl,hy79,hz72⟩
  | 54,_,hoq=>
   cases sI hoq;exact oVq (yq (v:= .slice _ _ _) rfl) rfl
  | 55,_,hoq=>
   cases sI hoq;refine zx 81 _ (hd 54 (zj kR)) nu ?_;exact oVq (xk (i:=5) U42 kj rfl rfl dE rfl) rfl
  | 56,_,hoq=>
   cases sI hoq;replace hbm:=hbm.tr0 s2;replace hTm:=hTm.tr0 s2;obtain⟨S0,B0,c0,d0,hrg,hz0⟩:=hTm.at_ hbm (k:=5) dE;refine zx 82 _ (hd 55 (zj kR)) nu ?_;exact oVq (zY U44 rfl rfl hrg kj) ⟨_,_,_,_,_,rfl,hz0⟩
  | 57,_,hoq=>
   cases sI hoq;exact vY [1,0,1,1,3,2,4,3,5] rfl U66 qk qj
  | 58,_,hoq=>
   cases sI hoq;exact vY [7,4,2] rfl U66 qk qj
  | 59,_,hoq=>
   cases sI hoq;exact vY [5] rfl U66 qk qj
  | 60,_,hoq=>
   cases sI hoq;exact vY [7] rfl U66 qk qj
  | 61,_,hoq=>
   cases sI hoq;exact vY [14] rfl U66 qk qj
  | 62,_,hoq=>
   cases sI hoq;exact vY [7] rfl U66 qk qj
  | 63,_,hoq=>
   cases sI hoq;obtain⟨b84,e84,hin84⟩:=hd 57 (zj kR);obtain⟨b85,e85,hin85⟩:=hd 58 (zj kR);obtain⟨b86,e86,hin86⟩:=hd 59 (zj kR);obtain⟨b87,e87,hin87⟩:=hd 60 (zj kR);obtain⟨b88,e88,hin88⟩:=hd 61 (zj kR);obtain⟨b89,e89,hin89⟩:=hd 62 (zj kR);refine zx 84 _ e84 nu (zx 85 _ e85 nu (zx 86 _ e86 nu (zx 87 _ e87 nu (zx 88 _ e88 nu (zx 89 _ e89 nu ?_)))));refine jk (fun ops Q K=>?_);refine qw (cs:=#[_,_,_,_,_,_]) [(0,.slice _ _ _),(1,.slice _ _ _),(2,.slice _ _ _),(3,.slice _ _ _),(4,.slice _ _ _),(5,.slice _ _ _)] rfl U71 y8 xQ dE dE kR rfl (fun b90 w6 hb90 s13 hr=>?_);exact K _ _ ⟨s13,⟨_,rfl,qY (rs:=[[1,0,1,1,3,2,4,3,5],[7,4,2],[5],[7],[14],[7]]) hb90 (.cons ⟨_,_,rfl,(hin84.mono s13.bel),by decide,by decide⟩ (.cons ⟨_,_,rfl,(hin85.mono s13.bel),by decide,by decide⟩ (.cons ⟨_,_,rfl,(hin86.mono s13.bel),by decide,by decide⟩ (.cons ⟨_,_,rfl,(hin87.mono s13.bel),by decide,by decide⟩ (.cons ⟨_,_,rfl,(hin88.mono s13.bel),by decide,by decide⟩ (.cons ⟨_,_,rfl,(hin89.mono s13.bel),by decide,by decide⟩ .nil)))))) dE⟩,fRq hr hb90.lt⟩
  | 64,_,hoq=>
   cases sI hoq;obtain⟨b90,e90,hrw90⟩:=hd 63 (zj kR);refine zx 90 _ e90 nu ?_;refine vQ W6 (o5 _ _ [[1,0,1,1,3,2,4,3,5],[7,4,2],[5],[7],[14],[7]] wx hrw90) rfl (fun e' w2 hr=>?_);obtain⟨⟨G9,c9,rfl,hy9⟩,s14⟩:=hr;exact⟨_,rfl,sB s14,⟨G9,c9,_,rfl,hy9⟩,xX⟩
  | 65,_,hoq=>
   cases sI hoq;obtain⟨S83,c83,B83,m83,n83,e83,hz83⟩:=hd 56 (zj kR);obtain⟨G91,c91,n91,e91,hy91⟩:=hd 64 (zj kR);refine zx 83 _ e83 nu (zx 91 _ e91 nu ?_);exact oVq (F2 (v0:= .string _) (v1:= .int _ _) (v2:= .int _ _) (v3:= .agg _) (v4:= .agg _) (fun v0 v1 v2 v3 v4=>#[v0,(qx v4 0),v1,v2,(qx v3 0),(qx v3 1),(qx v3 2),(qx v3 3),(qx v3 4),(qx v3 5)]) rfl rfl rfl rfl rfl kR) ⟨_,_,_,_,_,_,_,_,rfl,hy91,hz83⟩
  | 66,_,hoq=>
   cases sI hoq;have hs0:=s2;obtain⟨G37,c37,n37,S37,d37,B37,f37,m37,e37,hy37,hz37⟩:=hd 10 (zj kR);obtain⟨G48,c48,n48,S48,d48,B48,f48,m48,e48,hy48,hz48⟩:=hd 21 (zj kR);obtain⟨G58,c58,n58,S58,d58,B58,f58,m58,e58,hy58,hz58⟩:=hd 31 (zj kR);obtain⟨G69,c69,n69,S69,d69,B69,f69,m69,e69,hy69,hz69⟩:=hd 42 (zj kR);obtain⟨G80,c80,n80,S80,d80,B80,f80,m80,e80,hy80,hz80⟩:=hd 53 (zj kR);obtain⟨G92,c92,n92,S92,d92,B92,f92,m92,e92,hy92,hz92⟩:=hd 65 (zj kR);refine zx 37 _ e37 nu (zx 48 _ e48 nu (zx 58 _ e58 nu (zx 69 _ e69 nu (zx 80 _ e80 nu (zx 92 _ e92 nu ?_)))));refine jk (fun ops Q K=>?_);refine qw (cs:=#[_,_,_,_,_,_,_,_,_,_,_,_,_,_,_,_,_,_,_,_,_,_,_,_,_,_,_,_,_,_,_,_,_,_,_,_,_,_,_,_,_,_,_,_,_,_,_,_,_,_,_,_,_,_,_,_,_,_,_,_]) [(0,.agg _),(1,.agg _),(2,.agg _),(3,.agg _),(4,.agg _),(5,.agg _)] rfl U26 sz54_DSmA ze54_DSmA dE dE kR rfl (fun b93 w7 hb93 s15 hr=>?_);exact K _ _ ⟨s15,⟨_,_,_,rfl,nLT hs0.size hr,hb93,(Fz.rcons (r:=CV) (hy37.tr0 s15) (hz37.tr0 s15) (Fz.rcons (r:=CK) (hy48.tr0 s15) (hz48.tr0 s15) (Fz.rcons (r:=CJ) (hy58.tr0 s15) (hz58.tr0 s15) (Fz.rcons (r:=CX) (hy69.tr0 s15) (hz69.tr0 s15) (Fz.rcons (r:=CQ) (hy80.tr0 s15) (hz80.tr0 s15) (Fz.rcons (r:=smallR5) (hy92.tr0 s15) (hz92.tr0 s15) (Fz.triv [] _ TS (fun _=>RlCs.nil))))))))⟩,fRq hr hb93.lt⟩
  | _ + 67,hix,_=>exact absurd hix oM
 intro gg w8 s16 hR hdis;replace hZ:=hZ.trans (s16.weak (by simp));obtain⟨b93,cr,nRl,e93,lo93,hb93,hRl⟩:=hR 66 dE;have:=nLL z5 lo93;refine xK 93 _ e93 nu (zn1 ?_);replace hb5:=hb5.tr0 s16;refine xz (v:= .slice _ _ _) hb5 rfl rfl sz26_DSmA (by first | decide | simp) rfl rfl (fun w9 hq s17=>?_);replace hZ:=hZ.trans (s17.weak (by simp));replace hRl:=hRl.sp1 s17 hb5 (.inl dE);replace hb5:=hq;refine zJ ?_;refine e_R ⟨agA,?_⟩;exact⟨hZ,_,_,_,lo93,hb93.u,hRl,hb5⟩
end Go.Proofs.YtbcpgfnfiekbiaaGreatDoor
namespace Go.Proofs.YtbcpgfnfiekbiaaGreatDoor
open Go.RowKit
theorem QQ:zK Tryz.prog 22=true:=by kernel_rfl
theorem fn23:zK Tryz.prog 23=true:=by kernel_rfl
variable {w wc:World} {b0 b1 b2 b3 b4 b5 b23 b93 base capt c12 c15:Nat} {At A12 A15:Option Addr} {cr:Array Value}
set_option maxHeartbeats 1000000 in
theorem small_r9 (hI:SmSt smallT smallF smallR b0 b1 b2 b3 b4 b5 b23 b93 base capt c12 c15 At A12 A15 cr 0 N3 w wc) (f:Fr) (Q:Exit→Act→World→Prop) (k7:f 7= .func (.func 22) #[] #[.pointer (some ⟨b5,0,none⟩)]) (hPQ:PQ Q):WC Tryz.prog (sl (sr (sr (sr (sr (sr (sr (sr (sr (sr (ob Tryz.f5.body))))))))))) (QRS 256 [96,97,98,99,100,101] f (fun _ w'=>SmSt smallT smallF smallR b0 b1 b2 b3 b4 b5 b23 b93 base capt c12 c15 At A12 A15 cr 1 K6 w w') Q) 256 f wc:=by
 refine zZ 7 _ k7 nu (zn2 ?_);refine zV fn23 (quN_d ⟨#[97,108,108]⟩ ⟨#[105,102]⟩ _) rfl (fun e' w1 hr=>?_);obtain⟨⟨_,rfl,S97,c97,B97,m97,n97,rfl,hz97⟩,s1⟩:=hr;replace s1:=sB s1;refine⟨_,rfl,?_⟩;refine qw (cs:=#[_,_,_]) [(0,.int _ _),(1,.int _ _),(2,.int _ _)] rfl U66 qk qj dE dE kR rfl (fun b98 w2 hb98 s2 hr=>?_);refine qw (cs:=#[_]) [(0,.int _ _)] rfl U66 qk qj dE dE kR rfl (fun b99 w3 hb99 s3 hr=>?_);refine qw (cs:=#[_,_]) [(0,.slice _ _ _),(1,.slice _ _ _)] rfl U71 y8 xQ dE dE kR rfl (fun b100 w4 hb100 s4 hr=>?_);replace hI:=hI.tr0 (s1.trans (s2.trans (s3.trans s4)));obtain⟨hC,A,cap,xs,nL,hb5,ho,hL⟩:=hI;replace hz97:=hz97.tr0 (s2.trans (s3.trans s4));refine y6 rfl QQ (uQ ⟨#[101,118,101,114,121]⟩ 1 (quN ⟨#[97,108,108]⟩ ⟨#[105,102]⟩) _ _ _ _ _ _ [[10,4,1],[4]] _ _ base _ _ _ _ _ _ _ _ _ N3 _ dE (qY (rs:=[[10,4,1],[4]]) hb100 (.cons ⟨_,_,rfl,(qy [10,4,1] hb98.u dE),by decide,by decide⟩ (.cons ⟨_,_,rfl,(qy [4] hb99.u dE),by decide,by decide⟩ .nil)) dE) hz97 hb5 ho hL hC.bs hC.l.1 dE) rfl rfl (fun e' w5 hr=>?_);obtain⟨rfl,A2,cap2,xs2,hb5n,hon,hL2,hS,hA2⟩:=hr;replace hC:=hC.add hS hb5 ho;refine⟨_,rfl,?_⟩;refine zJ ?_;refine e_R ⟨agA,?_⟩;exact⟨hC,_,_,_,_,hb5n,hon,hL2⟩
set_option maxHeartbeats 1000000 in
theorem small_r10 (hI:SmSt smallT smallF smallR b0 b1 b2 b3 b4 b5 b23 b93 base capt c12 c15 At A12 A15 cr 1 K6 w wc) (f:Fr) (Q:Exit→Act→World→Prop) (k7:f 7= .func (.func 22) #[] #[.pointer (some ⟨b5,0,none⟩)]) (hPQ:PQ Q):WC Tryz.prog (sl (sr (sr (sr (sr (sr (sr (sr (sr (sr (sr (ob Tryz.f5.body)))))))))))) (QRS 256 [102,103,104,105,106,107] f (fun _ w'=>SmSt smallT smallF smallR b0 b1 b2 b3 b4 b5 b23 b93 base capt c12 c15 At A12 A15 cr 2 K5 w w') Q) 256 f wc:=by
 refine zZ 7 _ k7 nu (zn2 ?_);refine zV fn23 (quN_d ⟨#[115,111,109,101]⟩ ⟨#[97,110,100]⟩ _) rfl (fun e' w1 hr=>?_);obtain⟨⟨_,rfl,S103,c103,B103,m103,n103,rfl,hz103⟩,s1⟩:=hr;replace s1:=sB s1;refine⟨_,rfl,?_⟩;refine qw (cs:=#[_,_,_]) [(0,.int _ _),(1,.int _ _),(2,.int _ _)] rfl U66 qk qj dE dE kR rfl (fun b104 w2 hb104 s2 hr=>?_);refine qw (cs:=#[_]) [(0,.int _ _)] rfl U66 qk qj dE dE kR rfl (fun b105 w3 hb105 s3 hr=>?_);refine qw (cs:=#[_,_]) [(0,.slice _ _ _),(1,.slice _ _ _)] rfl U71 y8 xQ dE dE kR rfl (fun b106 w4 hb106 s4 hr=>?_);replace hI:=hI.tr0 (s1.trans (s2.trans (s3.trans s4)));obtain⟨hC,A,cap,xs,nL,hb5,ho,hL⟩:=hI;replace hz103:=hz103.tr0 (s2.trans (s3.trans s4));refine y6 rfl QQ (uQ ⟨#[97]⟩ 0 (quN ⟨#[115,111,109,101]⟩ ⟨#[97,110,100]⟩) _ _ _ _ _ _ [[10,4,1],[4]] _ _ base _ _ _ _ _ _ _ _ _ K6 _ dE (qY (rs:=[[10,4,1],[4]]) hb106 (.cons ⟨_,_,rfl,(qy [10,4,1] hb104.u dE),by decide,by decide⟩ (.cons ⟨_,_,rfl,(qy [4] hb105.u dE),by decide,by decide⟩ .nil)) dE) hz103 hb5 ho hL hC.bs hC.l.1 dE) rfl rfl (fun e' w5 hr=>?_);obtain⟨rfl,A2,cap2,xs2,hb5n,hon,hL2,hS,hA2⟩:=hr;replace hC:=hC.add hS hb5 ho;refine⟨_,rfl,?_⟩;refine zJ ?_;refine e_R ⟨agA,?_⟩;exact⟨hC,_,_,_,_,hb5n,hon,hL2⟩
set_option maxHeartbeats 1000000 in
theorem small_r11 (hI:SmSt smallT smallF smallR b0 b1 b2 b3 b4 b5 b23 b93 base capt c12 c15 At A12 A15 cr 2 K5 w wc) (f:Fr) (Q:Exit→Act→World→Prop) (k7:f 7= .func (.func 22) #[] #[.pointer (some ⟨b5,0,none⟩)]) (hPQ:PQ Q):WC Tryz.prog (sl (sr (sr (sr (sr (sr (sr (sr (sr (sr (sr (sr (ob Tryz.f5.body))))))))))))) (QRS 256 [108,109,110,111,112] f (fun _ w'=>SmSt smallT smallF smallR b0 b1 b2 b3 b4 b5 b23 b93 base capt c12 c15 At A12 A15 cr 3 K4 w w') Q) 256 f wc:=by
 refine zZ 7 _ k7 nu (zn2 ?_);refine zV fn23 (quY_d ⟨#[115,111,109,101]⟩ ⟨#[97,110,100]⟩ _) rfl (fun e' w1 hr=>?_);obtain⟨⟨_,rfl,S109,c109,B109,m109,n109,rfl,hz109⟩,s1⟩:=hr;replace s1:=sB s1;refine⟨_,rfl,?_⟩;refine qw (cs:=#[_]) [(0,.int _ _)] rfl U66 qk qj dE dE kR rfl (fun b110 w2 hb110 s2 hr=>?_);refine qw (cs:=#[_]) [(0,.slice _ _ _)] rfl U71 y8 xQ dE dE kR rfl (fun b111 w3 hb111 s3 hr=>?_);replace hI:=hI.tr0 (s1.trans (s2.trans s3));obtain⟨hC,A,cap,xs,nL,hb5,ho,hL⟩:=hI;replace hz109:=hz109.tr0 (s2.trans s3);refine y6 rfl QQ (uQ ⟨#[110,111]⟩ 2 (quY ⟨#[115,111,109,101]⟩ ⟨#[97,110,100]⟩) _ _ _ _ _ _ [[10]] _ _ base _ _ _ _ _ _ _ _ _ K5 _ dE (qY (rs:=[[10]]) hb111 (.cons ⟨_,_,rfl,(qy [10] hb110.u dE),by decide,by decide⟩ .nil) dE) hz109 hb5 ho hL hC.bs hC.l.1 dE) rfl rfl (fun e' w4 hr=>?_);obtain⟨rfl,A2,cap2,xs2,hb5n,hon,hL2,hS,hA2⟩:=hr;replace hC:=hC.add hS hb5 ho;refine⟨_,rfl,?_⟩;refine zJ ?_;refine e_R ⟨agA,?_⟩;exact⟨hC,_,_,_,_,hb5n,hon,hL2⟩
set_option maxHeartbeats 1000000 in
theorem small_r12 (hI:SmSt smallT smallF smallR b0 b1 b2 b3 b4 b5 b23 b93 base capt c12 c15 At A12 A15 cr 3 K4 w wc) (f:Fr) (Q:Exit→Act→World→Prop) (k7:f 7= .func (.func 22) #[] #[.pointer (some ⟨b5,0,none⟩)]) (k3:f 3= .pointer (some ⟨b3,0,none⟩)) (hPQ:PQ Q):WC Tryz.prog (sl (sr (sr (sr (sr (sr (sr (sr (sr (sr (sr (sr (sr (ob Tryz.f5.body)))))))))))))) (QRS 256 [113,114,115,116,117,118,119] f (fun _ w'=>SmSt smallT smallF smallR b0 b1 b2 b3 b4 b5 b23 b93 base capt c12 c15 At A12 A15 cr 4 K3 w w') Q) 256 f wc:=by
 have hb3:=hI.1.k3;have hP12:=hI.1.p12;refine zZ 7 _ k7 nu (zZ 3 _ k3 nu (zn3 ?_));refine zV QZ (uZ [] ⟨#[100,111,103]⟩ tyET _ _ _ _ hP12) rfl (fun e' w1 hr=>?_);obtain⟨⟨_,rfl,S115,c115,B115,m115,n115,rfl,hz115⟩,s1⟩:=hr;replace s1:=sB s1;refine⟨_,rfl,?_⟩;refine qw (cs:=#[_,_,_]) [(0,.int _ _),(1,.int _ _),(2,.int _ _)] rfl U66 qk qj dE dE kR rfl (fun b116 w2 hb116 s2 hr=>?_);refine qw (cs:=#[_]) [(0,.int _ _)] rfl U66 qk qj dE dE kR rfl (fun b117 w3 hb117 s3 hr=>?_);refine qw (cs:=#[_,_]) [(0,.slice _ _ _),(1,.slice _ _ _)] rfl U71 y8 xQ dE dE kR rfl (fun b118 w4 hb118 s4 hr=>?_);replace hI:=hI.tr0 (s1.trans (s2.trans (s3.trans s4)));obtain⟨hC,A,cap,xs,nL,hb5,ho,hL⟩:=hI;replace hz115:=hz115.tr0 (s2.trans (s3.trans s4));refine y6 rfl QQ (uQ ⟨#[100,111,103]⟩ 0 (Tv.con ⟨#[100,111,103]⟩ tyET) _ _ _ _ _ _ [[9,4,1],[4]] _ _ base _ _ _ _ _ _ _ _ _ K4 _ dE (qY (rs:=[[9,4,1],[4]]) hb118 (.cons ⟨_,_,rfl,(qy [9,4,1] hb116.u dE),by decide,by decide⟩ (.cons ⟨_,_,rfl,(qy [4] hb117.u dE),by decide,by decide⟩ .nil)) dE) hz115 hb5 ho hL hC.bs hC.l.1 dE) rfl rfl (fun e' w5 hr=>?_);obtain⟨rfl,A2,cap2,xs2,hb5n,hon,hL2,hS,hA2⟩:=hr;replace hC:=hC.add hS hb5 ho;refine⟨_,rfl,?_⟩;refine zJ ?_;refine e_R ⟨agA,?_⟩;exact⟨hC,_,_,_,_,hb5n,hon,hL2⟩
set_option maxHeartbeats 1000000 in
theorem small_r13 (hI:SmSt smallT smallF smallR b0 b1 b2 b3 b4 b5 b23 b93 base capt c12 c15 At A12 A15 cr 4 K3 w wc) (f:Fr) (Q:Exit→Act→World→Prop) (k7:f 7= .func (.func 22) #[] #[.pointer (some ⟨b5,0,none⟩)]) (k3:f 3= .pointer (some ⟨b3,0,none⟩)) (hPQ:PQ Q):WC Tryz.prog (sl (sr (sr (sr (sr (sr (sr (sr (sr (sr (sr (sr (sr (sr (ob Tryz.f5.body))))))))))))))) (QRS 256 [120,121,122,123,124,125,126] f (fun _ w'=>SmSt smallT smallF smallR b0 b1 b2 b3 b4 b5 b23 b93 base capt c12 c15 At A12 A15 cr 5 K1 w w') Q) 256 f wc:=by
 have hb3:=hI.1.k3;have hP12:=hI.1.p12;refine zZ 7 _ k7 nu (zZ 3 _ k3 nu (zn3 ?_));refine zV QZ (uZ [] ⟨#[100,111,103]⟩ tyET _ _ _ _ hP12) rfl (fun e' w1 hr=>?_);obtain⟨⟨_,rfl,S122,c122,B122,m122,n122,rfl,hz122⟩,s1⟩:=hr;replace s1:=sB s1;refine⟨_,rfl,?_⟩;refine qw (cs:=#[_,_,_]) [(0,.int _ _),(1,.int _ _),(2,.int _ _)] rfl U66 qk qj dE dE kR rfl (fun b123 w2 hb123 s2 hr=>?_);refine qw (cs:=#[_]) [(0,.int _ _)] rfl U66 qk qj dE dE kR rfl (fun b124 w3 hb124 s3 hr=>?_);refine qw (cs:=#[_,_]) [(0,.slice _ _ _),(1,.slice _ _ _)] rfl U71 y8 xQ dE dE kR rfl (fun b125 w4 hb125 s4 hr=>?_);replace hI:=hI.tr0 (s1.trans (s2.trans (s3.trans s4)));obtain⟨hC,A,cap,xs,nL,hb5,ho,hL⟩:=hI;replace hz122:=hz122.tr0 (s2.trans (s3.trans s4));refine y6 rfl QQ (uQ ⟨#[100,111,103,115]⟩ 0 (Tv.con ⟨#[100,111,103]⟩ tyET) _ _ _ _ _ _ [[9,4,1],[5]] _ _ base _ _ _ _ _ _ _ _ _ K3 _ dE (qY (rs:=[[9,4,1],[5]]) hb125 (.cons ⟨_,_,rfl,(qy [9,4,1] hb123.u dE),by decide,by decide⟩ (.cons ⟨_,_,rfl,(qy [5] hb124.u dE),by decide,by decide⟩ .nil)) dE) hz122 hb5 ho hL hC.bs hC.l.1 dE) rfl rfl (fun e' w5 hr=>?_);obtain⟨rfl,A2,cap2,xs2,hb5n,hon,hL2,hS,hA2⟩:=hr;replace hC:=hC.add hS hb5 ho;refine⟨_,rfl,?_⟩;refine zJ ?_;refine e_R ⟨agA,?_⟩;exact⟨hC,_,_,_,_,hb5n,hon,hL2⟩
set_option maxHeartbeats 1000000 in
theorem small_r14 (hI:SmSt smallT smallF smallR b0 b1 b2 b3 b4 b5 b23 b93 base capt c12 c15 At A12 A15 cr 5 K1 w wc) (f:Fr) (Q:Exit→Act→World→Prop) (k7:f 7= .func (.func 22) #[] #[.pointer (some ⟨b5,0,none⟩)]) (k3:f 3= .pointer (some ⟨b3,0,none⟩)) (hPQ:PQ Q):WC Tryz.prog (sl (sr (sr (sr (sr (sr (sr (sr (sr (sr (sr (sr (sr (sr (sr (ob Tryz.f5.body)))))))))))))))) (QRS 256 [127,128,129,130,131,132,133] f (fun _ w'=>SmSt smallT smallF smallR b0 b1 b2 b3 b4 b5 b23 b93 base capt c12 c15 At A12 A15 cr 6 K0 w w') Q) 256 f wc:=by
 have hb3:=hI.1.k3;have hP12:=hI.1.p12;refine zZ 7 _ k7 nu (zZ 3 _ k3 nu (zn3 ?_));refine zV QZ (uZ [] ⟨#[99,97,116]⟩ tyET _ _ _ _ hP12) rfl (fun e' w1 hr=>?_);obtain⟨⟨_,rfl,S129,c129,B129,m129,n129,rfl,hz129⟩,s1⟩:=hr;replace s1:=sB s1;refine⟨_,rfl,?_⟩;refine qw (cs:=#[_,_,_]) [(0,.int _ _),(1,.int _ _),(2,.int _ _)] rfl U66 qk qj dE dE kR rfl (fun b130 w2 hb130 s2 hr=>?_);refine qw (cs:=#[_]) [(0,.int _ _)] rfl U66 qk qj dE dE kR rfl (fun b131 w3 hb131 s3 hr=>?_);refine qw (cs:=#[_,_]) [(0,.slice _ _ _),(1,.slice _ _ _)] rfl U71 y8 xQ dE dE kR rfl (fun b132 w4 hb132 s4 hr=>?_);replace hI:=hI.tr0 (s1.trans (s2.trans (s3.trans s4)));obtain⟨hC,A,cap,xs,nL,hb5,ho,hL⟩:=hI;replace hz129:=hz129.tr0 (s2.trans (s3.trans s4));refine y6 rfl QQ (uQ ⟨#[99,97,116]⟩ 0 (Tv.con ⟨#[99,97,116]⟩ tyET) _ _ _ _ _ _ [[9,4,1],[4]] _ _ base _ _ _ _ _ _ _ _ _ K1 _ dE (qY (rs:=[[9,4,1],[4]]) hb132 (.cons ⟨_,_,rfl,(qy [9,4,1] hb130.u dE),by decide,by decide⟩ (.cons ⟨_,_,rfl,(qy [4] hb131.u dE),by decide,by decide⟩ .nil)) dE) hz129 hb5 ho hL hC.bs hC.l.1 dE) rfl rfl (fun e' w5 hr=>?_);obtain⟨rfl,A2,cap2,xs2,hb5n,hon,hL2,hS,hA2⟩:=hr;replace hC:=hC.add hS hb5 ho;refine⟨_,rfl,?_⟩;refine zJ ?_;refine e_R ⟨agA,?_⟩;exact⟨hC,_,_,_,_,hb5n,hon,hL2⟩
set_option maxHeartbeats 1000000 in
theorem small_r15 (hI:SmSt smallT smallF smallR b0 b1 b2 b3 b4 b5 b23 b93 base capt c12 c15 At A12 A15 cr 6 K0 w wc) (f:Fr) (Q:Exit→Act→World→Prop) (k7:f 7= .func (.func 22) #[] #[.pointer (some ⟨b5,0,none⟩)]) (k3:f 3= .pointer (some ⟨b3,0,none⟩)) (hPQ:PQ Q):WC Tryz.prog (sl (sr (sr (sr (sr (sr (sr (sr (sr (sr (sr (sr (sr (sr (sr (sr (ob Tryz.f5.body))))))))))))))))) (QRS 256 [134,135,136,137,138,139,140] f (fun _ w'=>SmSt smallT smallF smallR b0 b1 b2 b3 b4 b5 b23 b93 base capt c12 c15 At A12 A15 cr 7 JY w w') Q) 256 f wc:=by
 have hb3:=hI.1.k3;have hP12:=hI.1.p12;refine zZ 7 _ k7 nu (zZ 3 _ k3 nu (zn3 ?_));refine zV QZ (uZ [] ⟨#[99,97,116]⟩ tyET _ _ _ _ hP12) rfl (fun e' w1 hr=>?_);obtain⟨⟨_,rfl,S136,c136,B136,m136,n136,rfl,hz136⟩,s1⟩:=hr;replace s1:=sB s1;refine⟨_,rfl,?_⟩;refine qw (cs:=#[_,_,_]) [(0,.int _ _),(1,.int _ _),(2,.int _ _)] rfl U66 qk qj dE dE kR rfl (fun b137 w2 hb137 s2 hr=>?_);refine qw (cs:=#[_]) [(0,.int _ _)] rfl U66 qk qj dE dE kR rfl (fun b138 w3 hb138 s3 hr=>?_);refine qw (cs:=#[_,_]) [(0,.slice _ _ _),(1,.slice _ _ _)] rfl U71 y8 xQ dE dE kR rfl (fun b139 w4 hb139 s4 hr=>?_);replace hI:=hI.tr0 (s1.trans (s2.trans (s3.trans s4)));obtain⟨hC,A,cap,xs,nL,hb5,ho,hL⟩:=hI;replace hz136:=hz136.tr0 (s2.trans (s3.trans s4));refine y6 rfl QQ (uQ ⟨#[99,97,116,115]⟩ 0 (Tv.con ⟨#[99,97,116]⟩ tyET) _ _ _ _ _ _ [[9,4,1],[5]] _ _ base _ _ _ _ _ _ _ _ _ K0 _ dE (qY (rs:=[[9,4,1],[5]]) hb139 (.cons ⟨_,_,rfl,(qy [9,4,1] hb137.u dE),by decide,by decide⟩ (.cons ⟨_,_,rfl,(qy [5] hb138.u dE),by decide,by decide⟩ .nil)) dE) hz136 hb5 ho hL hC.bs hC.l.1 dE) rfl rfl (fun e' w5 hr=>?_);obtain⟨rfl,A2,cap2,xs2,hb5n,hon,hL2,hS,hA2⟩:=hr;replace hC:=hC.add hS hb5 ho;refine⟨_,rfl,?_⟩;refine zJ ?_;refine e_R ⟨agA,?_⟩;exact⟨hC,_,_,_,_,hb5n,hon,hL2⟩
set_option maxHeartbeats 1000000 in
theorem small_r16 (hI:SmSt smallT smallF smallR b0 b1 b2 b3 b4 b5 b23 b93 base capt c12 c15 At A12 A15 cr 7 JY w wc) (f:Fr) (Q:Exit→Act→World→Prop) (k7:f 7= .func (.func 22) #[] #[.pointer (some ⟨b5,0,none⟩)]) (k3:f 3= .pointer (some ⟨b3,0,none⟩)) (hPQ:PQ Q):WC Tryz.prog (sl (sr (sr (sr (sr (sr (sr (sr (sr (sr (sr (sr (sr (sr (sr (sr (sr (ob Tryz.f5.body)))))))))))))))))) (QRS 256 [141,142,143,144,145,146,147] f (fun _ w'=>SmSt smallT smallF smallR b0 b1 b2 b3 b4 b5 b23 b93 base capt c12 c15 At A12 A15 cr 8 JW w w') Q) 256 f wc:=by
 have hb3:=hI.1.k3;have hP12:=hI.1.p12;refine zZ 7 _ k7 nu (zZ 3 _ k3 nu (zn3 ?_));refine zV QZ (uZ [] ⟨#[102,105,115,104]⟩ tyET _ _ _ _ hP12) rfl (fun e' w1 hr=>?_);obtain⟨⟨_,rfl,S143,c143,B143,m143,n143,rfl,hz143⟩,s1⟩:=hr;replace s1:=sB s1;refine⟨_,rfl,?_⟩;refine qw (cs:=#[_,_,_]) [(0,.int _ _),(1,.int _ _),(2,.int _ _)] rfl U66 qk qj dE dE kR rfl (fun b144 w2 hb144 s2 hr=>?_);refine qw (cs:=#[_]) [(0,.int _ _)] rfl U66 qk qj dE dE kR rfl (fun b145 w3 hb145 s3 hr=>?_);refine qw (cs:=#[_,_]) [(0,.slice _ _ _),(1,.slice _ _ _)] rfl U71 y8 xQ dE dE kR rfl (fun b146 w4 hb146 s4 hr=>?_);replace hI:=hI.tr0 (s1.trans (s2.trans (s3.trans s4)));obtain⟨hC,A,cap,xs,nL,hb5,ho,hL⟩:=hI;replace hz143:=hz143.tr0 (s2.trans (s3.trans s4));refine y6 rfl QQ (uQ ⟨#[102,105,115,104]⟩ 1 (Tv.con ⟨#[102,105,115,104]⟩ tyET) _ _ _ _ _ _ [[9,4,1],[4]] _ _ base _ _ _ _ _ _ _ _ _ JY _ dE (qY (rs:=[[9,4,1],[4]]) hb146 (.cons ⟨_,_,rfl,(qy [9,4,1] hb144.u dE),by decide,by decide⟩ (.cons ⟨_,_,rfl,(qy [4] hb145.u dE),by decide,by decide⟩ .nil)) dE) hz143 hb5 ho hL hC.bs hC.l.1 dE) rfl rfl (fun e' w5 hr=>?_);obtain⟨rfl,A2,cap2,xs2,hb5n,hon,hL2,hS,hA2⟩:=hr;replace hC:=hC.add hS hb5 ho;refine⟨_,rfl,?_⟩;refine zJ ?_;refine e_R ⟨agA,?_⟩;exact⟨hC,_,_,_,_,hb5n,hon,hL2⟩
set_option maxHeartbeats 1000000 in
theorem small_r17 (hI:SmSt smallT smallF smallR b0 b1 b2 b3 b4 b5 b23 b93 base capt c12 c15 At A12 A15 cr 8 JW w wc) (f:Fr) (Q:Exit→Act→World→Prop) (k7:f 7= .func (.func 22) #[] #[.pointer (some ⟨b5,0,none⟩)]) (k3:f 3= .pointer (some ⟨b3,0,none⟩)) (hPQ:PQ Q):WC Tryz.prog (sl (sr (sr (sr (sr (sr (sr (sr (sr (sr (sr (sr (sr (sr (sr (sr (sr (sr (ob Tryz.f5.body))))))))))))))))))) (QRS 256 [148,149,150,151,152,153,154] f (fun _ w'=>SmSt smallT smallF smallR b0 b1 b2 b3 b4 b5 b23 b93 base capt c12 c15 At A12 A15 cr 9 JV w w') Q) 256 f wc:=by
 have hb3:=hI.1.k3;have hP12:=hI.1.p12;refine zZ 7 _ k7 nu (zZ 3 _ k3 nu (zn3 ?_));refine zV QZ (uZ [] ⟨#[102,105,115,104]⟩ tyET _ _ _ _ hP12) rfl (fun e' w1 hr=>?_);obtain⟨⟨_,rfl,S150,c150,B150,m150,n150,rfl,hz150⟩,s1⟩:=hr;replace s1:=sB s1;refine⟨_,rfl,?_⟩;refine qw (cs:=#[_,_,_]) [(0,.int _ _),(1,.int _ _),(2,.int _ _)] rfl U66 qk qj dE dE kR rfl (fun b151 w2 hb151 s2 hr=>?_);refine qw (cs:=#[_]) [(0,.int _ _)] rfl U66 qk qj dE dE kR rfl (fun b152 w3 hb152 s3 hr=>?_);refine qw (cs:=#[_,_]) [(0,.slice _ _ _),(1,.slice _ _ _)] rfl U71 y8 xQ dE dE kR rfl (fun b153 w4 hb153 s4 hr=>?_);replace hI:=hI.tr0 (s1.trans (s2.trans (s3.trans s4)));obtain⟨hC,A,cap,xs,nL,hb5,ho,hL⟩:=hI;replace hz150:=hz150.tr0 (s2.trans (s3.trans s4));refine y6 rfl QQ (uQ ⟨#[102,105,115,104]⟩ 2 (Tv.con ⟨#[102,105,115,104]⟩ tyET) _ _ _ _ _ _ [[9,4,1],[5]] _ _ base _ _ _ _ _ _ _ _ _ JW _ dE (qY (rs:=[[9,4,1],[5]]) hb153 (.cons ⟨_,_,rfl,(qy [9,4,1] hb151.u dE),by decide,by decide⟩ (.cons ⟨_,_,rfl,(qy [5] hb152.u dE),by decide,by decide⟩ .nil)) dE) hz150 hb5 ho hL hC.bs hC.l.1 dE) rfl rfl (fun e' w5 hr=>?_);obtain⟨rfl,A2,cap2,xs2,hb5n,hon,hL2,hS,hA2⟩:=hr;replace hC:=hC.add hS hb5 ho;refine⟨_,rfl,?_⟩;refine zJ ?_;refine e_R ⟨agA,?_⟩;exact⟨hC,_,_,_,_,hb5n,hon,hL2⟩
set_option maxHeartbeats 1000000 in
theorem small_r18 (hI:SmSt smallT smallF smallR b0 b1 b2 b3 b4 b5 b23 b93 base capt c12 c15 At A12 A15 cr 9 JV w wc) (f:Fr) (Q:Exit→Act→World→Prop) (k7:f 7= .func (.func 22) #[] #[.pointer (some ⟨b5,0,none⟩)]) (k3:f 3= .pointer (some ⟨b3,0,none⟩)) (hPQ:PQ Q):WC Tryz.prog (sl (sr (sr (sr (sr (sr (sr (sr (sr (sr (sr (sr (sr (sr (sr (sr (sr (sr (sr (ob Tryz.f5.body)))))))))))))))))))) (QRS 256 [155,156,157,158,159,160,161] f (fun _ w'=>SmSt smallT smallF smallR b0 b1 b2 b3 b4 b5 b23 b93 base capt c12 c15 At A12 A15 cr 10 Yv w w') Q) 256 f wc:=by
 have hb3:=hI.1.k3;have hP12:=hI.1.p12;refine zZ 7 _ k7 nu (zZ 3 _ k3 nu (zn3 ?_));refine zV QZ (uZ [] ⟨#[98,97,114,107]⟩ tyET _ _ _ _ hP12) rfl (fun e' w1 hr=>?_);obtain⟨⟨_,rfl,S157,c157,B157,m157,n157,rfl,hz157⟩,s1⟩:=hr;replace s1:=sB s1;refine⟨_,rfl,?_⟩;refine qw (cs:=#[_,_,_]) [(0,.int _ _),(1,.int _ _),(2,.int _ _)] rfl U66 qk qj dE dE kR rfl (fun b158 w2 hb158 s2 hr=>?_);refine qw (cs:=#[_]) [(0,.int _ _)] rfl U66 qk qj dE dE kR rfl (fun b159 w3 hb159 s3 hr=>?_);refine qw (cs:=#[_,_]) [(0,.slice _ _ _),(1,.slice _ _ _)] rfl U71 y8 xQ dE dE kR rfl (fun b160 w4 hb160 s4 hr=>?_);replace hI:=hI.tr0 (s1.trans (s2.trans (s3.trans s4)));obtain⟨hC,A,cap,xs,nL,hb5,ho,hL⟩:=hI;replace hz157:=hz157.tr0 (s2.trans (s3.trans s4));refine y6 rfl QQ (uQ ⟨#[98,97,114,107,115]⟩ 0 (Tv.con ⟨#[98,97,114,107]⟩ tyET) _ _ _ _ _ _ [[11,4,1],[4]] _ _ base _ _ _ _ _ _ _ _ _ JV _ dE (qY (rs:=[[11,4,1],[4]]) hb160 (.cons ⟨_,_,rfl,(qy [11,4,1] hb158.u dE),by decide,by decide⟩ (.cons ⟨_,_,rfl,(qy [4] hb159.u dE),by decide,by decide⟩ .nil)) dE) hz157 hb5 ho hL hC.bs hC.l.1 dE) rfl rfl (fun e' w5 hr=>?_);obtain⟨rfl,A2,cap2,xs2,hb5n,hon,hL2,hS,hA2⟩:=hr;replace hC:=hC.add hS hb5 ho;refine⟨_,rfl,?_⟩;refine zJ ?_;refine e_R ⟨agA,?_⟩;exact⟨hC,_,_,_,_,hb5n,hon,hL2⟩
set_option maxHeartbeats 1000000 in
theorem small_r19 (hI:SmSt smallT smallF smallR b0 b1 b2 b3 b4 b5 b23 b93 base capt c12 c15 At A12 A15 cr 10 Yv w wc) (f:Fr) (Q:Exit→Act→World→Prop) (k7:f 7= .func (.func 22) #[] #[.pointer (some ⟨b5,0,none⟩)]) (k3:f 3= .pointer (some ⟨b3,0,none⟩)) (hPQ:PQ Q):WC Tryz.prog (sl (sr (sr (sr (sr (sr (sr (sr (sr (sr (sr (sr (sr (sr (sr (sr (sr (sr (sr (sr (ob Tryz.f5.body))))))))))))))))))))) (QRS 256 [162,163,164,165,166,167,168] f (fun _ w'=>SmSt smallT smallF smallR b0 b1 b2 b3 b4 b5 b23 b93 base capt c12 c15 At A12 A15 cr 11 Yk w w') Q) 256 f wc:=by
 have hb3:=hI.1.k3;have hP12:=hI.1.p12;refine zZ 7 _ k7 nu (zZ 3 _ k3 nu (zn3 ?_));refine zV QZ (uZ [] ⟨#[98,97,114,107]⟩ tyET _ _ _ _ hP12) rfl (fun e' w1 hr=>?_);obtain⟨⟨_,rfl,S164,c164,B164,m164,n164,rfl,hz164⟩,s1⟩:=hr;replace s1:=sB s1;refine⟨_,rfl,?_⟩;refine qw (cs:=#[_,_,_]) [(0,.int _ _),(1,.int _ _),(2,.int _ _)] rfl U66 qk qj dE dE kR rfl (fun b165 w2 hb165 s2 hr=>?_);refine qw (cs:=#[_]) [(0,.int _ _)] rfl U66 qk qj dE dE kR rfl (fun b166 w3 hb166 s3 hr=>?_);refine qw (cs:=#[_,_]) [(0,.slice _ _ _),(1,.slice _ _ _)] rfl U71 y8 xQ dE dE kR rfl (fun b167 w4 hb167 s4 hr=>?_);replace hI:=hI.tr0 (s1.trans (s2.trans (s3.trans s4)));obtain⟨hC,A,cap,xs,nL,hb5,ho,hL⟩:=hI;replace hz164:=hz164.tr0 (s2.trans (s3.trans s4));refine y6 rfl QQ (uQ ⟨#[98,97,114,107]⟩ 0 (Tv.con ⟨#[98,97,114,107]⟩ tyET) _ _ _ _ _ _ [[11,4,1],[5]] _ _ base _ _ _ _ _ _ _ _ _ Yv _ dE (qY (rs:=[[11,4,1],[5]]) hb167 (.cons ⟨_,_,rfl,(qy [11,4,1] hb165.u dE),by decide,by decide⟩ (.cons ⟨_,_,rfl,(qy [5] hb166.u dE),by decide,by decide⟩ .nil)) dE) hz164 hb5 ho hL hC.bs hC.l.1 dE) rfl rfl (fun e' w5 hr=>?_);obtain⟨rfl,A2,cap2,xs2,hb5n,hon,hL2,hS,hA2⟩:=hr;replace hC:=hC.add hS hb5 ho;refine⟨_,rfl,?_⟩;refine zJ ?_;refine e_R ⟨agA,?_⟩;exact⟨hC,_,_,_,_,hb5n,hon,hL2⟩
end Go.Proofs.YtbcpgfnfiekbiaaGreatDoor
