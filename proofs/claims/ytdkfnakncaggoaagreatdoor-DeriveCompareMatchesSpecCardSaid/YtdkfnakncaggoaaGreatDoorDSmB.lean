/- Regions of the function Small, each at every world. Regions of the function Small, each at every world. -/
import Derived.Test.YtdkfnakncaggoaaGreatDoorU
import Derived.Test.YtdkfnakncaggoaaGreatDoorName
import Derived.Test.YtdkfnakncaggoaaGreatDoorEng5
import Derived.Test.YtdkfnakncaggoaaGreatDoorDSh
import Derived.Test.YtdkfnakncaggoaaGreatDoorDMe
namespace Go.Proofs.YtdkfnakncaggoaaGreatDoor
open Go.RowKit
def Rv:List ByteArray:=[⟨#[116,111,112]⟩,⟨#[114,117,108,101]⟩,⟨#[115,105,103,110]⟩,⟨#[110,117,109]⟩,⟨#[115,105,110,103]⟩,⟨#[112,108,117,114]⟩,⟨#[115]⟩,⟨#[110,112]⟩,⟨#[118,112]⟩,⟨#[110]⟩,⟨#[100,101,116]⟩,⟨#[105,118]⟩,⟨#[116,118]⟩,⟨#[97,100,118]⟩,⟨#[99,111,110,106]⟩]
def Rk:List Int:=[0,0,0,0,3,3,2,2,2,2,2,2,2,2,2]
def smallF:List Ft:=[⟨⟨#[109,111,116,104,101,114]⟩,1,2⟩,⟨⟨#[111,110,101]⟩,1,2⟩,⟨⟨#[116,119,111]⟩,1,2⟩,⟨⟨#[116,104,114,101,101]⟩,1,2⟩,⟨⟨#[110,117,109]⟩,2,3⟩]
def smallT:List Ty:=QJ Rv Rk 15
def smallR0:RlS:=⟨⟨#[115]⟩,[[1,0,1,1,2,2,4],[6],[7,4,3],[3],[8,4,3]],2,0,(y8[0]'dE)⟩
def smallR1:RlS:=⟨⟨#[110,112]⟩,[[1,0,1,1,3,2,4],[7,4,2],[3],[10,4,2],[9,4,2]],2,1,(y8[1]'dE)⟩
def smallR2:RlS:=⟨⟨#[118,112,45,105,118]⟩,[[1,0,1,1,3],[8,4,2],[3],[11,4,2]],1,0,(y8[2]'dE)⟩
def smallR3:RlS:=⟨⟨#[118,112,45,116,118]⟩,[[1,0,1,1,3,2,4],[8,4,2],[3],[12,4,2],[7]],2,2,(y8[3]'dE)⟩
def smallR4:RlS:=⟨⟨#[118,112,45,110,111,116]⟩,[[1,0,1,1,3,2,4],[8,4,2],[3],[13],[8,4,2]],2,3,(y8[4]'dE)⟩
def smallR5:RlS:=⟨⟨#[110,112,45,97,110,100]⟩,[[1,0,1,1,3,2,4,3,5],[7,4,2],[5],[7],[14],[7]],3,4,(y8[5]'dE)⟩
def smallRs:List RlS:=[smallR0,smallR1,smallR2,smallR3,smallR4,smallR5]
def smallR:List Rl:=smallRs.map RlS.rl
def smallW0:LxS:=⟨⟨#[101,118,101,114,121]⟩,[[10,4,1],[4]],1,(quN ⟨#[97,108,108]⟩ ⟨#[105,102]⟩)⟩
def smallW1:LxS:=⟨⟨#[97]⟩,[[10,4,1],[4]],0,(quN ⟨#[115,111,109,101]⟩ ⟨#[97,110,100]⟩)⟩
def smallW2:LxS:=⟨⟨#[110,111]⟩,[[10]],2,(quY ⟨#[115,111,109,101]⟩ ⟨#[97,110,100]⟩)⟩
def smallW3:LxS:=⟨⟨#[100,111,103]⟩,[[9,4,1],[4]],0,(Tv.con ⟨#[100,111,103]⟩ tyET)⟩
def smallW4:LxS:=⟨⟨#[100,111,103,115]⟩,[[9,4,1],[5]],0,(Tv.con ⟨#[100,111,103]⟩ tyET)⟩
def smallW5:LxS:=⟨⟨#[99,97,116]⟩,[[9,4,1],[4]],0,(Tv.con ⟨#[99,97,116]⟩ tyET)⟩
def smallW6:LxS:=⟨⟨#[99,97,116,115]⟩,[[9,4,1],[5]],0,(Tv.con ⟨#[99,97,116]⟩ tyET)⟩
def smallW7:LxS:=⟨⟨#[102,105,115,104]⟩,[[9,4,1],[4]],1,(Tv.con ⟨#[102,105,115,104]⟩ tyET)⟩
def smallW8:LxS:=⟨⟨#[102,105,115,104]⟩,[[9,4,1],[5]],2,(Tv.con ⟨#[102,105,115,104]⟩ tyET)⟩
def smallW9:LxS:=⟨⟨#[98,97,114,107,115]⟩,[[11,4,1],[4]],0,(Tv.con ⟨#[98,97,114,107]⟩ tyET)⟩
def smallW10:LxS:=⟨⟨#[98,97,114,107]⟩,[[11,4,1],[5]],0,(Tv.con ⟨#[98,97,114,107]⟩ tyET)⟩
def smallW11:LxS:=⟨⟨#[115,108,101,101,112,115]⟩,[[11,4,1],[4]],0,(Tv.con ⟨#[115,108,101,101,112]⟩ tyET)⟩
def smallW12:LxS:=⟨⟨#[115,108,101,101,112]⟩,[[11,4,1],[5]],0,(Tv.con ⟨#[115,108,101,101,112]⟩ tyET)⟩
def smallW13:LxS:=⟨⟨#[99,104,97,115,101,115]⟩,[[12,4,1],[4]],0,(Tv.con ⟨#[99,104,97,115,101]⟩ tyEET)⟩
def smallW14:LxS:=⟨⟨#[99,104,97,115,101]⟩,[[12,4,1],[5]],0,(Tv.con ⟨#[99,104,97,115,101]⟩ tyEET)⟩
def smallW15:LxS:=⟨⟨#[115,101,101,115]⟩,[[12,4,1],[4]],1,(Tv.con ⟨#[115,101,101]⟩ tyEET)⟩
def smallW16:LxS:=⟨⟨#[115,101,101]⟩,[[12,4,1],[5]],1,(Tv.con ⟨#[115,101,101]⟩ tyEET)⟩
def smallW17:LxS:=⟨⟨#[110,111,116]⟩,[[13]],0,(Tv.con ⟨#[110,111,116]⟩ (Ts.f (Ts.b true) (Ts.b true)))⟩
def smallW18:LxS:=⟨⟨#[97,110,100]⟩,[[14]],0,(Tv.con ⟨#[97,110,100]⟩ (Ts.f (Ts.b true) (Ts.f (Ts.b true) (Ts.b true))))⟩
def smallW19:LxS:=⟨⟨#[114,101,120]⟩,[[7,4,1],[4]],0,(Tv.abs tyET (Tv.app (Tv.var 0) (Tv.con ⟨#[114,101,120]⟩ (Ts.b false))))⟩
def smallW20:LxS:=⟨⟨#[109,105,97]⟩,[[7,4,1],[4]],0,(Tv.abs tyET (Tv.app (Tv.var 0) (Tv.con ⟨#[109,105,97]⟩ (Ts.b false))))⟩
def smallXs:List LxS:=[smallW0,smallW1,smallW2,smallW3,smallW4,smallW5,smallW6,smallW7,smallW8,smallW9,smallW10,smallW11,smallW12,smallW13,smallW14,smallW15,smallW16,smallW17,smallW18,smallW19,smallW20]
def IQ:List Lx:=[]
def J8:List Lx:=IQ ++ [smallW0.lx]
def J7:List Lx:=J8 ++ [smallW1.lx]
def J6:List Lx:=J7 ++ [smallW2.lx]
def J5:List Lx:=J6 ++ [smallW3.lx]
def J4:List Lx:=J5 ++ [smallW4.lx]
def J3:List Lx:=J4 ++ [smallW5.lx]
def J2:List Lx:=J3 ++ [smallW6.lx]
def J1:List Lx:=J2 ++ [smallW7.lx]
def J0:List Lx:=J1 ++ [smallW8.lx]
def XQ:List Lx:=J0 ++ [smallW9.lx]
def XZ:List Lx:=XQ ++ [smallW10.lx]
def Xy:List Lx:=XZ ++ [smallW11.lx]
def Xw:List Lx:=Xy ++ [smallW12.lx]
def Xv:List Lx:=Xw ++ [smallW13.lx]
def Xk:List Lx:=Xv ++ [smallW14.lx]
def Xj:List Lx:=Xk ++ [smallW15.lx]
def Xx:List Lx:=Xj ++ [smallW16.lx]
def Xq:List Lx:=Xx ++ [smallW17.lx]
def Xz:List Lx:=Xq ++ [smallW18.lx]
def X9:List Lx:=Xz ++ [smallW19.lx]
def Mw:List Lx:=X9 ++ [smallW20.lx]
def smallX:List Lx:=Mw
def smallS:List Nd:=([[6]]:List (List Int)).map QW
theorem Lv:(Tryz.prog.info? 26).map (·.size)=some 1:=by kernel_rfl
theorem Lk:(Tryz.prog.info? 60).map (·.size)=some 10:=by kernel_rfl
theorem L3:(Tryz.prog.info? 60).map (·.zero)=some (some (.agg #[.string ⟨#[]⟩,.slice none 0 0,.int .i64 0,.int .i64 0,.int .i64 0,.string ⟨#[]⟩,.int .i64 0,.string ⟨#[]⟩,.slice none 0 0,.slice none 0 0])):=by kernel_rfl
theorem xk:(Tryz.prog.info? 69).map (·.zero)=some (some (.slice none 0 0)):=by kernel_rfl
variable {w wc:World} {b0 b1 b2 b3 b4 b5 b23 b93 base capt c12 c15:Nat} {At A12 A15:Option Addr} {cr:Array Value}
set_option maxHeartbeats 4000000 in
theorem small_r7 {bm nm:Nat} {csm:List Value} (hb5:Blk wc b5 32 #[.slice At 15 capt,.slice (some ⟨b23,0,none⟩) 5 5,.slice none 0 0,.slice none 0 0,.slice none 0 0]) (hbm:Blk wc bm 55 csm.toArray) (hTm:TmCs nm wc y8 csm)  (f:Fr) (Q:Exit→Act→World→Prop) (k6:f 6= .slice (some ⟨bm,0,none⟩) 6 6) (k5:f 5= .pointer (some ⟨b5,0,none⟩)):WC Tryz.prog (sl (sr (sr (sr (sr (sr (sr (sr (ob Tryz.f6.body))))))))) (QRS 256 [27,28,29,30,31,32,33,34,35,36,37,38,39,40,41,42,43,44,45,46,47,48,49,50,51,52,53,54,55,56,57,58,59,60,61,62,63,64,65,66,67,68,69,70,71,72,73,74,75,76,77,78,79,80,81,82,83,84,85,86,87,88,89,90,91,92,93,94] f (fun _ w'=>Same [b5] wc w'∧∃ b93 cr nRl,wc.heap.size≤b93∧Blk w' b93 60 cr∧Fz [] nRl TS w' (fun w=>RlCs w smallR cr.toList)∧Blk w' b5 32 #[.slice At 15 capt,.slice (some ⟨b23,0,none⟩) 5 5,.slice (some ⟨b93,0,none⟩) 6 6,.slice none 0 0,.slice none 0 0]) Q) 256 f wc:=by
 have hZ:Same [b5] wc wc:=(Same.refl [] wc).weak (by simp);refine zJ 6 (.slice (some ⟨bm,0,none⟩) 6 6) k6 nu (zJ 5 (.pointer (some ⟨b5,0,none⟩)) k5 nu ?_);have z5:=hb5.lt;refine yk 67 [27,28,29,30,31,32,33,34,35,36,37,38,39,40,41,42,43,44,45,46,47,48,49,50,51,52,53,54,55,56,57,58,59,60,61,62,63,64,65,66,67,68,69,70,71,72,73,74,75,76,77,78,79,80,81,82,83,84,85,86,87,88,89,90,91,92,93] (fun ix=>Nat.beq ix 66) (fun ix v wv=>match ix with | 0=>v= .slice (some ⟨bm,0,none⟩) 6 6 | 1=>v= .pointer (some ⟨bm,0 + 0 * 6,none⟩) | 2=>TmD [] (y8[0]'dE) wv (v) | 3=>IsP [1,0,1,1,2,2,4] wv (v) | 4=>IsP [6] wv (v) | 5=>IsP [7,4,3] wv (v) | 6=>IsP [3] wv (v) | 7=>IsP [8,4,3] wv (v) | 8=>RsP [[1,0,1,1,2,2,4],[6],[7,4,3],[3],[8,4,3]] wv (v) | 9=>GrP [[1,0,1,1,2,2,4],[6],[7,4,3],[3],[8,4,3]] wv (v) | 10=>RlP smallR0 wv (v) | 11=>v= .slice (some ⟨bm,0,none⟩) 6 6 | 12=>v= .pointer (some ⟨bm,0 + 1 * 6,none⟩) | 13=>TmD [] (y8[1]'dE) wv (v) | 14=>IsP [1,0,1,1,3,2,4] wv (v) | 15=>IsP [7,4,2] wv (v) | 16=>IsP [3] wv (v) | 17=>IsP [10,4,2] wv (v) | 18=>IsP [9,4,2] wv (v) | 19=>RsP [[1,0,1,1,3,2,4],[7,4,2],[3],[10,4,2],[9,4,2]] wv (v) | 20=>GrP [[1,0,1,1,3,2,4],[7,4,2],[3],[10,4,2],[9,4,2]] wv (v) | 21=>RlP smallR1 wv (v) | 22=>v= .slice (some ⟨bm,0,none⟩) 6 6 | 23=>v= .pointer (some ⟨bm,0 + 2 * 6,none⟩) | 24=>TmD [] (y8[2]'dE) wv (v) | 25=>IsP [1,0,1,1,3] wv (v) | 26=>IsP [8,4,2] wv (v) | 27=>IsP [3] wv (v) | 28=>IsP [11,4,2] wv (v) | 29=>RsP [[1,0,1,1,3],[8,4,2],[3],[11,4,2]] wv (v) | 30=>GrP [[1,0,1,1,3],[8,4,2],[3],[11,4,2]] wv (v) | 31=>RlP smallR2 wv (v) | 32=>v= .slice (some ⟨bm,0,none⟩) 6 6 | 33=>v= .pointer (some ⟨bm,0 + 3 * 6,none⟩) | 34=>TmD [] (y8[3]'dE) wv (v) | 35=>IsP [1,0,1,1,3,2,4] wv (v) | 36=>IsP [8,4,2] wv (v) | 37=>IsP [3] wv (v) | 38=>IsP [12,4,2] wv (v) | 39=>IsP [7] wv (v) | 40=>RsP [[1,0,1,1,3,2,4],[8,4,2],[3],[12,4,2],[7]] wv (v) | 41=>GrP [[1,0,1,1,3,2,4],[8,4,2],[3],[12,4,2],[7]] wv (v) | 42=>RlP smallR3 wv (v) | 43=>v= .slice (some ⟨bm,0,none⟩) 6 6 | 44=>v= .pointer (some ⟨bm,0 + 4 * 6,none⟩) | 45=>TmD [] (y8[4]'dE) wv (v) | 46=>IsP [1,0,1,1,3,2,4] wv (v) | 47=>IsP [8,4,2] wv (v) | 48=>IsP [3] wv (v) | 49=>IsP [13] wv (v) | 50=>IsP [8,4,2] wv (v) | 51=>RsP [[1,0,1,1,3,2,4],[8,4,2],[3],[13],[8,4,2]] wv (v) | 52=>GrP [[1,0,1,1,3,2,4],[8,4,2],[3],[13],[8,4,2]] wv (v) | 53=>RlP smallR4 wv (v) | 54=>v= .slice (some ⟨bm,0,none⟩) 6 6 | 55=>v= .pointer (some ⟨bm,0 + 5 * 6,none⟩) | 56=>TmD [] (y8[5]'dE) wv (v) | 57=>IsP [1,0,1,1,3,2,4,3,5] wv (v) | 58=>IsP [7,4,2] wv (v) | 59=>IsP [5] wv (v) | 60=>IsP [7] wv (v) | 61=>IsP [14] wv (v) | 62=>IsP [7] wv (v) | 63=>RsP [[1,0,1,1,3,2,4,3,5],[7,4,2],[5],[7],[14],[7]] wv (v) | 64=>GrP [[1,0,1,1,3,2,4,3,5],[7,4,2],[5],[7],[14],[7]] wv (v) | 65=>RlP smallR5 wv (v) | 66=>∃ b cs n,v= .slice (some ⟨b,0,none⟩) 6 6∧wc.heap.size≤b∧Blk wv b 60 cs∧Fz [] n TS wv (fun w=>RlCs w smallR cs.toList) | _=>True) kR kR ?_ ?_ ?_
 ·intro ix v wv wv2 h hs
  match ix,h with
  | 0,h=>exact h
  | 1,h=>exact h
  | 2,h=>
   exact TmD.tr0 h hs
  | 3,h=>
   exact IsP.tr0 h hs
  | 4,h=>
   exact IsP.tr0 h hs
  | 5,h=>
   exact IsP.tr0 h hs
  | 6,h=>
   exact IsP.tr0 h hs
  | 7,h=>
   exact IsP.tr0 h hs
  | 8,h=>
   exact RsP.tr0 h hs
  | 9,h=>
   exact GrP.tr0 h hs
  | 10,h=>
   exact RlP.tr0 h hs
  | 11,h=>exact h
  | 12,h=>exact h
  | 13,h=>
   exact TmD.tr0 h hs
  | 14,h=>
   exact IsP.tr0 h hs
  | 15,h=>
   exact IsP.tr0 h hs
  | 16,h=>
   exact IsP.tr0 h hs
  | 17,h=>
   exact IsP.tr0 h hs
  | 18,h=>
   exact IsP.tr0 h hs
  | 19,h=>
   exact RsP.tr0 h hs
  | 20,h=>
   exact GrP.tr0 h hs
  | 21,h=>
   exact RlP.tr0 h hs
  | 22,h=>exact h
  | 23,h=>exact h
  | 24,h=>
   exact TmD.tr0 h hs
  | 25,h=>
   exact IsP.tr0 h hs
  | 26,h=>
   exact IsP.tr0 h hs
  | 27,h=>
   exact IsP.tr0 h hs
  | 28,h=>
   exact IsP.tr0 h hs
  | 29,h=>
   exact RsP.tr0 h hs
  | 30,h=>
   exact GrP.tr0 h hs
  | 31,h=>
   exact RlP.tr0 h hs
  | 32,h=>exact h
  | 33,h=>exact h
  | 34,h=>
   exact TmD.tr0 h hs
  | 35,h=>
   exact IsP.tr0 h hs
  | 36,h=>
   exact IsP.tr0 h hs
  | 37,h=>
   exact IsP.tr0 h hs
  | 38,h=>
   exact IsP.tr0 h hs
  | 39,h=>
   exact IsP.tr0 h hs
  | 40,h=>
   exact RsP.tr0 h hs
  | 41,h=>
   exact GrP.tr0 h hs
  | 42,h=>
   exact RlP.tr0 h hs
  | 43,h=>exact h
  | 44,h=>exact h
  | 45,h=>
   exact TmD.tr0 h hs
  | 46,h=>
   exact IsP.tr0 h hs
  | 47,h=>
   exact IsP.tr0 h hs
  | 48,h=>
   exact IsP.tr0 h hs
  | 49,h=>
   exact IsP.tr0 h hs
  | 50,h=>
   exact IsP.tr0 h hs
  | 51,h=>
   exact RsP.tr0 h hs
  | 52,h=>
   exact GrP.tr0 h hs
  | 53,h=>
   exact RlP.tr0 h hs
  | 54,h=>exact h
  | 55,h=>exact h
  | 56,h=>
   exact TmD.tr0 h hs
  | 57,h=>
   exact IsP.tr0 h hs
  | 58,h=>
   exact IsP.tr0 h hs
  | 59,h=>
   exact IsP.tr0 h hs
  | 60,h=>
   exact IsP.tr0 h hs
  | 61,h=>
   exact IsP.tr0 h hs
  | 62,h=>
   exact IsP.tr0 h hs
  | 63,h=>
   exact RsP.tr0 h hs
  | 64,h=>
   exact GrP.tr0 h hs
  | 65,h=>
   exact RlP.tr0 h hs
  | 66,h=>
   obtain⟨b93,cr,nRl,e93,lo93,hb93,hRl⟩:=h;exact⟨b93,cr,nRl,e93,lo93,hb93.tr0 hs,hRl.tr0 hs⟩
  | _ + 67,h=>exact trivial
 ·intro ix o hix hoq gg wx hs hd hdis
  match ix,hix,hoq with
  | 0,_,hoq=>
   cases sI hoq;exact oV (x9 (v:= .slice _ _ _) rfl) rfl
  | 1,_,hoq=>
   cases sI hoq;refine z4 27 (.slice (some ⟨bm,0,none⟩) 6 6) (hd 0 (zz kR)) nu ?_;exact oV (yQ (i:=0) U53 xw rfl rfl dE rfl) rfl
  | 2,_,hoq=>
   cases sI hoq;replace hbm:=hbm.tr0 hs;replace hTm:=hTm.tr0 hs;obtain⟨S0,B0,c0,d0,hrg,hz0⟩:=hTm.at_ hbm (k:=0) dE;refine z4 28 (.pointer (some ⟨bm,0 + 0 * 6,none⟩)) (hd 1 (zz kR)) nu ?_;exact oV (zW U55 rfl rfl hrg xw) ⟨_,_,_,_,_,rfl,hz0⟩
  | 3,_,hoq=>
   cases sI hoq;exact vk [1,0,1,1,2,2,4] rfl U69 qj qz
  | 4,_,hoq=>
   cases sI hoq;exact vk [6] rfl U69 qj qz
  | 5,_,hoq=>
   cases sI hoq;exact vk [7,4,3] rfl U69 qj qz
  | 6,_,hoq=>
   cases sI hoq;exact vk [3] rfl U69 qj qz
  | 7,_,hoq=>
   cases sI hoq;exact vk [8,4,3] rfl U69 qj qz
  | 8,_,hoq=>
   cases sI hoq;obtain⟨b30,e30,hin30⟩:=hd 3 (zz kR);obtain⟨b31,e31,hin31⟩:=hd 4 (zz kR);obtain⟨b32,e32,hin32⟩:=hd 5 (zz kR);obtain⟨b33,e33,hin33⟩:=hd 6 (zz kR);obtain⟨b34,e34,hin34⟩:=hd 7 (zz kR);refine z4 30 (.slice (some ⟨b30,0,none⟩) 7 7) e30 nu (z4 31 (.slice (some ⟨b31,0,none⟩) 1 1) e31 nu (z4 32 (.slice (some ⟨b32,0,none⟩) 3 3) e32 nu (z4 33 (.slice (some ⟨b33,0,none⟩) 1 1) e33 nu (z4 34 (.slice (some ⟨b34,0,none⟩) 3 3) e34 nu ?_))));refine jx (fun ops Q K=>?_);refine qJ (cs:=#[_,_,_,_,_]) [(0,.slice _ _ _),(1,.slice _ _ _),(2,.slice _ _ _),(3,.slice _ _ _),(4,.slice _ _ _)] rfl U74 xW xk dE dE kR rfl (fun b35 w1 hb35 hs hr=>?_);exact K _ _ ⟨hs,⟨_,rfl,x6 (rs:=[[1,0,1,1,2,2,4],[6],[7,4,3],[3],[8,4,3]]) hb35 (.cons ⟨_,_,rfl,(hin30.mono hs.bel),by decide,by decide⟩ (.cons ⟨_,_,rfl,(hin31.mono hs.bel),by decide,by decide⟩ (.cons ⟨_,_,rfl,(hin32.mono hs.bel),by decide,by decide⟩ (.cons ⟨_,_,rfl,(hin33.mono hs.bel),by decide,by decide⟩ (.cons ⟨_,_,rfl,(hin34.mono hs.bel),by decide,by decide⟩ .nil))))) dE⟩,fR hr hb35.lt⟩
  | 9,_,hoq=>
   cases sI hoq;obtain⟨b35,e35,hrw35⟩:=hd 8 (zz kR);refine z4 35 (.slice (some ⟨b35,0,none⟩) 5 5) e35 nu ?_;refine qx T1 (uq _ _ [[1,0,1,1,2,2,4],[6],[7,4,3],[3],[8,4,3]] wx hrw35) rfl (fun e' w2 hr=>?_);obtain⟨⟨G9,c9,rfl,hy9⟩,hs⟩:=hr;exact⟨_,rfl,sB hs,⟨G9,c9,_,rfl,hy9⟩,zX⟩
  | 10,_,hoq=>
   cases sI hoq;obtain⟨S29,c29,B29,m29,n29,e29,hz29⟩:=hd 2 (zz kR);obtain⟨G36,c36,n36,e36,hy36⟩:=hd 9 (zz kR);refine z4 29 (.agg #[.int .i64 ((y8[0]'dE)).tm.kind,.string ((y8[0]'dE)).tm.name,.int .i64 ((y8[0]'dE)).tm.index,.string ((y8[0]'dE)).tm.type.base,.slice S29 ((y8[0]'dE)).tm.type.args.length c29,.slice B29 ((y8[0]'dE)).tm.args.length m29]) e29 nu (z4 36 (.agg #[.slice G36 5 c36]) e36 nu ?_);exact oV (r_bd4 (v0:= .string _) (v1:= .int _ _) (v2:= .agg _) (v3:= .agg _) (fun v0 v1 v2 v3=>#[v0,(qX v3 0),v1,.int .i64 0,(qX v2 0),(qX v2 1),(qX v2 2),(qX v2 3),(qX v2 4),(qX v2 5)]) rfl rfl rfl rfl kR) ⟨_,_,_,_,_,_,_,_,rfl,hy36,hz29⟩
  | 11,_,hoq=>
   cases sI hoq;exact oV (x9 (v:= .slice _ _ _) rfl) rfl
  | 12,_,hoq=>
   cases sI hoq;refine z4 38 (.slice (some ⟨bm,0,none⟩) 6 6) (hd 11 (zz kR)) nu ?_;exact oV (yQ (i:=1) U53 xw rfl rfl dE rfl) rfl
  | 13,_,hoq=>
   cases sI hoq;replace hbm:=hbm.tr0 hs;replace hTm:=hTm.tr0 hs;obtain⟨S0,B0,c0,d0,hrg,hz0⟩:=hTm.at_ hbm (k:=1) dE;refine z4 39 (.pointer (some ⟨bm,0 + 1 * 6,none⟩)) (hd 12 (zz kR)) nu ?_;exact oV (zW U55 rfl rfl hrg xw) ⟨_,_,_,_,_,rfl,hz0⟩
  | 14,_,hoq=>
   cases sI hoq;exact vk [1,0,1,1,3,2,4] rfl U69 qj qz
  | 15,_,hoq=>
   cases sI hoq;exact vk [7,4,2] rfl U69 qj qz
  | 16,_,hoq=>
   cases sI hoq;exact vk [3] rfl U69 qj qz
  | 17,_,hoq=>
   cases sI hoq;exact vk [10,4,2] rfl U69 qj qz
  | 18,_,hoq=>
   cases sI hoq;exact vk [9,4,2] rfl U69 qj qz
  | 19,_,hoq=>
   cases sI hoq;obtain⟨b41,e41,hin41⟩:=hd 14 (zz kR);obtain⟨b42,e42,hin42⟩:=hd 15 (zz kR);obtain⟨b43,e43,hin43⟩:=hd 16 (zz kR);obtain⟨b44,e44,hin44⟩:=hd 17 (zz kR);obtain⟨b45,e45,hin45⟩:=hd 18 (zz kR);refine z4 41 (.slice (some ⟨b41,0,none⟩) 7 7) e41 nu (z4 42 (.slice (some ⟨b42,0,none⟩) 3 3) e42 nu (z4 43 (.slice (some ⟨b43,0,none⟩) 1 1) e43 nu (z4 44 (.slice (some ⟨b44,0,none⟩) 3 3) e44 nu (z4 45 (.slice (some ⟨b45,0,none⟩) 3 3) e45 nu ?_))));refine jx (fun ops Q K=>?_);refine qJ (cs:=#[_,_,_,_,_]) [(0,.slice _ _ _),(1,.slice _ _ _),(2,.slice _ _ _),(3,.slice _ _ _),(4,.slice _ _ _)] rfl U74 xW xk dE dE kR rfl (fun b46 w2 hb46 hs hr=>?_);exact K _ _ ⟨hs,⟨_,rfl,x6 (rs:=[[1,0,1,1,3,2,4],[7,4,2],[3],[10,4,2],[9,4,2]]) hb46 (.cons ⟨_,_,rfl,(hin41.mono hs.bel),by decide,by decide⟩ (.cons ⟨_,_,rfl,(hin42.mono hs.bel),by decide,by decide⟩ (.cons ⟨_,_,rfl,(hin43.mono hs.bel),by decide,by decide⟩ (.cons ⟨_,_,rfl,(hin44.mono hs.bel),by decide,by decide⟩ (.cons ⟨_,_,rfl,(hin45.mono hs.bel),by decide,by decide⟩ .nil))))) dE⟩,fR hr hb46.lt⟩
  | 20,_,hoq=>
   cases sI hoq;obtain⟨b46,e46,hrw46⟩:=hd 19 (zz kR);refine z4 46 (.slice (some ⟨b46,0,none⟩) 5 5) e46 nu ?_;refine qx T1 (uq _ _ [[1,0,1,1,3,2,4],[7,4,2],[3],[10,4,2],[9,4,2]] wx hrw46) rfl (fun e' w2 hr=>?_);obtain⟨⟨G9,c9,rfl,hy9⟩,hs⟩:=hr;exact⟨_,rfl,sB hs,⟨G9,c9,_,rfl,hy9⟩,zX⟩
  | 21,_,hoq=>
   cases sI hoq;obtain⟨S40,c40,B40,m40,n40,e40,hz40⟩:=hd 13 (zz kR);obtain⟨G47,c47,n47,e47,hy47⟩:=hd 20 (zz kR);refine z4 40 (.agg #[.int .i64 ((y8[1]'dE)).tm.kind,.string ((y8[1]'dE)).tm.name,.int .i64 ((y8[1]'dE)).tm.index,.string ((y8[1]'dE)).tm.type.base,.slice S40 ((y8[1]'dE)).tm.type.args.length c40,.slice B40 ((y8[1]'dE)).tm.args.length m40]) e40 nu (z4 47 (.agg #[.slice G47 5 c47]) e47 nu ?_);exact oV (S5 (v0:= .string _) (v1:= .int _ _) (v2:= .int _ _) (v3:= .agg _) (v4:= .agg _) (fun v0 v1 v2 v3 v4=>#[v0,(qX v4 0),v1,v2,(qX v3 0),(qX v3 1),(qX v3 2),(qX v3 3),(qX v3 4),(qX v3 5)]) rfl rfl rfl rfl rfl kR) ⟨_,_,_,_,_,_,_,_,rfl,hy47,hz40⟩
  | 22,_,hoq=>
   cases sI hoq;exact oV (x9 (v:= .slice _ _ _) rfl) rfl
  | 23,_,hoq=>
   cases sI hoq;refine z4 49 (.slice (some ⟨bm,0,none⟩) 6 6) (hd 22 (zz kR)) nu ?_;exact oV (yQ (i:=2) U53 xw rfl rfl dE rfl) rfl
  | 24,_,hoq=>
   cases sI hoq;replace hbm:=hbm.tr0 hs;replace hTm:=hTm.tr0 hs;obtain⟨S0,B0,c0,d0,hrg,hz0⟩:=hTm.at_ hbm (k:=2) dE;refine z4 50 (.pointer (some ⟨bm,0 + 2 * 6,none⟩)) (hd 23 (zz kR)) nu ?_;exact oV (zW U55 rfl rfl hrg xw) ⟨_,_,_,_,_,rfl,hz0⟩
  | 25,_,hoq=>
   cases sI hoq;exact vk [1,0,1,1,3] rfl U69 qj qz
  | 26,_,hoq=>
   cases sI hoq;exact vk [8,4,2] rfl U69 qj qz
  | 27,_,hoq=>
   cases sI hoq;exact vk [3] rfl U69 qj qz
  | 28,_,hoq=>
   cases sI hoq;exact vk [11,4,2] rfl U69 qj qz
  | 29,_,hoq=>
   cases sI hoq;obtain⟨b52,e52,hin52⟩:=hd 25 (zz kR);obtain⟨b53,e53,hin53⟩:=hd 26 (zz kR);obtain⟨b54,e54,hin54⟩:=hd 27 (zz kR);obtain⟨b55,e55,hin55⟩:=hd 28 (zz kR);refine z4 52 (.slice (some ⟨b52,0,none⟩) 5 5) e52 nu (z4 53 (.slice (some ⟨b53,0,none⟩) 3 3) e53 nu (z4 54 (.slice (some ⟨b54,0,none⟩) 1 1) e54 nu (z4 55 (.slice (some ⟨b55,0,none⟩) 3 3) e55 nu ?_)));refine jx (fun ops Q K=>?_);refine qJ (cs:=#[_,_,_,_]) [(0,.slice _ _ _),(1,.slice _ _ _),(2,.slice _ _ _),(3,.slice _ _ _)] rfl U74 xW xk dE dE kR rfl (fun b56 w3 hb56 hs hr=>?_);exact K _ _ ⟨hs,⟨_,rfl,x6 (rs:=[[1,0,1,1,3],[8,4,2],[3],[11,4,2]]) hb56 (.cons ⟨_,_,rfl,(hin52.mono hs.bel),by decide,by decide⟩ (.cons ⟨_,_,rfl,(hin53.mono hs.bel),by decide,by decide⟩ (.cons ⟨_,_,rfl,(hin54.mono hs.bel),by decide,by decide⟩ (.cons ⟨_,_,rfl,(hin55.mono hs.bel),by decide,by decide⟩ .nil)))) dE⟩,fR hr hb56.lt⟩
  | 30,_,hoq=>
   cases sI hoq;obtain⟨b56,e56,hrw56⟩:=hd 29 (zz kR);refine z4 56 (.slice (some ⟨b56,0,none⟩) 4 4) e56 nu ?_;refine qx T1 (uq _ _ [[1,0,1,1,3],[8,4,2],[3],[11,4,2]] wx hrw56) rfl (fun e' w2 hr=>?_);obtain⟨⟨G9,c9,rfl,hy9⟩,hs⟩:=hr;exact⟨_,rfl,sB hs,⟨G9,c9,_,rfl,hy9⟩,zX⟩
  | 31,_,hoq=>
   cases sI hoq;obtain⟨S51,c51,B51,m51,n51,e51,hz51⟩:=hd 24 (zz kR);obtain⟨G57,c57,n57,e57,hy57⟩:=hd 30 (zz kR);refine z4 51 (.agg #[.int .i64 ((y8[2]'dE)).tm.kind,.string ((y8[2]'dE)).tm.name,.int .i64 ((y8[2]'dE)).tm.index,.string ((y8[2]'dE)).tm.type.base,.slice S51 ((y8[2]'dE)).tm.type.args.length c51,.slice B51 ((y8[2]'dE)).tm.args.length m51]) e51 nu (z4 57 (.agg #[.slice G57 4 c57]) e57 nu ?_);exact oV (r_bd4 (v0:= .string _) (v1:= .int _ _) (v2:= .agg _) (v3:= .agg _) (fun v0 v1 v2 v3=>#[v0,(qX v3 0),v1,.int .i64 0,(qX v2 0),(qX v2 1),(qX v2 2),(qX v2 3),(qX v2 4),(qX v2 5)]) rfl rfl rfl rfl kR) ⟨_,_,_,_,_,_,_,_,rfl,hy57,hz51⟩
  | 32,_,hoq=>
   cases sI hoq;exact oV (x9 (v:= .slice _ _ _) rfl) rfl
  | 33,_,hoq=>
   cases sI hoq;refine z4 59 (.slice (some ⟨bm,0,none⟩) 6 6) (hd 32 (zz kR)) nu ?_;exact oV (yQ (i:=3) U53 xw rfl rfl dE rfl) rfl
  | 34,_,hoq=>
   cases sI hoq;replace hbm:=hbm.tr0 hs;replace hTm:=hTm.tr0 hs;obtain⟨S0,B0,c0,d0,hrg,hz0⟩:=hTm.at_ hbm (k:=3) dE;refine z4 60 (.pointer (some ⟨bm,0 + 3 * 6,none⟩)) (hd 33 (zz kR)) nu ?_;exact oV (zW U55 rfl rfl hrg xw) ⟨_,_,_,_,_,rfl,hz0⟩
  | 35,_,hoq=>
   cases sI hoq;exact vk [1,0,1,1,3,2,4] rfl U69 qj qz
  | 36,_,hoq=>
   cases sI hoq;exact vk [8,4,2] rfl U69 qj qz
  | 37,_,hoq=>
   cases sI hoq;exact vk [3] rfl U69 qj qz
  | 38,_,hoq=>
   cases sI hoq;exact vk [12,4,2] rfl U69 qj qz
  | 39,_,hoq=>
   cases sI hoq;exact vk [7] rfl U69 qj qz
  | 40,_,hoq=>
   cases sI hoq;obtain⟨b62,e62,hin62⟩:=hd 35 (zz kR);obtain⟨b63,e63,hin63⟩:=hd 36 (zz kR);obtain⟨b64,e64,hin64⟩:=hd 37 (zz kR);obtain⟨b65,e65,hin65⟩:=hd 38 (zz kR);obtain⟨b66,e66,hin66⟩:=hd 39 (zz kR);refine z4 62 (.slice (some ⟨b62,0,none⟩) 7 7) e62 nu (z4 63 (.slice (some ⟨b63,0,none⟩) 3 3) e63 nu (z4 64 (.slice (some ⟨b64,0,none⟩) 1 1) e64 nu (z4 65 (.slice (some ⟨b65,0,none⟩) 3 3) e65 nu (z4 66 (.slice (some ⟨b66,0,none⟩) 1 1) e66 nu ?_))));refine jx (fun ops Q K=>?_);refine qJ (cs:=#[_,_,_,_,_]) [(0,.slice _ _ _),(1,.slice _ _ _),(2,.slice _ _ _),(3,.slice _ _ _),(4,.slice _ _ _)] rfl U74 xW xk dE dE kR rfl (fun b67 w4 hb67 hs hr=>?_);exact K _ _ ⟨hs,⟨_,rfl,x6 (rs:=[[1,0,1,1,3,2,4],[8,4,2],[3],[12,4,2],[7]]) hb67 (.cons ⟨_,_,rfl,(hin62.mono hs.bel),by decide,by decide⟩ (.cons ⟨_,_,rfl,(hin63.mono hs.bel),by decide,by decide⟩ (.cons ⟨_,_,rfl,(hin64.mono hs.bel),by decide,by decide⟩ (.cons ⟨_,_,rfl,(hin65.mono hs.bel),by decide,by decide⟩ (.cons ⟨_,_,rfl,(hin66.mono hs.bel),by decide,by decide⟩ .nil))))) dE⟩,fR hr hb67.lt⟩
  | 41,_,hoq=>
   cases sI hoq;obtain⟨b67,e67,hrw67⟩:=hd 40 (zz kR);refine z4 67 (.slice (some ⟨b67,0,none⟩) 5 5) e67 nu ?_;refine qx T1 (uq _ _ [[1,0,1,1,3,2,4],[8,4,2],[3],[12,4,2],[7]] wx hrw67) rfl (fun e' w2 hr=>?_);obtain⟨⟨G9,c9,rfl,hy9⟩,hs⟩:=hr;exact⟨_,rfl,sB hs,⟨G9,c9,_,rfl,hy9⟩,zX⟩
  | 42,_,hoq=>
   cases sI hoq;obtain⟨S61,c61,B61,m61,n61,e61,hz61⟩:=hd 34 (zz kR);obtain⟨G68,c68,n68,e68,hy68⟩:=hd 41 (zz kR);refine z4 61 (.agg #[.int .i64 ((y8[3]'dE)).tm.kind,.string ((y8[3]'dE)).tm.name,.int .i64 ((y8[3]'dE)).tm.index,.string ((y8[3]'dE)).tm.type.base,.slice S61 ((y8[3]'dE)).tm.type.args.length c61,.slice B61 ((y8[3]'dE)).tm.args.length m61]) e61 nu (z4 68 (.agg #[.slice G68 5 c68]) e68 nu ?_);exact oV (S5 (v0:= .string _) (v1:= .int _ _) (v2:= .int _ _) (v3:= .agg _) (v4:= .agg _) (fun v0 v1 v2 v3 v4=>#[v0,(qX v4 0),v1,v2,(qX v3 0),(qX v3 1),(qX v3 2),(qX v3 3),(qX v3 4),(qX v3 5)]) rfl rfl rfl rfl rfl kR) ⟨_,_,_,_,_,_,_,_,rfl,hy68,hz61⟩
  | 43,_,hoq=>
   cases sI hoq;exact oV (x9 (v:= .slice _ _ _) rfl) rfl
  | 44,_,hoq=>
   cases sI hoq;refine z4 70 (.slice (some ⟨bm,0,none⟩) 6 6) (hd 43 (zz kR)) nu ?_;exact oV (yQ (i:=4) U53 xw rfl rfl dE rfl) rfl
  | 45,_,hoq=>
   cases sI hoq;replace hbm:=hbm.tr0 hs;replace hTm:=hTm.tr0 hs;obtain⟨S0,B0,c0,d0,hrg,hz0⟩:=hTm.at_ hbm (k:=4) dE;refine z4 71 (.pointer (some ⟨bm,0 + 4 * 6,none⟩)) (hd 44 (zz kR)) nu ?_;exact oV (zW U55 rfl rfl hrg xw) ⟨_,_,_,_,_,rfl,hz0⟩
  | 46,_,hoq=>
   cases sI hoq;exact vk [1,0,1,1,3,2,4] rfl U69 qj qz
  | 47,_,hoq=>
   cases sI hoq;exact vk [8,4,2] rfl U69 qj qz
  | 48,_,hoq=>
   cases sI hoq;exact vk [3] rfl U69 qj qz
  | 49,_,hoq=>
   cases sI hoq;exact vk [13] rfl U69 qj qz
  | 50,_,hoq=>
   cases sI hoq;exact vk [8,4,2] rfl U69 qj qz
  | 51,_,hoq=>
   cases sI hoq;obtain⟨b73,e73,hin73⟩:=hd 46 (zz kR);obtain⟨b74,e74,hin74⟩:=hd 47 (zz kR);obtain⟨b75,e75,hin75⟩:=hd 48 (zz kR);obtain⟨b76,e76,hin76⟩:=hd 49 (zz kR);obtain⟨b77,e77,hin77⟩:=hd 50 (zz kR);refine z4 73 (.slice (some ⟨b73,0,none⟩) 7 7) e73 nu (z4 74 (.slice (some ⟨b74,0,none⟩) 3 3) e74 nu (z4 75 (.slice (some ⟨b75,0,none⟩) 1 1) e75 nu (z4 76 (.slice (some ⟨b76,0,none⟩) 1 1) e76 nu (z4 77 (.slice (some ⟨b77,0,none⟩) 3 3) e77 nu ?_))));refine jx (fun ops Q K=>?_);refine qJ (cs:=#[_,_,_,_,_]) [(0,.slice _ _ _),(1,.slice _ _ _),(2,.slice _ _ _),(3,.slice _ _ _),(4,.slice _ _ _)] rfl U74 xW xk dE dE kR rfl (fun b78 w5 hb78 hs hr=>?_);exact K _ _ ⟨hs,⟨_,rfl,x6 (rs:=[[1,0,1,1,3,2,4],[8,4,2],[3],[13],[8,4,2]]) hb78 (.cons ⟨_,_,rfl,(hin73.mono hs.bel),by decide,by decide⟩ (.cons ⟨_,_,rfl,(hin74.mono hs.bel),by decide,by decide⟩ (.cons ⟨_,_,rfl,(hin75.mono hs.bel),by decide,by decide⟩ (.cons ⟨_,_,rfl,(hin76.mono hs.bel),by decide,by decide⟩ (.cons ⟨_,_,rfl,(hin77.mono hs.bel),by decide,by decide⟩ .nil))))) dE⟩,fR hr hb78.lt⟩
  | 52,_,hoq=>
   cases sI hoq;obtain⟨b78,e78,hrw78⟩:=hd 51 (zz kR);refine z4 78 (.slice (some ⟨b78,0,none⟩) 5 5) e78 nu ?_;refine qx T1 (uq _ _ [[1,0,1,1,3,2,4],[8,4,2],[3],[13],[8,4,2]] wx hrw78) rfl (fun e' w2 hr=>?_);obtain⟨⟨G9,c9,rfl,hy9⟩,hs⟩:=hr;exact⟨_,rfl,sB hs,⟨G9,c9,_,rfl,hy9⟩,zX⟩
  | 53,_,hoq=>
   cases sI hoq;obtain⟨S72,c72,B72,m72,n72,e72,hz72⟩:=hd 45 (zz kR);obtain⟨G79,c79,n79,e79,hy79⟩:=hd 52 (zz kR);refine z4 72 (.agg #[.int .i64 ((y8[4]'dE)).tm.kind,.string ((y8[4]'dE)).tm.name,.int .i64 ((y8[4]'dE)).tm.index,.string ((y8[4]'dE)).tm.type.base,.slice S72 ((y8[4]'dE)).tm.type.args.length c72,.slice B72 ((y8[4]'dE)).tm.args.length m72]) e72 nu (z4 79 (.agg #[.slice G79 5 c79]) e79 nu ?_);exact oV (S5 (v0:= .string _) (v1:= .int _ _) (v2:= .int _ _) (v3:= .agg _) (v4:= .agg _) (fun v0 v1 v2 v3 v4=>#[v0,(qX v4 0),v1,v2,(qX v3 0),(qX v3 1),(qX v3 2),(qX v3 3),(qX v3 4),(qX v3 5)]) rfl rfl rfl rfl rfl kR) ⟨_,_,_,_,_,_,_,_,rfl,hy79,hz72⟩
  | 54,_,hoq=>
   cases sI hoq;exact oV (x9 (v:= .slice _ _ _) rfl) rfl
  | 55,_,hoq=>
   cases sI hoq;refine z4 81 (.slice (some ⟨bm,0,none⟩) 6 6) (hd 54 (zz kR)) nu ?_;exact oV (yQ (i:=5) U53 xw rfl rfl dE rfl) rfl
  | 56,_,hoq=>
   cases sI hoq;replace hbm:=hbm.tr0 hs;replace hTm:=hTm.tr0 hs;obtain⟨S0,B0,c0,d0,hrg,hz0⟩:=hTm.at_ hbm (k:=5) dE;refine z4 82 (.pointer (some ⟨bm,0 + 5 * 6,none⟩)) (hd 55 (zz kR)) nu ?_;exact oV (zW U55 rfl rfl hrg xw) ⟨_,_,_,_,_,rfl,hz0⟩
  | 57,_,hoq=>
   cases sI hoq;exact vk [1,0,1,1,3,2,4,3,5] rfl U69 qj qz
  | 58,_,hoq=>
   cases sI hoq;exact vk [7,4,2] rfl U69 qj qz
  | 59,_,hoq=>
   cases sI hoq;exact vk [5] rfl U69 qj qz
  | 60,_,hoq=>
   cases sI hoq;exact vk [7] rfl U69 qj qz
  | 61,_,hoq=>
   cases sI hoq;exact vk [14] rfl U69 qj qz
  | 62,_,hoq=>
   cases sI hoq;exact vk [7] rfl U69 qj qz
  | 63,_,hoq=>
   cases sI hoq;obtain⟨b84,e84,hin84⟩:=hd 57 (zz kR);obtain⟨b85,e85,hin85⟩:=hd 58 (zz kR);obtain⟨b86,e86,hin86⟩:=hd 59 (zz kR);obtain⟨b87,e87,hin87⟩:=hd 60 (zz kR);obtain⟨b88,e88,hin88⟩:=hd 61 (zz kR);obtain⟨b89,e89,hin89⟩:=hd 62 (zz kR);refine z4 84 (.slice (some ⟨b84,0,none⟩) 9 9) e84 nu (z4 85 (.slice (some ⟨b85,0,none⟩) 3 3) e85 nu (z4 86 (.slice (some ⟨b86,0,none⟩) 1 1) e86 nu (z4 87 (.slice (some ⟨b87,0,none⟩) 1 1) e87 nu (z4 88 (.slice (some ⟨b88,0,none⟩) 1 1) e88 nu (z4 89 (.slice (some ⟨b89,0,none⟩) 1 1) e89 nu ?_)))));refine jx (fun ops Q K=>?_);refine qJ (cs:=#[_,_,_,_,_,_]) [(0,.slice _ _ _),(1,.slice _ _ _),(2,.slice _ _ _),(3,.slice _ _ _),(4,.slice _ _ _),(5,.slice _ _ _)] rfl U74 xW xk dE dE kR rfl (fun b90 w6 hb90 hs hr=>?_);exact K _ _ ⟨hs,⟨_,rfl,x6 (rs:=[[1,0,1,1,3,2,4,3,5],[7,4,2],[5],[7],[14],[7]]) hb90 (.cons ⟨_,_,rfl,(hin84.mono hs.bel),by decide,by decide⟩ (.cons ⟨_,_,rfl,(hin85.mono hs.bel),by decide,by decide⟩ (.cons ⟨_,_,rfl,(hin86.mono hs.bel),by decide,by decide⟩ (.cons ⟨_,_,rfl,(hin87.mono hs.bel),by decide,by decide⟩ (.cons ⟨_,_,rfl,(hin88.mono hs.bel),by decide,by decide⟩ (.cons ⟨_,_,rfl,(hin89.mono hs.bel),by decide,by decide⟩ .nil)))))) dE⟩,fR hr hb90.lt⟩
  | 64,_,hoq=>
   cases sI hoq;obtain⟨b90,e90,hrw90⟩:=hd 63 (zz kR);refine z4 90 (.slice (some ⟨b90,0,none⟩) 6 6) e90 nu ?_;refine qx T1 (uq _ _ [[1,0,1,1,3,2,4,3,5],[7,4,2],[5],[7],[14],[7]] wx hrw90) rfl (fun e' w2 hr=>?_);obtain⟨⟨G9,c9,rfl,hy9⟩,hs⟩:=hr;exact⟨_,rfl,sB hs,⟨G9,c9,_,rfl,hy9⟩,zX⟩
  | 65,_,hoq=>
   cases sI hoq;obtain⟨S83,c83,B83,m83,n83,e83,hz83⟩:=hd 56 (zz kR);obtain⟨G91,c91,n91,e91,hy91⟩:=hd 64 (zz kR);refine z4 83 (.agg #[.int .i64 ((y8[5]'dE)).tm.kind,.string ((y8[5]'dE)).tm.name,.int .i64 ((y8[5]'dE)).tm.index,.string ((y8[5]'dE)).tm.type.base,.slice S83 ((y8[5]'dE)).tm.type.args.length c83,.slice B83 ((y8[5]'dE)).tm.args.length m83]) e83 nu (z4 91 (.agg #[.slice G91 6 c91]) e91 nu ?_);exact oV (S5 (v0:= .string _) (v1:= .int _ _) (v2:= .int _ _) (v3:= .agg _) (v4:= .agg _) (fun v0 v1 v2 v3 v4=>#[v0,(qX v4 0),v1,v2,(qX v3 0),(qX v3 1),(qX v3 2),(qX v3 3),(qX v3 4),(qX v3 5)]) rfl rfl rfl rfl rfl kR) ⟨_,_,_,_,_,_,_,_,rfl,hy91,hz83⟩
  | 66,_,hoq=>
   cases sI hoq;have hs0:=hs;obtain⟨G37,c37,n37,S37,d37,B37,f37,m37,e37,hy37,hz37⟩:=hd 10 (zz kR);obtain⟨G48,c48,n48,S48,d48,B48,f48,m48,e48,hy48,hz48⟩:=hd 21 (zz kR);obtain⟨G58,c58,n58,S58,d58,B58,f58,m58,e58,hy58,hz58⟩:=hd 31 (zz kR);obtain⟨G69,c69,n69,S69,d69,B69,f69,m69,e69,hy69,hz69⟩:=hd 42 (zz kR);obtain⟨G80,c80,n80,S80,d80,B80,f80,m80,e80,hy80,hz80⟩:=hd 53 (zz kR);obtain⟨G92,c92,n92,S92,d92,B92,f92,m92,e92,hy92,hz92⟩:=hd 65 (zz kR);refine z4 37 (.agg #[.string smallR0.name,.slice G37 smallR0.rows.length c37,.int .i64 smallR0.kids,.int .i64 smallR0.wt,.int .i64 (smallR0.mean).tm.kind,.string (smallR0.mean).tm.name,.int .i64 (smallR0.mean).tm.index,.string (smallR0.mean).tm.type.base,.slice S37 (smallR0.mean).tm.type.args.length d37,.slice B37 (smallR0.mean).tm.args.length f37]) e37 nu (z4 48 (.agg #[.string smallR1.name,.slice G48 smallR1.rows.length c48,.int .i64 smallR1.kids,.int .i64 smallR1.wt,.int .i64 (smallR1.mean).tm.kind,.string (smallR1.mean).tm.name,.int .i64 (smallR1.mean).tm.index,.string (smallR1.mean).tm.type.base,.slice S48 (smallR1.mean).tm.type.args.length d48,.slice B48 (smallR1.mean).tm.args.length f48]) e48 nu (z4 58 (.agg #[.string smallR2.name,.slice G58 smallR2.rows.length c58,.int .i64 smallR2.kids,.int .i64 smallR2.wt,.int .i64 (smallR2.mean).tm.kind,.string (smallR2.mean).tm.name,.int .i64 (smallR2.mean).tm.index,.string (smallR2.mean).tm.type.base,.slice S58 (smallR2.mean).tm.type.args.length d58,.slice B58 (smallR2.mean).tm.args.length f58]) e58 nu (z4 69 (.agg #[.string smallR3.name,.slice G69 smallR3.rows.length c69,.int .i64 smallR3.kids,.int .i64 smallR3.wt,.int .i64 (smallR3.mean).tm.kind,.string (smallR3.mean).tm.name,.int .i64 (smallR3.mean).tm.index,.string (smallR3.mean).tm.type.base,.slice S69 (smallR3.mean).tm.type.args.length d69,.slice B69 (smallR3.mean).tm.args.length f69]) e69 nu (z4 80 (.agg #[.string smallR4.name,.slice G80 smallR4.rows.length c80,.int .i64 smallR4.kids,.int .i64 smallR4.wt,.int .i64 (smallR4.mean).tm.kind,.string (smallR4.mean).tm.name,.int .i64 (smallR4.mean).tm.index,.string (smallR4.mean).tm.type.base,.slice S80 (smallR4.mean).tm.type.args.length d80,.slice B80 (smallR4.mean).tm.args.length f80]) e80 nu (z4 92 (.agg #[.string smallR5.name,.slice G92 smallR5.rows.length c92,.int .i64 smallR5.kids,.int .i64 smallR5.wt,.int .i64 (smallR5.mean).tm.kind,.string (smallR5.mean).tm.name,.int .i64 (smallR5.mean).tm.index,.string (smallR5.mean).tm.type.base,.slice S92 (smallR5.mean).tm.type.args.length d92,.slice B92 (smallR5.mean).tm.args.length f92]) e92 nu ?_)))))
   refine jx (fun ops Q K=>?_);refine qJ (cs:=#[_,_,_,_,_,_,_,_,_,_,_,_,_,_,_,_,_,_,_,_,_,_,_,_,_,_,_,_,_,_,_,_,_,_,_,_,_,_,_,_,_,_,_,_,_,_,_,_,_,_,_,_,_,_,_,_,_,_,_,_]) [(0,.agg _),(1,.agg _),(2,.agg _),(3,.agg _),(4,.agg _),(5,.agg _)] rfl U26 Lk L3 dE dE kR rfl (fun b93 w7 hb93 hs hr=>?_);exact K _ _ ⟨hs,⟨_,_,_,rfl,nLT hs0.size hr,hb93,(Fz.rcons (r:=smallR0) (hy37.tr0 hs) (hz37.tr0 hs) (Fz.rcons (r:=smallR1) (hy48.tr0 hs) (hz48.tr0 hs) (Fz.rcons (r:=smallR2) (hy58.tr0 hs) (hz58.tr0 hs) (Fz.rcons (r:=smallR3) (hy69.tr0 hs) (hz69.tr0 hs) (Fz.rcons (r:=smallR4) (hy80.tr0 hs) (hz80.tr0 hs) (Fz.rcons (r:=smallR5) (hy92.tr0 hs) (hz92.tr0 hs) (Fz.triv [] _ TS (fun _=>RlCs.nil))))))))⟩,fR hr hb93.lt⟩
  | _ + 67,hix,_=>exact absurd hix om
 intro gg w8 hs hR hdis;replace hZ:=hZ.trans (hs.weak (by simp));replace hb5:=hb5.tr0 hs;obtain⟨b93,cr,nRl,e93,lo93,hb93,hRl⟩:=hR 66 dE;have:=nLL z5 lo93;refine qK 93 (.slice (some ⟨b93,0,none⟩) 6 6) e93 nu (zn1 ?_);refine xY (v:= .slice _ _ _) hb5 rfl rfl Lv (by first | decide | simp) rfl rfl (fun w9 hq hs=>?_);replace hZ:=hZ.trans (hs.weak (by simp));replace hb93:=hb93.tr1 hs om;replace hRl:=hRl.sp1 hs hb5 (.inl dE);replace hb5:=hq;refine zZ ?_;refine e_R ⟨agA,?_⟩;exact⟨hZ,_,_,_,lo93,hb93,hRl,hb5⟩
end Go.Proofs.YtdkfnakncaggoaaGreatDoor
namespace Go.Proofs.YtdkfnakncaggoaaGreatDoor
open Go.RowKit
theorem Zj:zQ Tryz.prog 24=true:=by kernel_rfl
theorem fn25:zQ Tryz.prog 25=true:=by kernel_rfl
variable {w wc:World} {b0 b1 b2 b3 b4 b5 b23 b93 base capt c12 c15:Nat} {At A12 A15:Option Addr} {cr:Array Value}
set_option maxHeartbeats 1000000 in
theorem small_r9 (hI:SmSt smallT smallF smallR b0 b1 b2 b3 b4 b5 b23 b93 base capt c12 c15 At A12 A15 cr 0 IQ w wc) (f:Fr) (Q:Exit→Act→World→Prop) (k7:f 7= .func (.func 24) #[] #[.pointer (some ⟨b5,0,none⟩)]):WC Tryz.prog (sl (sr (sr (sr (sr (sr (sr (sr (sr (sr (ob Tryz.f6.body))))))))))) (QRS 256 [96,97,98,99,100,101] f (fun _ w'=>SmSt smallT smallF smallR b0 b1 b2 b3 b4 b5 b23 b93 base capt c12 c15 At A12 A15 cr 1 J8 w w') Q) 256 f wc:=by
 refine zJ 7 (.func (.func 24) #[] #[.pointer (some ⟨b5,0,none⟩)]) k7 nu (zn2 ?_);refine zV fn25 (quN_d ⟨#[97,108,108]⟩ ⟨#[105,102]⟩ _) rfl (fun e' w1 hr=>?_);obtain⟨⟨_,rfl,S97,c97,B97,m97,n97,rfl,hz97⟩,hs⟩:=hr;replace hs:=sB hs;replace hI:=hI.tr0 hs;refine⟨_,rfl,?_⟩;refine qJ (cs:=#[_,_,_]) [(0,.int _ _),(1,.int _ _),(2,.int _ _)] rfl U69 qj qz dE dE kR rfl (fun b98 w2 hb98 hs hr=>?_);replace hI:=hI.tr0 hs;replace hz97:=hz97.tr0 hs;refine qJ (cs:=#[_]) [(0,.int _ _)] rfl U69 qj qz dE dE kR rfl (fun b99 w3 hb99 hs hr=>?_);replace hI:=hI.tr0 hs;replace hz97:=hz97.tr0 hs;replace hb98:=hb98.tr0 hs;refine qJ (cs:=#[_,_]) [(0,.slice _ _ _),(1,.slice _ _ _)] rfl U74 xW xk dE dE kR rfl (fun b100 w4 hb100 hs hr=>?_);replace hI:=hI.tr0 hs;replace hz97:=hz97.tr0 hs;replace hb98:=hb98.tr0 hs;replace hb99:=hb99.tr0 hs;obtain⟨hC,A,cap,xs,nL,hb5,ho,hL⟩:=hI;refine xJ rfl Zj (kY ⟨#[101,118,101,114,121]⟩ 1 (quN ⟨#[97,108,108]⟩ ⟨#[105,102]⟩) _ _ _ _ _ _ [[10,4,1],[4]] _ _ base _ _ _ _ _ _ _ _ _ IQ _ dE (x6 (rs:=[[10,4,1],[4]]) hb100 (.cons ⟨_,_,rfl,(qv [10,4,1] hb98 dE),by decide,by decide⟩ (.cons ⟨_,_,rfl,(qv [4] hb99 dE),by decide,by decide⟩ .nil)) dE) hz97 hb5 ho hL hC.bs hC.l.1 dE) rfl rfl (fun e' w5 hr=>?_);obtain⟨rfl,A2,cap2,xs2,hb5n,hon,hL2,hS,hA2⟩:=hr;replace hC:=hC.add hS hb5 ho;refine⟨_,rfl,?_⟩;refine zZ ?_;refine e_R ⟨agA,?_⟩;exact⟨hC,_,_,_,_,hb5n,hon,hL2⟩
set_option maxHeartbeats 1000000 in
theorem Gy (hI:SmSt smallT smallF smallR b0 b1 b2 b3 b4 b5 b23 b93 base capt c12 c15 At A12 A15 cr 1 J8 w wc) (f:Fr) (Q:Exit→Act→World→Prop) (k7:f 7= .func (.func 24) #[] #[.pointer (some ⟨b5,0,none⟩)]):WC Tryz.prog (sl (sr (sr (sr (sr (sr (sr (sr (sr (sr (sr (ob Tryz.f6.body)))))))))))) (QRS 256 [102,103,104,105,106,107] f (fun _ w'=>SmSt smallT smallF smallR b0 b1 b2 b3 b4 b5 b23 b93 base capt c12 c15 At A12 A15 cr 2 J7 w w') Q) 256 f wc:=by
 refine zJ 7 (.func (.func 24) #[] #[.pointer (some ⟨b5,0,none⟩)]) k7 nu (zn2 ?_);refine zV fn25 (quN_d ⟨#[115,111,109,101]⟩ ⟨#[97,110,100]⟩ _) rfl (fun e' w1 hr=>?_);obtain⟨⟨_,rfl,S103,c103,B103,m103,n103,rfl,hz103⟩,hs⟩:=hr;replace hs:=sB hs;replace hI:=hI.tr0 hs;refine⟨_,rfl,?_⟩;refine qJ (cs:=#[_,_,_]) [(0,.int _ _),(1,.int _ _),(2,.int _ _)] rfl U69 qj qz dE dE kR rfl (fun b104 w2 hb104 hs hr=>?_);replace hI:=hI.tr0 hs;replace hz103:=hz103.tr0 hs;refine qJ (cs:=#[_]) [(0,.int _ _)] rfl U69 qj qz dE dE kR rfl (fun b105 w3 hb105 hs hr=>?_);replace hI:=hI.tr0 hs;replace hz103:=hz103.tr0 hs;replace hb104:=hb104.tr0 hs;refine qJ (cs:=#[_,_]) [(0,.slice _ _ _),(1,.slice _ _ _)] rfl U74 xW xk dE dE kR rfl (fun b106 w4 hb106 hs hr=>?_);replace hI:=hI.tr0 hs;replace hz103:=hz103.tr0 hs;replace hb104:=hb104.tr0 hs;replace hb105:=hb105.tr0 hs;obtain⟨hC,A,cap,xs,nL,hb5,ho,hL⟩:=hI;refine xJ rfl Zj (kY ⟨#[97]⟩ 0 (quN ⟨#[115,111,109,101]⟩ ⟨#[97,110,100]⟩) _ _ _ _ _ _ [[10,4,1],[4]] _ _ base _ _ _ _ _ _ _ _ _ J8 _ dE (x6 (rs:=[[10,4,1],[4]]) hb106 (.cons ⟨_,_,rfl,(qv [10,4,1] hb104 dE),by decide,by decide⟩ (.cons ⟨_,_,rfl,(qv [4] hb105 dE),by decide,by decide⟩ .nil)) dE) hz103 hb5 ho hL hC.bs hC.l.1 dE) rfl rfl (fun e' w5 hr=>?_);obtain⟨rfl,A2,cap2,xs2,hb5n,hon,hL2,hS,hA2⟩:=hr;replace hC:=hC.add hS hb5 ho;refine⟨_,rfl,?_⟩;refine zZ ?_;refine e_R ⟨agA,?_⟩;exact⟨hC,_,_,_,_,hb5n,hon,hL2⟩
set_option maxHeartbeats 1000000 in
theorem Gw (hI:SmSt smallT smallF smallR b0 b1 b2 b3 b4 b5 b23 b93 base capt c12 c15 At A12 A15 cr 2 J7 w wc) (f:Fr) (Q:Exit→Act→World→Prop) (k7:f 7= .func (.func 24) #[] #[.pointer (some ⟨b5,0,none⟩)]):WC Tryz.prog (sl (sr (sr (sr (sr (sr (sr (sr (sr (sr (sr (sr (ob Tryz.f6.body))))))))))))) (QRS 256 [108,109,110,111,112] f (fun _ w'=>SmSt smallT smallF smallR b0 b1 b2 b3 b4 b5 b23 b93 base capt c12 c15 At A12 A15 cr 3 J6 w w') Q) 256 f wc:=by
 refine zJ 7 (.func (.func 24) #[] #[.pointer (some ⟨b5,0,none⟩)]) k7 nu (zn2 ?_);refine zV fn25 (quY_d ⟨#[115,111,109,101]⟩ ⟨#[97,110,100]⟩ _) rfl (fun e' w1 hr=>?_);obtain⟨⟨_,rfl,S109,c109,B109,m109,n109,rfl,hz109⟩,hs⟩:=hr;replace hs:=sB hs;replace hI:=hI.tr0 hs;refine⟨_,rfl,?_⟩;refine qJ (cs:=#[_]) [(0,.int _ _)] rfl U69 qj qz dE dE kR rfl (fun b110 w2 hb110 hs hr=>?_);replace hI:=hI.tr0 hs;replace hz109:=hz109.tr0 hs;refine qJ (cs:=#[_]) [(0,.slice _ _ _)] rfl U74 xW xk dE dE kR rfl (fun b111 w3 hb111 hs hr=>?_);replace hI:=hI.tr0 hs;replace hz109:=hz109.tr0 hs;replace hb110:=hb110.tr0 hs;obtain⟨hC,A,cap,xs,nL,hb5,ho,hL⟩:=hI;refine xJ rfl Zj (kY ⟨#[110,111]⟩ 2 (quY ⟨#[115,111,109,101]⟩ ⟨#[97,110,100]⟩) _ _ _ _ _ _ [[10]] _ _ base _ _ _ _ _ _ _ _ _ J7 _ dE (x6 (rs:=[[10]]) hb111 (.cons ⟨_,_,rfl,(qv [10] hb110 dE),by decide,by decide⟩ .nil) dE) hz109 hb5 ho hL hC.bs hC.l.1 dE) rfl rfl (fun e' w4 hr=>?_);obtain⟨rfl,A2,cap2,xs2,hb5n,hon,hL2,hS,hA2⟩:=hr;replace hC:=hC.add hS hb5 ho;refine⟨_,rfl,?_⟩;refine zZ ?_;refine e_R ⟨agA,?_⟩;exact⟨hC,_,_,_,_,hb5n,hon,hL2⟩
set_option maxHeartbeats 1000000 in
theorem Gv (hI:SmSt smallT smallF smallR b0 b1 b2 b3 b4 b5 b23 b93 base capt c12 c15 At A12 A15 cr 3 J6 w wc) (f:Fr) (Q:Exit→Act→World→Prop) (k7:f 7= .func (.func 24) #[] #[.pointer (some ⟨b5,0,none⟩)]) (k3:f 3= .pointer (some ⟨b3,0,none⟩)):WC Tryz.prog (sl (sr (sr (sr (sr (sr (sr (sr (sr (sr (sr (sr (sr (ob Tryz.f6.body)))))))))))))) (QRS 256 [113,114,115,116,117,118,119] f (fun _ w'=>SmSt smallT smallF smallR b0 b1 b2 b3 b4 b5 b23 b93 base capt c12 c15 At A12 A15 cr 4 J5 w w') Q) 256 f wc:=by
 have hb3:=hI.1.k3;have hP12:=hI.1.p12;refine zJ 7 (.func (.func 24) #[] #[.pointer (some ⟨b5,0,none⟩)]) k7 nu (zJ 3 (.pointer (some ⟨b3,0,none⟩)) k3 nu (zn3 ?_));refine zV Zx (kW [] ⟨#[100,111,103]⟩ tyET _ _ _ _ hP12) rfl (fun e' w1 hr=>?_);obtain⟨⟨_,rfl,S115,c115,B115,m115,n115,rfl,hz115⟩,hs⟩:=hr;replace hs:=sB hs;replace hI:=hI.tr0 hs;replace hb3:=hb3.tr0 hs;refine⟨_,rfl,?_⟩;refine qJ (cs:=#[_,_,_]) [(0,.int _ _),(1,.int _ _),(2,.int _ _)] rfl U69 qj qz dE dE kR rfl (fun b116 w2 hb116 hs hr=>?_);replace hI:=hI.tr0 hs;replace hb3:=hb3.tr0 hs;replace hz115:=hz115.tr0 hs;refine qJ (cs:=#[_]) [(0,.int _ _)] rfl U69 qj qz dE dE kR rfl (fun b117 w3 hb117 hs hr=>?_);replace hI:=hI.tr0 hs;replace hb3:=hb3.tr0 hs;replace hz115:=hz115.tr0 hs;replace hb116:=hb116.tr0 hs;refine qJ (cs:=#[_,_]) [(0,.slice _ _ _),(1,.slice _ _ _)] rfl U74 xW xk dE dE kR rfl (fun b118 w4 hb118 hs hr=>?_);replace hI:=hI.tr0 hs;replace hz115:=hz115.tr0 hs;replace hb116:=hb116.tr0 hs;replace hb117:=hb117.tr0 hs;obtain⟨hC,A,cap,xs,nL,hb5,ho,hL⟩:=hI;refine xJ rfl Zj (kY ⟨#[100,111,103]⟩ 0 (Tv.con ⟨#[100,111,103]⟩ tyET) _ _ _ _ _ _ [[9,4,1],[4]] _ _ base _ _ _ _ _ _ _ _ _ J6 _ dE (x6 (rs:=[[9,4,1],[4]]) hb118 (.cons ⟨_,_,rfl,(qv [9,4,1] hb116 dE),by decide,by decide⟩ (.cons ⟨_,_,rfl,(qv [4] hb117 dE),by decide,by decide⟩ .nil)) dE) hz115 hb5 ho hL hC.bs hC.l.1 dE) rfl rfl (fun e' w5 hr=>?_);obtain⟨rfl,A2,cap2,xs2,hb5n,hon,hL2,hS,hA2⟩:=hr;replace hC:=hC.add hS hb5 ho;refine⟨_,rfl,?_⟩;refine zZ ?_;refine e_R ⟨agA,?_⟩;exact⟨hC,_,_,_,_,hb5n,hon,hL2⟩
set_option maxHeartbeats 1000000 in
theorem Gx (hI:SmSt smallT smallF smallR b0 b1 b2 b3 b4 b5 b23 b93 base capt c12 c15 At A12 A15 cr 4 J5 w wc) (f:Fr) (Q:Exit→Act→World→Prop) (k7:f 7= .func (.func 24) #[] #[.pointer (some ⟨b5,0,none⟩)]) (k3:f 3= .pointer (some ⟨b3,0,none⟩)):WC Tryz.prog (sl (sr (sr (sr (sr (sr (sr (sr (sr (sr (sr (sr (sr (sr (ob Tryz.f6.body))))))))))))))) (QRS 256 [120,121,122,123,124,125,126] f (fun _ w'=>SmSt smallT smallF smallR b0 b1 b2 b3 b4 b5 b23 b93 base capt c12 c15 At A12 A15 cr 5 J4 w w') Q) 256 f wc:=by
 have hb3:=hI.1.k3;have hP12:=hI.1.p12;refine zJ 7 (.func (.func 24) #[] #[.pointer (some ⟨b5,0,none⟩)]) k7 nu (zJ 3 (.pointer (some ⟨b3,0,none⟩)) k3 nu (zn3 ?_));refine zV Zx (kW [] ⟨#[100,111,103]⟩ tyET _ _ _ _ hP12) rfl (fun e' w1 hr=>?_);obtain⟨⟨_,rfl,S122,c122,B122,m122,n122,rfl,hz122⟩,hs⟩:=hr;replace hs:=sB hs;replace hI:=hI.tr0 hs;replace hb3:=hb3.tr0 hs;refine⟨_,rfl,?_⟩;refine qJ (cs:=#[_,_,_]) [(0,.int _ _),(1,.int _ _),(2,.int _ _)] rfl U69 qj qz dE dE kR rfl (fun b123 w2 hb123 hs hr=>?_);replace hI:=hI.tr0 hs;replace hb3:=hb3.tr0 hs;replace hz122:=hz122.tr0 hs;refine qJ (cs:=#[_]) [(0,.int _ _)] rfl U69 qj qz dE dE kR rfl (fun b124 w3 hb124 hs hr=>?_);replace hI:=hI.tr0 hs;replace hb3:=hb3.tr0 hs;replace hz122:=hz122.tr0 hs;replace hb123:=hb123.tr0 hs;refine qJ (cs:=#[_,_]) [(0,.slice _ _ _),(1,.slice _ _ _)] rfl U74 xW xk dE dE kR rfl (fun b125 w4 hb125 hs hr=>?_);replace hI:=hI.tr0 hs;replace hz122:=hz122.tr0 hs;replace hb123:=hb123.tr0 hs;replace hb124:=hb124.tr0 hs;obtain⟨hC,A,cap,xs,nL,hb5,ho,hL⟩:=hI;refine xJ rfl Zj (kY ⟨#[100,111,103,115]⟩ 0 (Tv.con ⟨#[100,111,103]⟩ tyET) _ _ _ _ _ _ [[9,4,1],[5]] _ _ base _ _ _ _ _ _ _ _ _ J5 _ dE (x6 (rs:=[[9,4,1],[5]]) hb125 (.cons ⟨_,_,rfl,(qv [9,4,1] hb123 dE),by decide,by decide⟩ (.cons ⟨_,_,rfl,(qv [5] hb124 dE),by decide,by decide⟩ .nil)) dE) hz122 hb5 ho hL hC.bs hC.l.1 dE) rfl rfl (fun e' w5 hr=>?_);obtain⟨rfl,A2,cap2,xs2,hb5n,hon,hL2,hS,hA2⟩:=hr;replace hC:=hC.add hS hb5 ho;refine⟨_,rfl,?_⟩;refine zZ ?_;refine e_R ⟨agA,?_⟩;exact⟨hC,_,_,_,_,hb5n,hon,hL2⟩
set_option maxHeartbeats 1000000 in
theorem Gq (hI:SmSt smallT smallF smallR b0 b1 b2 b3 b4 b5 b23 b93 base capt c12 c15 At A12 A15 cr 5 J4 w wc) (f:Fr) (Q:Exit→Act→World→Prop) (k7:f 7= .func (.func 24) #[] #[.pointer (some ⟨b5,0,none⟩)]) (k3:f 3= .pointer (some ⟨b3,0,none⟩)):WC Tryz.prog (sl (sr (sr (sr (sr (sr (sr (sr (sr (sr (sr (sr (sr (sr (sr (ob Tryz.f6.body)))))))))))))))) (QRS 256 [127,128,129,130,131,132,133] f (fun _ w'=>SmSt smallT smallF smallR b0 b1 b2 b3 b4 b5 b23 b93 base capt c12 c15 At A12 A15 cr 6 J3 w w') Q) 256 f wc:=by
 have hb3:=hI.1.k3;have hP12:=hI.1.p12;refine zJ 7 (.func (.func 24) #[] #[.pointer (some ⟨b5,0,none⟩)]) k7 nu (zJ 3 (.pointer (some ⟨b3,0,none⟩)) k3 nu (zn3 ?_));refine zV Zx (kW [] ⟨#[99,97,116]⟩ tyET _ _ _ _ hP12) rfl (fun e' w1 hr=>?_);obtain⟨⟨_,rfl,S129,c129,B129,m129,n129,rfl,hz129⟩,hs⟩:=hr;replace hs:=sB hs;replace hI:=hI.tr0 hs;replace hb3:=hb3.tr0 hs;refine⟨_,rfl,?_⟩;refine qJ (cs:=#[_,_,_]) [(0,.int _ _),(1,.int _ _),(2,.int _ _)] rfl U69 qj qz dE dE kR rfl (fun b130 w2 hb130 hs hr=>?_);replace hI:=hI.tr0 hs;replace hb3:=hb3.tr0 hs;replace hz129:=hz129.tr0 hs;refine qJ (cs:=#[_]) [(0,.int _ _)] rfl U69 qj qz dE dE kR rfl (fun b131 w3 hb131 hs hr=>?_);replace hI:=hI.tr0 hs;replace hb3:=hb3.tr0 hs;replace hz129:=hz129.tr0 hs;replace hb130:=hb130.tr0 hs;refine qJ (cs:=#[_,_]) [(0,.slice _ _ _),(1,.slice _ _ _)] rfl U74 xW xk dE dE kR rfl (fun b132 w4 hb132 hs hr=>?_);replace hI:=hI.tr0 hs;replace hz129:=hz129.tr0 hs;replace hb130:=hb130.tr0 hs;replace hb131:=hb131.tr0 hs;obtain⟨hC,A,cap,xs,nL,hb5,ho,hL⟩:=hI;refine xJ rfl Zj (kY ⟨#[99,97,116]⟩ 0 (Tv.con ⟨#[99,97,116]⟩ tyET) _ _ _ _ _ _ [[9,4,1],[4]] _ _ base _ _ _ _ _ _ _ _ _ J4 _ dE (x6 (rs:=[[9,4,1],[4]]) hb132 (.cons ⟨_,_,rfl,(qv [9,4,1] hb130 dE),by decide,by decide⟩ (.cons ⟨_,_,rfl,(qv [4] hb131 dE),by decide,by decide⟩ .nil)) dE) hz129 hb5 ho hL hC.bs hC.l.1 dE) rfl rfl (fun e' w5 hr=>?_);obtain⟨rfl,A2,cap2,xs2,hb5n,hon,hL2,hS,hA2⟩:=hr;replace hC:=hC.add hS hb5 ho;refine⟨_,rfl,?_⟩;refine zZ ?_;refine e_R ⟨agA,?_⟩;exact⟨hC,_,_,_,_,hb5n,hon,hL2⟩
set_option maxHeartbeats 1000000 in
theorem Gz (hI:SmSt smallT smallF smallR b0 b1 b2 b3 b4 b5 b23 b93 base capt c12 c15 At A12 A15 cr 6 J3 w wc) (f:Fr) (Q:Exit→Act→World→Prop) (k7:f 7= .func (.func 24) #[] #[.pointer (some ⟨b5,0,none⟩)]) (k3:f 3= .pointer (some ⟨b3,0,none⟩)):WC Tryz.prog (sl (sr (sr (sr (sr (sr (sr (sr (sr (sr (sr (sr (sr (sr (sr (sr (ob Tryz.f6.body))))))))))))))))) (QRS 256 [134,135,136,137,138,139,140] f (fun _ w'=>SmSt smallT smallF smallR b0 b1 b2 b3 b4 b5 b23 b93 base capt c12 c15 At A12 A15 cr 7 J2 w w') Q) 256 f wc:=by
 have hb3:=hI.1.k3;have hP12:=hI.1.p12;refine zJ 7 (.func (.func 24) #[] #[.pointer (some ⟨b5,0,none⟩)]) k7 nu (zJ 3 (.pointer (some ⟨b3,0,none⟩)) k3 nu (zn3 ?_));refine zV Zx (kW [] ⟨#[99,97,116]⟩ tyET _ _ _ _ hP12) rfl (fun e' w1 hr=>?_);obtain⟨⟨_,rfl,S136,c136,B136,m136,n136,rfl,hz136⟩,hs⟩:=hr;replace hs:=sB hs;replace hI:=hI.tr0 hs;replace hb3:=hb3.tr0 hs;refine⟨_,rfl,?_⟩;refine qJ (cs:=#[_,_,_]) [(0,.int _ _),(1,.int _ _),(2,.int _ _)] rfl U69 qj qz dE dE kR rfl (fun b137 w2 hb137 hs hr=>?_);replace hI:=hI.tr0 hs;replace hb3:=hb3.tr0 hs;replace hz136:=hz136.tr0 hs;refine qJ (cs:=#[_]) [(0,.int _ _)] rfl U69 qj qz dE dE kR rfl (fun b138 w3 hb138 hs hr=>?_);replace hI:=hI.tr0 hs;replace hb3:=hb3.tr0 hs;replace hz136:=hz136.tr0 hs;replace hb137:=hb137.tr0 hs;refine qJ (cs:=#[_,_]) [(0,.slice _ _ _),(1,.slice _ _ _)] rfl U74 xW xk dE dE kR rfl (fun b139 w4 hb139 hs hr=>?_);replace hI:=hI.tr0 hs;replace hz136:=hz136.tr0 hs;replace hb137:=hb137.tr0 hs;replace hb138:=hb138.tr0 hs;obtain⟨hC,A,cap,xs,nL,hb5,ho,hL⟩:=hI;refine xJ rfl Zj (kY ⟨#[99,97,116,115]⟩ 0 (Tv.con ⟨#[99,97,116]⟩ tyET) _ _ _ _ _ _ [[9,4,1],[5]] _ _ base _ _ _ _ _ _ _ _ _ J3 _ dE (x6 (rs:=[[9,4,1],[5]]) hb139 (.cons ⟨_,_,rfl,(qv [9,4,1] hb137 dE),by decide,by decide⟩ (.cons ⟨_,_,rfl,(qv [5] hb138 dE),by decide,by decide⟩ .nil)) dE) hz136 hb5 ho hL hC.bs hC.l.1 dE) rfl rfl (fun e' w5 hr=>?_);obtain⟨rfl,A2,cap2,xs2,hb5n,hon,hL2,hS,hA2⟩:=hr;replace hC:=hC.add hS hb5 ho;refine⟨_,rfl,?_⟩;refine zZ ?_;refine e_R ⟨agA,?_⟩;exact⟨hC,_,_,_,_,hb5n,hon,hL2⟩
set_option maxHeartbeats 1000000 in
theorem G8 (hI:SmSt smallT smallF smallR b0 b1 b2 b3 b4 b5 b23 b93 base capt c12 c15 At A12 A15 cr 7 J2 w wc) (f:Fr) (Q:Exit→Act→World→Prop) (k7:f 7= .func (.func 24) #[] #[.pointer (some ⟨b5,0,none⟩)]) (k3:f 3= .pointer (some ⟨b3,0,none⟩)):WC Tryz.prog (sl (sr (sr (sr (sr (sr (sr (sr (sr (sr (sr (sr (sr (sr (sr (sr (sr (ob Tryz.f6.body)))))))))))))))))) (QRS 256 [141,142,143,144,145,146,147] f (fun _ w'=>SmSt smallT smallF smallR b0 b1 b2 b3 b4 b5 b23 b93 base capt c12 c15 At A12 A15 cr 8 J1 w w') Q) 256 f wc:=by
 have hb3:=hI.1.k3;have hP12:=hI.1.p12;refine zJ 7 (.func (.func 24) #[] #[.pointer (some ⟨b5,0,none⟩)]) k7 nu (zJ 3 (.pointer (some ⟨b3,0,none⟩)) k3 nu (zn3 ?_));refine zV Zx (kW [] ⟨#[102,105,115,104]⟩ tyET _ _ _ _ hP12) rfl (fun e' w1 hr=>?_);obtain⟨⟨_,rfl,S143,c143,B143,m143,n143,rfl,hz143⟩,hs⟩:=hr;replace hs:=sB hs;replace hI:=hI.tr0 hs;replace hb3:=hb3.tr0 hs;refine⟨_,rfl,?_⟩;refine qJ (cs:=#[_,_,_]) [(0,.int _ _),(1,.int _ _),(2,.int _ _)] rfl U69 qj qz dE dE kR rfl (fun b144 w2 hb144 hs hr=>?_);replace hI:=hI.tr0 hs;replace hb3:=hb3.tr0 hs;replace hz143:=hz143.tr0 hs;refine qJ (cs:=#[_]) [(0,.int _ _)] rfl U69 qj qz dE dE kR rfl (fun b145 w3 hb145 hs hr=>?_);replace hI:=hI.tr0 hs;replace hb3:=hb3.tr0 hs;replace hz143:=hz143.tr0 hs;replace hb144:=hb144.tr0 hs;refine qJ (cs:=#[_,_]) [(0,.slice _ _ _),(1,.slice _ _ _)] rfl U74 xW xk dE dE kR rfl (fun b146 w4 hb146 hs hr=>?_);replace hI:=hI.tr0 hs;replace hz143:=hz143.tr0 hs;replace hb144:=hb144.tr0 hs;replace hb145:=hb145.tr0 hs;obtain⟨hC,A,cap,xs,nL,hb5,ho,hL⟩:=hI;refine xJ rfl Zj (kY ⟨#[102,105,115,104]⟩ 1 (Tv.con ⟨#[102,105,115,104]⟩ tyET) _ _ _ _ _ _ [[9,4,1],[4]] _ _ base _ _ _ _ _ _ _ _ _ J2 _ dE (x6 (rs:=[[9,4,1],[4]]) hb146 (.cons ⟨_,_,rfl,(qv [9,4,1] hb144 dE),by decide,by decide⟩ (.cons ⟨_,_,rfl,(qv [4] hb145 dE),by decide,by decide⟩ .nil)) dE) hz143 hb5 ho hL hC.bs hC.l.1 dE) rfl rfl (fun e' w5 hr=>?_);obtain⟨rfl,A2,cap2,xs2,hb5n,hon,hL2,hS,hA2⟩:=hr;replace hC:=hC.add hS hb5 ho;refine⟨_,rfl,?_⟩;refine zZ ?_;refine e_R ⟨agA,?_⟩;exact⟨hC,_,_,_,_,hb5n,hon,hL2⟩
set_option maxHeartbeats 1000000 in
theorem G7 (hI:SmSt smallT smallF smallR b0 b1 b2 b3 b4 b5 b23 b93 base capt c12 c15 At A12 A15 cr 8 J1 w wc) (f:Fr) (Q:Exit→Act→World→Prop) (k7:f 7= .func (.func 24) #[] #[.pointer (some ⟨b5,0,none⟩)]) (k3:f 3= .pointer (some ⟨b3,0,none⟩)):WC Tryz.prog (sl (sr (sr (sr (sr (sr (sr (sr (sr (sr (sr (sr (sr (sr (sr (sr (sr (sr (ob Tryz.f6.body))))))))))))))))))) (QRS 256 [148,149,150,151,152,153,154] f (fun _ w'=>SmSt smallT smallF smallR b0 b1 b2 b3 b4 b5 b23 b93 base capt c12 c15 At A12 A15 cr 9 J0 w w') Q) 256 f wc:=by
 have hb3:=hI.1.k3;have hP12:=hI.1.p12;refine zJ 7 (.func (.func 24) #[] #[.pointer (some ⟨b5,0,none⟩)]) k7 nu (zJ 3 (.pointer (some ⟨b3,0,none⟩)) k3 nu (zn3 ?_));refine zV Zx (kW [] ⟨#[102,105,115,104]⟩ tyET _ _ _ _ hP12) rfl (fun e' w1 hr=>?_);obtain⟨⟨_,rfl,S150,c150,B150,m150,n150,rfl,hz150⟩,hs⟩:=hr;replace hs:=sB hs;replace hI:=hI.tr0 hs;replace hb3:=hb3.tr0 hs;refine⟨_,rfl,?_⟩;refine qJ (cs:=#[_,_,_]) [(0,.int _ _),(1,.int _ _),(2,.int _ _)] rfl U69 qj qz dE dE kR rfl (fun b151 w2 hb151 hs hr=>?_);replace hI:=hI.tr0 hs;replace hb3:=hb3.tr0 hs;replace hz150:=hz150.tr0 hs;refine qJ (cs:=#[_]) [(0,.int _ _)] rfl U69 qj qz dE dE kR rfl (fun b152 w3 hb152 hs hr=>?_);replace hI:=hI.tr0 hs;replace hb3:=hb3.tr0 hs;replace hz150:=hz150.tr0 hs;replace hb151:=hb151.tr0 hs;refine qJ (cs:=#[_,_]) [(0,.slice _ _ _),(1,.slice _ _ _)] rfl U74 xW xk dE dE kR rfl (fun b153 w4 hb153 hs hr=>?_);replace hI:=hI.tr0 hs;replace hz150:=hz150.tr0 hs;replace hb151:=hb151.tr0 hs;replace hb152:=hb152.tr0 hs;obtain⟨hC,A,cap,xs,nL,hb5,ho,hL⟩:=hI;refine xJ rfl Zj (kY ⟨#[102,105,115,104]⟩ 2 (Tv.con ⟨#[102,105,115,104]⟩ tyET) _ _ _ _ _ _ [[9,4,1],[5]] _ _ base _ _ _ _ _ _ _ _ _ J1 _ dE (x6 (rs:=[[9,4,1],[5]]) hb153 (.cons ⟨_,_,rfl,(qv [9,4,1] hb151 dE),by decide,by decide⟩ (.cons ⟨_,_,rfl,(qv [5] hb152 dE),by decide,by decide⟩ .nil)) dE) hz150 hb5 ho hL hC.bs hC.l.1 dE) rfl rfl (fun e' w5 hr=>?_);obtain⟨rfl,A2,cap2,xs2,hb5n,hon,hL2,hS,hA2⟩:=hr;replace hC:=hC.add hS hb5 ho;refine⟨_,rfl,?_⟩;refine zZ ?_;refine e_R ⟨agA,?_⟩;exact⟨hC,_,_,_,_,hb5n,hon,hL2⟩
set_option maxHeartbeats 1000000 in
theorem G6 (hI:SmSt smallT smallF smallR b0 b1 b2 b3 b4 b5 b23 b93 base capt c12 c15 At A12 A15 cr 9 J0 w wc) (f:Fr) (Q:Exit→Act→World→Prop) (k7:f 7= .func (.func 24) #[] #[.pointer (some ⟨b5,0,none⟩)]) (k3:f 3= .pointer (some ⟨b3,0,none⟩)):WC Tryz.prog (sl (sr (sr (sr (sr (sr (sr (sr (sr (sr (sr (sr (sr (sr (sr (sr (sr (sr (sr (ob Tryz.f6.body)))))))))))))))))))) (QRS 256 [155,156,157,158,159,160,161] f (fun _ w'=>SmSt smallT smallF smallR b0 b1 b2 b3 b4 b5 b23 b93 base capt c12 c15 At A12 A15 cr 10 XQ w w') Q) 256 f wc:=by
 have hb3:=hI.1.k3;have hP12:=hI.1.p12;refine zJ 7 (.func (.func 24) #[] #[.pointer (some ⟨b5,0,none⟩)]) k7 nu (zJ 3 (.pointer (some ⟨b3,0,none⟩)) k3 nu (zn3 ?_));refine zV Zx (kW [] ⟨#[98,97,114,107]⟩ tyET _ _ _ _ hP12) rfl (fun e' w1 hr=>?_);obtain⟨⟨_,rfl,S157,c157,B157,m157,n157,rfl,hz157⟩,hs⟩:=hr;replace hs:=sB hs;replace hI:=hI.tr0 hs;replace hb3:=hb3.tr0 hs;refine⟨_,rfl,?_⟩;refine qJ (cs:=#[_,_,_]) [(0,.int _ _),(1,.int _ _),(2,.int _ _)] rfl U69 qj qz dE dE kR rfl (fun b158 w2 hb158 hs hr=>?_);replace hI:=hI.tr0 hs;replace hb3:=hb3.tr0 hs;replace hz157:=hz157.tr0 hs;refine qJ (cs:=#[_]) [(0,.int _ _)] rfl U69 qj qz dE dE kR rfl (fun b159 w3 hb159 hs hr=>?_);replace hI:=hI.tr0 hs;replace hb3:=hb3.tr0 hs;replace hz157:=hz157.tr0 hs;replace hb158:=hb158.tr0 hs;refine qJ (cs:=#[_,_]) [(0,.slice _ _ _),(1,.slice _ _ _)] rfl U74 xW xk dE dE kR rfl (fun b160 w4 hb160 hs hr=>?_);replace hI:=hI.tr0 hs;replace hz157:=hz157.tr0 hs;replace hb158:=hb158.tr0 hs;replace hb159:=hb159.tr0 hs;obtain⟨hC,A,cap,xs,nL,hb5,ho,hL⟩:=hI;refine xJ rfl Zj (kY ⟨#[98,97,114,107,115]⟩ 0 (Tv.con ⟨#[98,97,114,107]⟩ tyET) _ _ _ _ _ _ [[11,4,1],[4]] _ _ base _ _ _ _ _ _ _ _ _ J0 _ dE (x6 (rs:=[[11,4,1],[4]]) hb160 (.cons ⟨_,_,rfl,(qv [11,4,1] hb158 dE),by decide,by decide⟩ (.cons ⟨_,_,rfl,(qv [4] hb159 dE),by decide,by decide⟩ .nil)) dE) hz157 hb5 ho hL hC.bs hC.l.1 dE) rfl rfl (fun e' w5 hr=>?_);obtain⟨rfl,A2,cap2,xs2,hb5n,hon,hL2,hS,hA2⟩:=hr;replace hC:=hC.add hS hb5 ho;refine⟨_,rfl,?_⟩;refine zZ ?_;refine e_R ⟨agA,?_⟩;exact⟨hC,_,_,_,_,hb5n,hon,hL2⟩
set_option maxHeartbeats 1000000 in
theorem G5 (hI:SmSt smallT smallF smallR b0 b1 b2 b3 b4 b5 b23 b93 base capt c12 c15 At A12 A15 cr 10 XQ w wc) (f:Fr) (Q:Exit→Act→World→Prop) (k7:f 7= .func (.func 24) #[] #[.pointer (some ⟨b5,0,none⟩)]) (k3:f 3= .pointer (some ⟨b3,0,none⟩)):WC Tryz.prog (sl (sr (sr (sr (sr (sr (sr (sr (sr (sr (sr (sr (sr (sr (sr (sr (sr (sr (sr (sr (ob Tryz.f6.body))))))))))))))))))))) (QRS 256 [162,163,164,165,166,167,168] f (fun _ w'=>SmSt smallT smallF smallR b0 b1 b2 b3 b4 b5 b23 b93 base capt c12 c15 At A12 A15 cr 11 XZ w w') Q) 256 f wc:=by
 have hb3:=hI.1.k3;have hP12:=hI.1.p12;refine zJ 7 (.func (.func 24) #[] #[.pointer (some ⟨b5,0,none⟩)]) k7 nu (zJ 3 (.pointer (some ⟨b3,0,none⟩)) k3 nu (zn3 ?_));refine zV Zx (kW [] ⟨#[98,97,114,107]⟩ tyET _ _ _ _ hP12) rfl (fun e' w1 hr=>?_);obtain⟨⟨_,rfl,S164,c164,B164,m164,n164,rfl,hz164⟩,hs⟩:=hr;replace hs:=sB hs;replace hI:=hI.tr0 hs;replace hb3:=hb3.tr0 hs;refine⟨_,rfl,?_⟩;refine qJ (cs:=#[_,_,_]) [(0,.int _ _),(1,.int _ _),(2,.int _ _)] rfl U69 qj qz dE dE kR rfl (fun b165 w2 hb165 hs hr=>?_);replace hI:=hI.tr0 hs;replace hb3:=hb3.tr0 hs;replace hz164:=hz164.tr0 hs;refine qJ (cs:=#[_]) [(0,.int _ _)] rfl U69 qj qz dE dE kR rfl (fun b166 w3 hb166 hs hr=>?_);replace hI:=hI.tr0 hs;replace hb3:=hb3.tr0 hs;replace hz164:=hz164.tr0 hs;replace hb165:=hb165.tr0 hs;refine qJ (cs:=#[_,_]) [(0,.slice _ _ _),(1,.slice _ _ _)] rfl U74 xW xk dE dE kR rfl (fun b167 w4 hb167 hs hr=>?_);replace hI:=hI.tr0 hs;replace hz164:=hz164.tr0 hs;replace hb165:=hb165.tr0 hs;replace hb166:=hb166.tr0 hs;obtain⟨hC,A,cap,xs,nL,hb5,ho,hL⟩:=hI;refine xJ rfl Zj (kY ⟨#[98,97,114,107]⟩ 0 (Tv.con ⟨#[98,97,114,107]⟩ tyET) _ _ _ _ _ _ [[11,4,1],[5]] _ _ base _ _ _ _ _ _ _ _ _ XQ _ dE (x6 (rs:=[[11,4,1],[5]]) hb167 (.cons ⟨_,_,rfl,(qv [11,4,1] hb165 dE),by decide,by decide⟩ (.cons ⟨_,_,rfl,(qv [5] hb166 dE),by decide,by decide⟩ .nil)) dE) hz164 hb5 ho hL hC.bs hC.l.1 dE) rfl rfl (fun e' w5 hr=>?_);obtain⟨rfl,A2,cap2,xs2,hb5n,hon,hL2,hS,hA2⟩:=hr;replace hC:=hC.add hS hb5 ho;refine⟨_,rfl,?_⟩;refine zZ ?_;refine e_R ⟨agA,?_⟩;exact⟨hC,_,_,_,_,hb5n,hon,hL2⟩
end Go.Proofs.YtdkfnakncaggoaaGreatDoor
