/- Regions of the function Twin, each at every world. Regions of the function Twin, each at every world. -/
import Derived.Test.YtfkbjncidemcbaaDoorU
import Derived.Test.YtfkbjncidemcbaaDoorDSm
namespace Go.Proofs.YtfkbjncidemcbaaDoor
open Go.RowKit
def twinN:List ByteArray:=[⟨#[116,111,112]⟩,⟨#[114,117,108,101]⟩,⟨#[115,105,103,110]⟩,⟨#[107,105,110,100]⟩,⟨#[102,105,114,115,116]⟩,⟨#[115,101,99,111,110,100]⟩,⟨#[115]⟩,⟨#[110,112]⟩,⟨#[118,112]⟩,⟨#[110]⟩,⟨#[100,101,116]⟩,⟨#[105,118]⟩,⟨#[116,118]⟩,⟨#[97,100,118]⟩,⟨#[99,111,110,106]⟩]
def twinP:List Int:=[0,0,0,0,3,3,2,2,2,2,2,2,2,2,2]
def twinF:List Ft:=[⟨⟨#[109,111,116,104,101,114]⟩,1,2⟩,⟨⟨#[111,110,101]⟩,1,2⟩,⟨⟨#[116,119,111]⟩,1,2⟩,⟨⟨#[116,104,114,101,101]⟩,1,2⟩,⟨⟨#[107,105,110,100]⟩,2,3⟩]
def twinT:List Ty:=Y0 twinN twinP 15
def twinR0:RlS:=⟨⟨#[115]⟩,[[1,0,1,1,2,2,3],[6],[8],[7]],2,0,(vQ[0]'dE)⟩
def twinR1:RlS:=⟨⟨#[110,112]⟩,[[1,0,1,1,2,2,4],[7],[9,4,3],[3],[10,4,3]],2,1,(vQ[1]'dE)⟩
def twinR2:RlS:=⟨⟨#[118,112,45,105,118]⟩,[[1,0,1,1,2],[8],[11]],1,0,(vQ[2]'dE)⟩
def twinR3:RlS:=⟨⟨#[118,112,45,116,118]⟩,[[1,0,1,1,2,2,3],[8],[7],[12]],2,2,(vQ[3]'dE)⟩
def twinR4:RlS:=⟨⟨#[118,112,45,110,111,116]⟩,[[1,0,1,1,2,2,3],[8],[13],[8]],2,3,(vQ[4]'dE)⟩
def twinR5:RlS:=⟨⟨#[110,112,45,97,110,100]⟩,[[1,0,1,1,2,2,3,3,4],[7],[7],[14],[7]],3,4,(vQ[5]'dE)⟩
def twinRs:List RlS:=[twinR0,twinR1,twinR2,twinR3,twinR4,twinR5]
def twinR:List Rl:=twinRs.map RlS.rl
def twinW0:LxS:=⟨⟨#[116,117,116]⟩,[[10,4,1],[4]],0,(quN ⟨#[97,108,108]⟩ ⟨#[105,102]⟩)⟩
def twinW1:LxS:=⟨⟨#[116,117,116,97]⟩,[[10,4,1],[5]],0,(quN ⟨#[97,108,108]⟩ ⟨#[105,102]⟩)⟩
def twinW2:LxS:=⟨⟨#[117,110]⟩,[[10,4,1],[4]],0,(quN ⟨#[115,111,109,101]⟩ ⟨#[97,110,100]⟩)⟩
def twinW3:LxS:=⟨⟨#[117,110,97]⟩,[[10,4,1],[5]],0,(quN ⟨#[115,111,109,101]⟩ ⟨#[97,110,100]⟩)⟩
def twinW4:LxS:=⟨⟨#[110,105,108]⟩,[[10]],0,(quY ⟨#[115,111,109,101]⟩ ⟨#[97,110,100]⟩)⟩
def twinW5:LxS:=⟨⟨#[107,97,110]⟩,[[9,4,1],[4]],0,(Tv.con ⟨#[100,111,103]⟩ tyET)⟩
def twinW6:LxS:=⟨⟨#[109,105,117]⟩,[[9,4,1],[5]],0,(Tv.con ⟨#[99,97,116]⟩ tyET)⟩
def twinW7:LxS:=⟨⟨#[112,105,115]⟩,[[9,4,1],[5]],0,(Tv.con ⟨#[102,105,115,104]⟩ tyET)⟩
def twinW8:LxS:=⟨⟨#[118,111,102]⟩,[[11]],0,(Tv.con ⟨#[98,97,114,107]⟩ tyET)⟩
def twinW9:LxS:=⟨⟨#[100,111,114,109]⟩,[[11]],0,(Tv.con ⟨#[115,108,101,101,112]⟩ tyET)⟩
def twinW10:LxS:=⟨⟨#[107,97,115]⟩,[[12]],0,(Tv.con ⟨#[99,104,97,115,101]⟩ tyEET)⟩
def twinW11:LxS:=⟨⟨#[118,105,100]⟩,[[12]],0,(Tv.con ⟨#[115,101,101]⟩ tyEET)⟩
def twinW12:LxS:=⟨⟨#[110,101]⟩,[[13]],0,(Tv.con ⟨#[110,111,116]⟩ (Ts.f (Ts.b true) (Ts.b true)))⟩
def twinW13:LxS:=⟨⟨#[118,101]⟩,[[14]],0,(Tv.con ⟨#[97,110,100]⟩ (Ts.f (Ts.b true) (Ts.f (Ts.b true) (Ts.b true))))⟩
def twinW14:LxS:=⟨⟨#[114,101,107,115]⟩,[[7]],0,(Tv.abs tyET (Tv.app (Tv.var 0) (Tv.con ⟨#[114,101,120]⟩ (Ts.b false))))⟩
def twinW15:LxS:=⟨⟨#[109,105,106,97]⟩,[[7]],0,(Tv.abs tyET (Tv.app (Tv.var 0) (Tv.con ⟨#[109,105,97]⟩ (Ts.b false))))⟩
def twinXs:List LxS:=[twinW0,twinW1,twinW2,twinW3,twinW4,twinW5,twinW6,twinW7,twinW8,twinW9,twinW10,twinW11,twinW12,twinW13,twinW14,twinW15]
def PJ:List Lx:=[]
def E8:List Lx:=PJ ++ [twinW0.lx]
def E7:List Lx:=E8 ++ [twinW1.lx]
def E6:List Lx:=E7 ++ [twinW2.lx]
def E5:List Lx:=E6 ++ [twinW3.lx]
def E4:List Lx:=E5 ++ [twinW4.lx]
def E3:List Lx:=E4 ++ [twinW5.lx]
def E2:List Lx:=E3 ++ [twinW6.lx]
def E1:List Lx:=E2 ++ [twinW7.lx]
def E0:List Lx:=E1 ++ [twinW8.lx]
def K0:List Lx:=E0 ++ [twinW9.lx]
def JY:List Lx:=K0 ++ [twinW10.lx]
def JW:List Lx:=JY ++ [twinW11.lx]
def JV:List Lx:=JW ++ [twinW12.lx]
def JK:List Lx:=JV ++ [twinW13.lx]
def JJ:List Lx:=JK ++ [twinW14.lx]
def PX:List Lx:=JJ ++ [twinW15.lx]
def twinX:List Lx:=PX
def twinS:List Nd:=([[6]]:List (List Int)).map Q7
variable {w wc:World} {b0 b1 b2 b3 b4 b5 b23 b93 base capt c12 c15:Nat} {At A12 A15:Option Addr} {cr:Array Value}
set_option maxHeartbeats 4000000 in
theorem twin_r7 {bm nm:Nat} {csm:List Value} (hb5:Blk wc b5 32 #[.slice At 15 capt,.slice (some ⟨b23,0,none⟩) 5 5,.slice none 0 0,.slice none 0 0,.slice none 0 0]) (hbm:Blk wc bm 39 csm.toArray) (hTm:TmCs nm wc vQ csm)  (f:Fr) (Q:Exit→Act→World→Prop) (k6:f 6= .slice (some ⟨bm,0,none⟩) 6 6) (k5:f 5= .pointer (some ⟨b5,0,none⟩)):WC Tryd.prog (sl (sr (sr (sr (sr (sr (sr (sr (ob Tryd.f9.body))))))))) (QRS 208 [27,28,29,30,31,32,33,34,35,36,37,38,39,40,41,42,43,44,45,46,47,48,49,50,51,52,53,54,55,56,57,58,59,60,61,62,63,64,65,66,67,68,69,70,71,72,73,74,75,76,77,78,79,80,81,82,83,84,85,86,87,88,89] f (fun _ w'=>Same [b5] wc w'∧∃ b93 cr nRl,wc.heap.size≤b93∧Blk w' b93 41 cr∧Fz [] nRl TS w' (fun w=>RlCs w twinR cr.toList)∧Blk w' b5 32 #[.slice At 15 capt,.slice (some ⟨b23,0,none⟩) 5 5,.slice (some ⟨b93,0,none⟩) 6 6,.slice none 0 0,.slice none 0 0]) Q) 208 f wc:=by
 have hZ:Same [b5] wc wc:=(Same.refl [] wc).weak (by simp);refine qx 6 (.slice (some ⟨bm,0,none⟩) 6 6) k6 nu (qx 5 (.pointer (some ⟨b5,0,none⟩)) k5 nu ?_);have z5:=hb5.lt;refine vy 62 [27,28,29,30,31,32,33,34,35,36,37,38,39,40,41,42,43,44,45,46,47,48,49,50,51,52,53,54,55,56,57,58,59,60,61,62,63,64,65,66,67,68,69,70,71,72,73,74,75,76,77,78,79,80,81,82,83,84,85,86,87,88] (fun ix=>Nat.beq ix 61) (fun ix v wv=>match ix with | 0=>v= .slice (some ⟨bm,0,none⟩) 6 6 | 1=>v= .pointer (some ⟨bm,0 + 0 * 6,none⟩) | 2=>TmD [] (vQ[0]'dE) wv (v) | 3=>IsP [1,0,1,1,2,2,3] wv (v) | 4=>IsP [6] wv (v) | 5=>IsP [8] wv (v) | 6=>IsP [7] wv (v) | 7=>RsP [[1,0,1,1,2,2,3],[6],[8],[7]] wv (v) | 8=>GrP [[1,0,1,1,2,2,3],[6],[8],[7]] wv (v) | 9=>RlP twinR0 wv (v) | 10=>v= .slice (some ⟨bm,0,none⟩) 6 6 | 11=>v= .pointer (some ⟨bm,0 + 1 * 6,none⟩) | 12=>TmD [] (vQ[1]'dE) wv (v) | 13=>IsP [1,0,1,1,2,2,4] wv (v) | 14=>IsP [7] wv (v) | 15=>IsP [9,4,3] wv (v) | 16=>IsP [3] wv (v) | 17=>IsP [10,4,3] wv (v) | 18=>RsP [[1,0,1,1,2,2,4],[7],[9,4,3],[3],[10,4,3]] wv (v) | 19=>GrP [[1,0,1,1,2,2,4],[7],[9,4,3],[3],[10,4,3]] wv (v) | 20=>RlP twinR1 wv (v) | 21=>v= .slice (some ⟨bm,0,none⟩) 6 6 | 22=>v= .pointer (some ⟨bm,0 + 2 * 6,none⟩) | 23=>TmD [] (vQ[2]'dE) wv (v) | 24=>IsP [1,0,1,1,2] wv (v) | 25=>IsP [8] wv (v) | 26=>IsP [11] wv (v) | 27=>RsP [[1,0,1,1,2],[8],[11]] wv (v) | 28=>GrP [[1,0,1,1,2],[8],[11]] wv (v) | 29=>RlP twinR2 wv (v) | 30=>v= .slice (some ⟨bm,0,none⟩) 6 6 | 31=>v= .pointer (some ⟨bm,0 + 3 * 6,none⟩) | 32=>TmD [] (vQ[3]'dE) wv (v) | 33=>IsP [1,0,1,1,2,2,3] wv (v) | 34=>IsP [8] wv (v) | 35=>IsP [7] wv (v) | 36=>IsP [12] wv (v) | 37=>RsP [[1,0,1,1,2,2,3],[8],[7],[12]] wv (v) | 38=>GrP [[1,0,1,1,2,2,3],[8],[7],[12]] wv (v) | 39=>RlP twinR3 wv (v) | 40=>v= .slice (some ⟨bm,0,none⟩) 6 6 | 41=>v= .pointer (some ⟨bm,0 + 4 * 6,none⟩) | 42=>TmD [] (vQ[4]'dE) wv (v) | 43=>IsP [1,0,1,1,2,2,3] wv (v) | 44=>IsP [8] wv (v) | 45=>IsP [13] wv (v) | 46=>IsP [8] wv (v) | 47=>RsP [[1,0,1,1,2,2,3],[8],[13],[8]] wv (v) | 48=>GrP [[1,0,1,1,2,2,3],[8],[13],[8]] wv (v) | 49=>RlP twinR4 wv (v) | 50=>v= .slice (some ⟨bm,0,none⟩) 6 6 | 51=>v= .pointer (some ⟨bm,0 + 5 * 6,none⟩) | 52=>TmD [] (vQ[5]'dE) wv (v) | 53=>IsP [1,0,1,1,2,2,3,3,4] wv (v) | 54=>IsP [7] wv (v) | 55=>IsP [7] wv (v) | 56=>IsP [14] wv (v) | 57=>IsP [7] wv (v) | 58=>RsP [[1,0,1,1,2,2,3,3,4],[7],[7],[14],[7]] wv (v) | 59=>GrP [[1,0,1,1,2,2,3,3,4],[7],[7],[14],[7]] wv (v) | 60=>RlP twinR5 wv (v) | 61=>∃ b cs n,v= .slice (some ⟨b,0,none⟩) 6 6∧wc.heap.size≤b∧Blk wv b 41 cs∧Fz [] n TS wv (fun w=>RlCs w twinR cs.toList) | _=>True) kR kR ?_ ?_ ?_
 ·intro ix v wv wv2 h hs
  match ix,h with
  | 0,h=>exact h
  | 1,h=>exact h
  | 2,h=>
   exact TmD.tr0 h hs
  | 3,h=>
   exact IsP.tr0 h hs
  | 4,h=>
   exact IsP.tr0 h hs
  | 5,h=>
   exact IsP.tr0 h hs
  | 6,h=>
   exact IsP.tr0 h hs
  | 7,h=>
   exact RsP.tr0 h hs
  | 8,h=>
   exact GrP.tr0 h hs
  | 9,h=>
   exact RlP.tr0 h hs
  | 10,h=>exact h
  | 11,h=>exact h
  | 12,h=>
   exact TmD.tr0 h hs
  | 13,h=>
   exact IsP.tr0 h hs
  | 14,h=>
   exact IsP.tr0 h hs
  | 15,h=>
   exact IsP.tr0 h hs
  | 16,h=>
   exact IsP.tr0 h hs
  | 17,h=>
   exact IsP.tr0 h hs
  | 18,h=>
   exact RsP.tr0 h hs
  | 19,h=>
   exact GrP.tr0 h hs
  | 20,h=>
   exact RlP.tr0 h hs
  | 21,h=>exact h
  | 22,h=>exact h
  | 23,h=>
   exact TmD.tr0 h hs
  | 24,h=>
   exact IsP.tr0 h hs
  | 25,h=>
   exact IsP.tr0 h hs
  | 26,h=>
   exact IsP.tr0 h hs
  | 27,h=>
   exact RsP.tr0 h hs
  | 28,h=>
   exact GrP.tr0 h hs
  | 29,h=>
   exact RlP.tr0 h hs
  | 30,h=>exact h
  | 31,h=>exact h
  | 32,h=>
   exact TmD.tr0 h hs
  | 33,h=>
   exact IsP.tr0 h hs
  | 34,h=>
   exact IsP.tr0 h hs
  | 35,h=>
   exact IsP.tr0 h hs
  | 36,h=>
   exact IsP.tr0 h hs
  | 37,h=>
   exact RsP.tr0 h hs
  | 38,h=>
   exact GrP.tr0 h hs
  | 39,h=>
   exact RlP.tr0 h hs
  | 40,h=>exact h
  | 41,h=>exact h
  | 42,h=>
   exact TmD.tr0 h hs
  | 43,h=>
   exact IsP.tr0 h hs
  | 44,h=>
   exact IsP.tr0 h hs
  | 45,h=>
   exact IsP.tr0 h hs
  | 46,h=>
   exact IsP.tr0 h hs
  | 47,h=>
   exact RsP.tr0 h hs
  | 48,h=>
   exact GrP.tr0 h hs
  | 49,h=>
   exact RlP.tr0 h hs
  | 50,h=>exact h
  | 51,h=>exact h
  | 52,h=>
   exact TmD.tr0 h hs
  | 53,h=>
   exact IsP.tr0 h hs
  | 54,h=>
   exact IsP.tr0 h hs
  | 55,h=>
   exact IsP.tr0 h hs
  | 56,h=>
   exact IsP.tr0 h hs
  | 57,h=>
   exact IsP.tr0 h hs
  | 58,h=>
   exact RsP.tr0 h hs
  | 59,h=>
   exact GrP.tr0 h hs
  | 60,h=>
   exact RlP.tr0 h hs
  | 61,h=>
   obtain⟨b93,cr,nRl,e88,lo93,hb93,hRl⟩:=h;exact⟨b93,cr,nRl,e88,lo93,hb93.tr0 hs,hRl.tr0 hs⟩
  | _ + 62,h=>exact trivial
 ·intro ix o hix hoq gg wx hs hd hdis
  match ix,hix,hoq with
  | 0,_,hoq=>
   cases sI hoq;exact oV (qw (v:= .slice _ _ _) rfl) rfl
  | 1,_,hoq=>
   cases sI hoq;refine zq 27 (.slice (some ⟨bm,0,none⟩) 6 6) (hd 0 (zj kR)) nu ?_;exact oV (xQ (i:=0) U37 vw rfl rfl dE rfl) rfl
  | 2,_,hoq=>
   cases sI hoq;replace hbm:=hbm.tr0 hs;replace hTm:=hTm.tr0 hs;obtain⟨S0,B0,c0,d0,hrg,hz0⟩:=hTm.at_ hbm (k:=0) dE;refine zq 28 (.pointer (some ⟨bm,0 + 0 * 6,none⟩)) (hd 1 (zj kR)) nu ?_;exact oV (zV U39 rfl rfl hrg vw) ⟨_,_,_,_,_,rfl,hz0⟩
  | 3,_,hoq=>
   cases sI hoq;exact yy [1,0,1,1,2,2,3] rfl U73 xX qj
  | 4,_,hoq=>
   cases sI hoq;exact yy [6] rfl U73 xX qj
  | 5,_,hoq=>
   cases sI hoq;exact yy [8] rfl U73 xX qj
  | 6,_,hoq=>
   cases sI hoq;exact yy [7] rfl U73 xX qj
  | 7,_,hoq=>
   cases sI hoq;obtain⟨b30,e30,hin30⟩:=hd 3 (zj kR);obtain⟨b31,e31,hin31⟩:=hd 4 (zj kR);obtain⟨b32,e32,hin32⟩:=hd 5 (zj kR);obtain⟨b33,e33,hin33⟩:=hd 6 (zj kR);refine zq 30 (.slice (some ⟨b30,0,none⟩) 7 7) e30 nu (zq 31 (.slice (some ⟨b31,0,none⟩) 1 1) e31 nu (zq 32 (.slice (some ⟨b32,0,none⟩) 1 1) e32 nu (zq 33 (.slice (some ⟨b33,0,none⟩) 1 1) e33 nu ?_)));refine jv (fun ops Q K=>?_);refine x6 (cs:=#[_,_,_,_]) [(0,.slice _ _ _),(1,.slice _ _ _),(2,.slice _ _ _),(3,.slice _ _ _)] rfl U78 vk xz dE dE kR rfl (fun b34 w1 hb34 hs hr=>?_);exact K _ _ ⟨hs,⟨_,rfl,qW (rs:=[[1,0,1,1,2,2,3],[6],[8],[7]]) hb34 (.cons ⟨_,_,rfl,(hin30.mono hs.bel),by decide,by decide⟩ (.cons ⟨_,_,rfl,(hin31.mono hs.bel),by decide,by decide⟩ (.cons ⟨_,_,rfl,(hin32.mono hs.bel),by decide,by decide⟩ (.cons ⟨_,_,rfl,(hin33.mono hs.bel),by decide,by decide⟩ .nil)))) dE⟩,fR hr hb34.lt⟩
  | 8,_,hoq=>
   cases sI hoq;obtain⟨b34,e34,hrw34⟩:=hd 7 (zj kR);refine zq 34 (.slice (some ⟨b34,0,none⟩) 4 4) e34 nu ?_;refine x5 VV (jQ _ _ [[1,0,1,1,2,2,3],[6],[8],[7]] wx hrw34) rfl (fun e' w2 hr=>?_);obtain⟨⟨G9,c9,rfl,hy9⟩,hs⟩:=hr;exact⟨_,rfl,sB hs,⟨G9,c9,_,rfl,hy9⟩,zY⟩
  | 9,_,hoq=>
   cases sI hoq;obtain⟨S29,c29,B29,m29,n29,e29,hz29⟩:=hd 2 (zj kR);obtain⟨G35,c35,n35,e35,hy35⟩:=hd 8 (zj kR);refine zq 29 (.agg #[.int .i64 ((vQ[0]'dE)).tm.kind,.string ((vQ[0]'dE)).tm.name,.int .i64 ((vQ[0]'dE)).tm.index,.string ((vQ[0]'dE)).tm.type.base,.slice S29 ((vQ[0]'dE)).tm.type.args.length c29,.slice B29 ((vQ[0]'dE)).tm.args.length m29]) e29 nu (zq 35 (.agg #[.slice G35 4 c35]) e35 nu ?_);exact oV (Tw (v0:= .string _) (v1:= .int _ _) (v2:= .agg _) (v3:= .agg _) (fun v0 v1 v2 v3=>#[v0,(qK v3 0),v1,.int .i64 0,(qK v2 0),(qK v2 1),(qK v2 2),(qK v2 3),(qK v2 4),(qK v2 5)]) rfl rfl rfl rfl kR) ⟨_,_,_,_,_,_,_,_,rfl,hy35,hz29⟩
  | 10,_,hoq=>
   cases sI hoq;exact oV (qw (v:= .slice _ _ _) rfl) rfl
  | 11,_,hoq=>
   cases sI hoq;refine zq 37 (.slice (some ⟨bm,0,none⟩) 6 6) (hd 10 (zj kR)) nu ?_;exact oV (xQ (i:=1) U37 vw rfl rfl dE rfl) rfl
  | 12,_,hoq=>
   cases sI hoq;replace hbm:=hbm.tr0 hs;replace hTm:=hTm.tr0 hs;obtain⟨S0,B0,c0,d0,hrg,hz0⟩:=hTm.at_ hbm (k:=1) dE;refine zq 38 (.pointer (some ⟨bm,0 + 1 * 6,none⟩)) (hd 11 (zj kR)) nu ?_;exact oV (zV U39 rfl rfl hrg vw) ⟨_,_,_,_,_,rfl,hz0⟩
  | 13,_,hoq=>
   cases sI hoq;exact yy [1,0,1,1,2,2,4] rfl U73 xX qj
  | 14,_,hoq=>
   cases sI hoq;exact yy [7] rfl U73 xX qj
  | 15,_,hoq=>
   cases sI hoq;exact yy [9,4,3] rfl U73 xX qj
  | 16,_,hoq=>
   cases sI hoq;exact yy [3] rfl U73 xX qj
  | 17,_,hoq=>
   cases sI hoq;exact yy [10,4,3] rfl U73 xX qj
  | 18,_,hoq=>
   cases sI hoq;obtain⟨b40,e40,hin40⟩:=hd 13 (zj kR);obtain⟨b41,e41,hin41⟩:=hd 14 (zj kR);obtain⟨b42,e42,hin42⟩:=hd 15 (zj kR);obtain⟨b43,e43,hin43⟩:=hd 16 (zj kR);obtain⟨b44,e44,hin44⟩:=hd 17 (zj kR);refine zq 40 (.slice (some ⟨b40,0,none⟩) 7 7) e40 nu (zq 41 (.slice (some ⟨b41,0,none⟩) 1 1) e41 nu (zq 42 (.slice (some ⟨b42,0,none⟩) 3 3) e42 nu (zq 43 (.slice (some ⟨b43,0,none⟩) 1 1) e43 nu (zq 44 (.slice (some ⟨b44,0,none⟩) 3 3) e44 nu ?_))));refine jv (fun ops Q K=>?_);refine x6 (cs:=#[_,_,_,_,_]) [(0,.slice _ _ _),(1,.slice _ _ _),(2,.slice _ _ _),(3,.slice _ _ _),(4,.slice _ _ _)] rfl U78 vk xz dE dE kR rfl (fun b45 w2 hb45 hs hr=>?_);exact K _ _ ⟨hs,⟨_,rfl,qW (rs:=[[1,0,1,1,2,2,4],[7],[9,4,3],[3],[10,4,3]]) hb45 (.cons ⟨_,_,rfl,(hin40.mono hs.bel),by decide,by decide⟩ (.cons ⟨_,_,rfl,(hin41.mono hs.bel),by decide,by decide⟩ (.cons ⟨_,_,rfl,(hin42.mono hs.bel),by decide,by decide⟩ (.cons ⟨_,_,rfl,(hin43.mono hs.bel),by decide,by decide⟩ (.cons ⟨_,_,rfl,(hin44.mono hs.bel),by decide,by decide⟩ .nil))))) dE⟩,fR hr hb45.lt⟩
  | 19,_,hoq=>
   cases sI hoq;obtain⟨b45,e45,hrw45⟩:=hd 18 (zj kR);refine zq 45 (.slice (some ⟨b45,0,none⟩) 5 5) e45 nu ?_;refine x5 VV (jQ _ _ [[1,0,1,1,2,2,4],[7],[9,4,3],[3],[10,4,3]] wx hrw45) rfl (fun e' w2 hr=>?_);obtain⟨⟨G9,c9,rfl,hy9⟩,hs⟩:=hr;exact⟨_,rfl,sB hs,⟨G9,c9,_,rfl,hy9⟩,zY⟩
  | 20,_,hoq=>
   cases sI hoq;obtain⟨S39,c39,B39,m39,n39,e39,hz39⟩:=hd 12 (zj kR);obtain⟨G46,c46,n46,e46,hy46⟩:=hd 19 (zj kR);refine zq 39 (.agg #[.int .i64 ((vQ[1]'dE)).tm.kind,.string ((vQ[1]'dE)).tm.name,.int .i64 ((vQ[1]'dE)).tm.index,.string ((vQ[1]'dE)).tm.type.base,.slice S39 ((vQ[1]'dE)).tm.type.args.length c39,.slice B39 ((vQ[1]'dE)).tm.args.length m39]) e39 nu (zq 46 (.agg #[.slice G46 5 c46]) e46 nu ?_);exact oV (KW (v0:= .string _) (v1:= .int _ _) (v2:= .int _ _) (v3:= .agg _) (v4:= .agg _) (fun v0 v1 v2 v3 v4=>#[v0,(qK v4 0),v1,v2,(qK v3 0),(qK v3 1),(qK v3 2),(qK v3 3),(qK v3 4),(qK v3 5)]) rfl rfl rfl rfl rfl kR) ⟨_,_,_,_,_,_,_,_,rfl,hy46,hz39⟩
  | 21,_,hoq=>
   cases sI hoq;exact oV (qw (v:= .slice _ _ _) rfl) rfl
  | 22,_,hoq=>
   cases sI hoq;refine zq 48 (.slice (some ⟨bm,0,none⟩) 6 6) (hd 21 (zj kR)) nu ?_;exact oV (xQ (i:=2) U37 vw rfl rfl dE rfl) rfl
  | 23,_,hoq=>
   cases sI hoq;replace hbm:=hbm.tr0 hs;replace hTm:=hTm.tr0 hs;obtain⟨S0,B0,c0,d0,hrg,hz0⟩:=hTm.at_ hbm (k:=2) dE;refine zq 49 (.pointer (some ⟨bm,0 + 2 * 6,none⟩)) (hd 22 (zj kR)) nu ?_;exact oV (zV U39 rfl rfl hrg vw) ⟨_,_,_,_,_,rfl,hz0⟩
  | 24,_,hoq=>
   cases sI hoq;exact yy [1,0,1,1,2] rfl U73 xX qj
  | 25,_,hoq=>
   cases sI hoq;exact yy [8] rfl U73 xX qj
  | 26,_,hoq=>
   cases sI hoq;exact yy [11] rfl U73 xX qj
  | 27,_,hoq=>
   cases sI hoq;obtain⟨b51,e51,hin51⟩:=hd 24 (zj kR);obtain⟨b52,e52,hin52⟩:=hd 25 (zj kR);obtain⟨b53,e53,hin53⟩:=hd 26 (zj kR);refine zq 51 (.slice (some ⟨b51,0,none⟩) 5 5) e51 nu (zq 52 (.slice (some ⟨b52,0,none⟩) 1 1) e52 nu (zq 53 (.slice (some ⟨b53,0,none⟩) 1 1) e53 nu ?_));refine jv (fun ops Q K=>?_);refine x6 (cs:=#[_,_,_]) [(0,.slice _ _ _),(1,.slice _ _ _),(2,.slice _ _ _)] rfl U78 vk xz dE dE kR rfl (fun b54 w3 hb54 hs hr=>?_);exact K _ _ ⟨hs,⟨_,rfl,qW (rs:=[[1,0,1,1,2],[8],[11]]) hb54 (.cons ⟨_,_,rfl,(hin51.mono hs.bel),by decide,by decide⟩ (.cons ⟨_,_,rfl,(hin52.mono hs.bel),by decide,by decide⟩ (.cons ⟨_,_,rfl,(hin53.mono hs.bel),by decide,by decide⟩ .nil))) dE⟩,fR hr hb54.lt⟩
  | 28,_,hoq=>
   cases sI hoq;obtain⟨b54,e54,hrw54⟩:=hd 27 (zj kR);refine zq 54 (.slice (some ⟨b54,0,none⟩) 3 3) e54 nu ?_;refine x5 VV (jQ _ _ [[1,0,1,1,2],[8],[11]] wx hrw54) rfl (fun e' w2 hr=>?_);obtain⟨⟨G9,c9,rfl,hy9⟩,hs⟩:=hr;exact⟨_,rfl,sB hs,⟨G9,c9,_,rfl,hy9⟩,zY⟩
  | 29,_,hoq=>
   cases sI hoq;obtain⟨S50,c50,B50,m50,n50,e50,hz50⟩:=hd 23 (zj kR);obtain⟨G55,c55,n55,e55,hy55⟩:=hd 28 (zj kR);refine zq 50 (.agg #[.int .i64 ((vQ[2]'dE)).tm.kind,.string ((vQ[2]'dE)).tm.name,.int .i64 ((vQ[2]'dE)).tm.index,.string ((vQ[2]'dE)).tm.type.base,.slice S50 ((vQ[2]'dE)).tm.type.args.length c50,.slice B50 ((vQ[2]'dE)).tm.args.length m50]) e50 nu (zq 55 (.agg #[.slice G55 3 c55]) e55 nu ?_);exact oV (Tw (v0:= .string _) (v1:= .int _ _) (v2:= .agg _) (v3:= .agg _) (fun v0 v1 v2 v3=>#[v0,(qK v3 0),v1,.int .i64 0,(qK v2 0),(qK v2 1),(qK v2 2),(qK v2 3),(qK v2 4),(qK v2 5)]) rfl rfl rfl rfl kR) ⟨_,_,_,_,_,_,_,_,rfl,hy55,hz50⟩
  | 30,_,hoq=>
   cases sI hoq;exact oV (qw (v:= .slice _ _ _) rfl) rfl
  | 31,_,hoq=>
   cases sI hoq;refine zq 57 (.slice (some ⟨bm,0,none⟩) 6 6) (hd 30 (zj kR)) nu ?_;exact oV (xQ (i:=3) U37 vw rfl rfl dE rfl) rfl
  | 32,_,hoq=>
   cases sI hoq;replace hbm:=hbm.tr0 hs;replace hTm:=hTm.tr0 hs;obtain⟨S0,B0,c0,d0,hrg,hz0⟩:=hTm.at_ hbm (k:=3) dE;refine zq 58 (.pointer (some ⟨bm,0 + 3 * 6,none⟩)) (hd 31 (zj kR)) nu ?_;exact oV (zV U39 rfl rfl hrg vw) ⟨_,_,_,_,_,rfl,hz0⟩
  | 33,_,hoq=>
   cases sI hoq;exact yy [1,0,1,1,2,2,3] rfl U73 xX qj
  | 34,_,hoq=>
   cases sI hoq;exact yy [8] rfl U73 xX qj
  | 35,_,hoq=>
   cases sI hoq;exact yy [7] rfl U73 xX qj
  | 36,_,hoq=>
   cases sI hoq;exact yy [12] rfl U73 xX qj
  | 37,_,hoq=>
   cases sI hoq;obtain⟨b60,e60,hin60⟩:=hd 33 (zj kR);obtain⟨b61,e61,hin61⟩:=hd 34 (zj kR);obtain⟨b62,e62,hin62⟩:=hd 35 (zj kR);obtain⟨b63,e63,hin63⟩:=hd 36 (zj kR);refine zq 60 (.slice (some ⟨b60,0,none⟩) 7 7) e60 nu (zq 61 (.slice (some ⟨b61,0,none⟩) 1 1) e61 nu (zq 62 (.slice (some ⟨b62,0,none⟩) 1 1) e62 nu (zq 63 (.slice (some ⟨b63,0,none⟩) 1 1) e63 nu ?_)));refine jv (fun ops Q K=>?_);refine x6 (cs:=#[_,_,_,_]) [(0,.slice _ _ _),(1,.slice _ _ _),(2,.slice _ _ _),(3,.slice _ _ _)] rfl U78 vk xz dE dE kR rfl (fun b64 w4 hb64 hs hr=>?_);exact K _ _ ⟨hs,⟨_,rfl,qW (rs:=[[1,0,1,1,2,2,3],[8],[7],[12]]) hb64 (.cons ⟨_,_,rfl,(hin60.mono hs.bel),by decide,by decide⟩ (.cons ⟨_,_,rfl,(hin61.mono hs.bel),by decide,by decide⟩ (.cons ⟨_,_,rfl,(hin62.mono hs.bel),by decide,by decide⟩ (.cons ⟨_,_,rfl,(hin63.mono hs.bel),by decide,by decide⟩ .nil)))) dE⟩,fR hr hb64.lt⟩
  | 38,_,hoq=>
   cases sI hoq;obtain⟨b64,e64,hrw64⟩:=hd 37 (zj kR);refine zq 64 (.slice (some ⟨b64,0,none⟩) 4 4) e64 nu ?_;refine x5 VV (jQ _ _ [[1,0,1,1,2,2,3],[8],[7],[12]] wx hrw64) rfl (fun e' w2 hr=>?_);obtain⟨⟨G9,c9,rfl,hy9⟩,hs⟩:=hr;exact⟨_,rfl,sB hs,⟨G9,c9,_,rfl,hy9⟩,zY⟩
  | 39,_,hoq=>
   cases sI hoq;obtain⟨S59,c59,B59,m59,n59,e59,hz59⟩:=hd 32 (zj kR);obtain⟨G65,c65,n65,e65,hy65⟩:=hd 38 (zj kR);refine zq 59 (.agg #[.int .i64 ((vQ[3]'dE)).tm.kind,.string ((vQ[3]'dE)).tm.name,.int .i64 ((vQ[3]'dE)).tm.index,.string ((vQ[3]'dE)).tm.type.base,.slice S59 ((vQ[3]'dE)).tm.type.args.length c59,.slice B59 ((vQ[3]'dE)).tm.args.length m59]) e59 nu (zq 65 (.agg #[.slice G65 4 c65]) e65 nu ?_);exact oV (KW (v0:= .string _) (v1:= .int _ _) (v2:= .int _ _) (v3:= .agg _) (v4:= .agg _) (fun v0 v1 v2 v3 v4=>#[v0,(qK v4 0),v1,v2,(qK v3 0),(qK v3 1),(qK v3 2),(qK v3 3),(qK v3 4),(qK v3 5)]) rfl rfl rfl rfl rfl kR) ⟨_,_,_,_,_,_,_,_,rfl,hy65,hz59⟩
  | 40,_,hoq=>
   cases sI hoq;exact oV (qw (v:= .slice _ _ _) rfl) rfl
  | 41,_,hoq=>
   cases sI hoq;refine zq 67 (.slice (some ⟨bm,0,none⟩) 6 6) (hd 40 (zj kR)) nu ?_;exact oV (xQ (i:=4) U37 vw rfl rfl dE rfl) rfl
  | 42,_,hoq=>
   cases sI hoq;replace hbm:=hbm.tr0 hs;replace hTm:=hTm.tr0 hs;obtain⟨S0,B0,c0,d0,hrg,hz0⟩:=hTm.at_ hbm (k:=4) dE;refine zq 68 (.pointer (some ⟨bm,0 + 4 * 6,none⟩)) (hd 41 (zj kR)) nu ?_;exact oV (zV U39 rfl rfl hrg vw) ⟨_,_,_,_,_,rfl,hz0⟩
  | 43,_,hoq=>
   cases sI hoq;exact yy [1,0,1,1,2,2,3] rfl U73 xX qj
  | 44,_,hoq=>
   cases sI hoq;exact yy [8] rfl U73 xX qj
  | 45,_,hoq=>
   cases sI hoq;exact yy [13] rfl U73 xX qj
  | 46,_,hoq=>
   cases sI hoq;exact yy [8] rfl U73 xX qj
  | 47,_,hoq=>
   cases sI hoq;obtain⟨b70,e70,hin70⟩:=hd 43 (zj kR);obtain⟨b71,e71,hin71⟩:=hd 44 (zj kR);obtain⟨b72,e72,hin72⟩:=hd 45 (zj kR);obtain⟨b73,e73,hin73⟩:=hd 46 (zj kR);refine zq 70 (.slice (some ⟨b70,0,none⟩) 7 7) e70 nu (zq 71 (.slice (some ⟨b71,0,none⟩) 1 1) e71 nu (zq 72 (.slice (some ⟨b72,0,none⟩) 1 1) e72 nu (zq 73 (.slice (some ⟨b73,0,none⟩) 1 1) e73 nu ?_)));refine jv (fun ops Q K=>?_);refine x6 (cs:=#[_,_,_,_]) [(0,.slice _ _ _),(1,.slice _ _ _),(2,.slice _ _ _),(3,.slice _ _ _)] rfl U78 vk xz dE dE kR rfl (fun b74 w5 hb74 hs hr=>?_);exact K _ _ ⟨hs,⟨_,rfl,qW (rs:=[[1,0,1,1,2,2,3],[8],[13],[8]]) hb74 (.cons ⟨_,_,rfl,(hin70.mono hs.bel),by decide,by decide⟩ (.cons ⟨_,_,rfl,(hin71.mono hs.bel),by decide,by decide⟩ (.cons ⟨_,_,rfl,(hin72.mono hs.bel),by decide,by decide⟩ (.cons ⟨_,_,rfl,(hin73.mono hs.bel),by decide,by decide⟩ .nil)))) dE⟩,fR hr hb74.lt⟩
  | 48,_,hoq=>
   cases sI hoq;obtain⟨b74,e74,hrw74⟩:=hd 47 (zj kR);refine zq 74 (.slice (some ⟨b74,0,none⟩) 4 4) e74 nu ?_;refine x5 VV (jQ _ _ [[1,0,1,1,2,2,3],[8],[13],[8]] wx hrw74) rfl (fun e' w2 hr=>?_);obtain⟨⟨G9,c9,rfl,hy9⟩,hs⟩:=hr;exact⟨_,rfl,sB hs,⟨G9,c9,_,rfl,hy9⟩,zY⟩
  | 49,_,hoq=>
   cases sI hoq;obtain⟨S69,c69,B69,m69,n69,e69,hz69⟩:=hd 42 (zj kR);obtain⟨G75,c75,n75,e75,hy75⟩:=hd 48 (zj kR);refine zq 69 (.agg #[.int .i64 ((vQ[4]'dE)).tm.kind,.string ((vQ[4]'dE)).tm.name,.int .i64 ((vQ[4]'dE)).tm.index,.string ((vQ[4]'dE)).tm.type.base,.slice S69 ((vQ[4]'dE)).tm.type.args.length c69,.slice B69 ((vQ[4]'dE)).tm.args.length m69]) e69 nu (zq 75 (.agg #[.slice G75 4 c75]) e75 nu ?_);exact oV (KW (v0:= .string _) (v1:= .int _ _) (v2:= .int _ _) (v3:= .agg _) (v4:= .agg _) (fun v0 v1 v2 v3 v4=>#[v0,(qK v4 0),v1,v2,(qK v3 0),(qK v3 1),(qK v3 2),(qK v3 3),(qK v3 4),(qK v3 5)]) rfl rfl rfl rfl rfl kR) ⟨_,_,_,_,_,_,_,_,rfl,hy75,hz69⟩
  | 50,_,hoq=>
   cases sI hoq;exact oV (qw (v:= .slice _ _ _) rfl) rfl
  | 51,_,hoq=>
   cases sI hoq;refine zq 77 (.slice (some ⟨bm,0,none⟩) 6 6) (hd 50 (zj kR)) nu ?_;exact oV (xQ (i:=5) U37 vw rfl rfl dE rfl) rfl
  | 52,_,hoq=>
   cases sI hoq;replace hbm:=hbm.tr0 hs;replace hTm:=hTm.tr0 hs;obtain⟨S0,B0,c0,d0,hrg,hz0⟩:=hTm.at_ hbm (k:=5) dE;refine zq 78 (.pointer (some ⟨bm,0 + 5 * 6,none⟩)) (hd 51 (zj kR)) nu ?_;exact oV (zV U39 rfl rfl hrg vw) ⟨_,_,_,_,_,rfl,hz0⟩
  | 53,_,hoq=>
   cases sI hoq;exact yy [1,0,1,1,2,2,3,3,4] rfl U73 xX qj
  | 54,_,hoq=>
   cases sI hoq;exact yy [7] rfl U73 xX qj
  | 55,_,hoq=>
   cases sI hoq;exact yy [7] rfl U73 xX qj
  | 56,_,hoq=>
   cases sI hoq;exact yy [14] rfl U73 xX qj
  | 57,_,hoq=>
   cases sI hoq;exact yy [7] rfl U73 xX qj
  | 58,_,hoq=>
   cases sI hoq;obtain⟨b80,e80,hin80⟩:=hd 53 (zj kR);obtain⟨b81,e81,hin81⟩:=hd 54 (zj kR);obtain⟨b82,e82,hin82⟩:=hd 55 (zj kR);obtain⟨b83,e83,hin83⟩:=hd 56 (zj kR);obtain⟨b84,e84,hin84⟩:=hd 57 (zj kR);refine zq 80 (.slice (some ⟨b80,0,none⟩) 9 9) e80 nu (zq 81 (.slice (some ⟨b81,0,none⟩) 1 1) e81 nu (zq 82 (.slice (some ⟨b82,0,none⟩) 1 1) e82 nu (zq 83 (.slice (some ⟨b83,0,none⟩) 1 1) e83 nu (zq 84 (.slice (some ⟨b84,0,none⟩) 1 1) e84 nu ?_))));refine jv (fun ops Q K=>?_);refine x6 (cs:=#[_,_,_,_,_]) [(0,.slice _ _ _),(1,.slice _ _ _),(2,.slice _ _ _),(3,.slice _ _ _),(4,.slice _ _ _)] rfl U78 vk xz dE dE kR rfl (fun b85 w6 hb85 hs hr=>?_);exact K _ _ ⟨hs,⟨_,rfl,qW (rs:=[[1,0,1,1,2,2,3,3,4],[7],[7],[14],[7]]) hb85 (.cons ⟨_,_,rfl,(hin80.mono hs.bel),by decide,by decide⟩ (.cons ⟨_,_,rfl,(hin81.mono hs.bel),by decide,by decide⟩ (.cons ⟨_,_,rfl,(hin82.mono hs.bel),by decide,by decide⟩ (.cons ⟨_,_,rfl,(hin83.mono hs.bel),by decide,by decide⟩ (.cons ⟨_,_,rfl,(hin84.mono hs.bel),by decide,by decide⟩ .nil))))) dE⟩,fR hr hb85.lt⟩
  | 59,_,hoq=>
   cases sI hoq;obtain⟨b85,e85,hrw85⟩:=hd 58 (zj kR);refine zq 85 (.slice (some ⟨b85,0,none⟩) 5 5) e85 nu ?_;refine x5 VV (jQ _ _ [[1,0,1,1,2,2,3,3,4],[7],[7],[14],[7]] wx hrw85) rfl (fun e' w2 hr=>?_);obtain⟨⟨G9,c9,rfl,hy9⟩,hs⟩:=hr;exact⟨_,rfl,sB hs,⟨G9,c9,_,rfl,hy9⟩,zY⟩
  | 60,_,hoq=>
   cases sI hoq;obtain⟨S79,c79,B79,m79,n79,e79,hz79⟩:=hd 52 (zj kR);obtain⟨G86,c86,n86,e86,hy86⟩:=hd 59 (zj kR);refine zq 79 (.agg #[.int .i64 ((vQ[5]'dE)).tm.kind,.string ((vQ[5]'dE)).tm.name,.int .i64 ((vQ[5]'dE)).tm.index,.string ((vQ[5]'dE)).tm.type.base,.slice S79 ((vQ[5]'dE)).tm.type.args.length c79,.slice B79 ((vQ[5]'dE)).tm.args.length m79]) e79 nu (zq 86 (.agg #[.slice G86 5 c86]) e86 nu ?_);exact oV (KW (v0:= .string _) (v1:= .int _ _) (v2:= .int _ _) (v3:= .agg _) (v4:= .agg _) (fun v0 v1 v2 v3 v4=>#[v0,(qK v4 0),v1,v2,(qK v3 0),(qK v3 1),(qK v3 2),(qK v3 3),(qK v3 4),(qK v3 5)]) rfl rfl rfl rfl rfl kR) ⟨_,_,_,_,_,_,_,_,rfl,hy86,hz79⟩
  | 61,_,hoq=>
   cases sI hoq;have hs0:=hs;obtain⟨G36,c36,n36,S36,d36,B36,f36,m36,e36,hy36,hz36⟩:=hd 9 (zj kR);obtain⟨G47,c47,n47,S47,d47,B47,f47,m47,e47,hy47,hz47⟩:=hd 20 (zj kR);obtain⟨G56,c56,n56,S56,d56,B56,f56,m56,e56,hy56,hz56⟩:=hd 29 (zj kR);obtain⟨G66,c66,n66,S66,d66,B66,f66,m66,e66,hy66,hz66⟩:=hd 39 (zj kR);obtain⟨G76,c76,n76,S76,d76,B76,f76,m76,e76,hy76,hz76⟩:=hd 49 (zj kR);obtain⟨G87,c87,n87,S87,d87,B87,f87,m87,e87,hy87,hz87⟩:=hd 60 (zj kR);refine zq 36 (.agg #[.string twinR0.name,.slice G36 twinR0.rows.length c36,.int .i64 twinR0.kids,.int .i64 twinR0.wt,.int .i64 (twinR0.mean).tm.kind,.string (twinR0.mean).tm.name,.int .i64 (twinR0.mean).tm.index,.string (twinR0.mean).tm.type.base,.slice S36 (twinR0.mean).tm.type.args.length d36,.slice B36 (twinR0.mean).tm.args.length f36]) e36 nu (zq 47 (.agg #[.string twinR1.name,.slice G47 twinR1.rows.length c47,.int .i64 twinR1.kids,.int .i64 twinR1.wt,.int .i64 (twinR1.mean).tm.kind,.string (twinR1.mean).tm.name,.int .i64 (twinR1.mean).tm.index,.string (twinR1.mean).tm.type.base,.slice S47 (twinR1.mean).tm.type.args.length d47,.slice B47 (twinR1.mean).tm.args.length f47]) e47 nu (zq 56 (.agg #[.string twinR2.name,.slice G56 twinR2.rows.length c56,.int .i64 twinR2.kids,.int .i64 twinR2.wt,.int .i64 (twinR2.mean).tm.kind,.string (twinR2.mean).tm.name,.int .i64 (twinR2.mean).tm.index,.string (twinR2.mean).tm.type.base,.slice S56 (twinR2.mean).tm.type.args.length d56,.slice B56 (twinR2.mean).tm.args.length f56]) e56 nu (zq 66 (.agg #[.string twinR3.name,.slice G66 twinR3.rows.length c66,.int .i64 twinR3.kids,.int .i64 twinR3.wt,.int .i64 (twinR3.mean).tm.kind,.string (twinR3.mean).tm.name,.int .i64 (twinR3.mean).tm.index,.string (twinR3.mean).tm.type.base,.slice S66 (twinR3.mean).tm.type.args.length d66,.slice B66 (twinR3.mean).tm.args.length f66]) e66 nu (zq 76 (.agg #[.string twinR4.name,.slice G76 twinR4.rows.length c76,.int .i64 twinR4.kids,.int .i64 twinR4.wt,.int .i64 (twinR4.mean).tm.kind,.string (twinR4.mean).tm.name,.int .i64 (twinR4.mean).tm.index,.string (twinR4.mean).tm.type.base,.slice S76 (twinR4.mean).tm.type.args.length d76,.slice B76 (twinR4.mean).tm.args.length f76]) e76 nu (zq 87 (.agg #[.string twinR5.name,.slice G87 twinR5.rows.length c87,.int .i64 twinR5.kids,.int .i64 twinR5.wt,.int .i64 (twinR5.mean).tm.kind,.string (twinR5.mean).tm.name,.int .i64 (twinR5.mean).tm.index,.string (twinR5.mean).tm.type.base,.slice S87 (twinR5.mean).tm.type.args.length d87,.slice B87 (twinR5.mean).tm.args.length f87]) e87 nu ?_)))))
   refine jv (fun ops Q K=>?_);refine x6 (cs:=#[_,_,_,_,_,_,_,_,_,_,_,_,_,_,_,_,_,_,_,_,_,_,_,_,_,_,_,_,_,_,_,_,_,_,_,_,_,_,_,_,_,_,_,_,_,_,_,_,_,_,_,_,_,_,_,_,_,_,_,_]) [(0,.agg _),(1,.agg _),(2,.agg _),(3,.agg _),(4,.agg _),(5,.agg _)] rfl U26 M3 OX dE dE kR rfl (fun b88 w7 hb88 hs hr=>?_);exact K _ _ ⟨hs,⟨_,_,_,rfl,nLT hs0.size hr,hb88,(Fz.rcons (r:=twinR0) (hy36.tr0 hs) (hz36.tr0 hs) (Fz.rcons (r:=twinR1) (hy47.tr0 hs) (hz47.tr0 hs) (Fz.rcons (r:=twinR2) (hy56.tr0 hs) (hz56.tr0 hs) (Fz.rcons (r:=twinR3) (hy66.tr0 hs) (hz66.tr0 hs) (Fz.rcons (r:=twinR4) (hy76.tr0 hs) (hz76.tr0 hs) (Fz.rcons (r:=twinR5) (hy87.tr0 hs) (hz87.tr0 hs) (Fz.triv [] _ TS (fun _=>RlCs.nil))))))))⟩,fR hr hb88.lt⟩
  | _ + 62,hix,_=>exact absurd hix om
 intro gg w8 hs hR hdis;replace hZ:=hZ.trans (hs.weak (by simp));replace hb5:=hb5.tr0 hs;obtain⟨b93,cr,nRl,e88,lo93,hb93,hRl⟩:=hR 61 dE;have:=nLL z5 lo93;refine xx 88 (.slice (some ⟨b93,0,none⟩) 6 6) e88 nu (wl (q8 U32 Xw dE rfl rfl rfl) ?_);refine j8 (v:= .slice _ _ _) hb5 rfl rfl Xw (by first | decide | simp) rfl rfl (fun w9 hq hs=>?_);replace hZ:=hZ.trans (hs.weak (by simp));replace hb93:=hb93.tr1 hs om;replace hRl:=hRl.sp1 hs hb5 (.inl dE);replace hb5:=hq;refine zx ?_;refine e_R ⟨agA,?_⟩;exact⟨hZ,_,_,_,lo93,hb93,hRl,hb5⟩
end Go.Proofs.YtfkbjncidemcbaaDoor
namespace Go.Proofs.YtfkbjncidemcbaaDoor
open Go.RowKit
theorem VK:qZ Tryd.prog 41=true:=by kernel_rfl
variable {w wc:World} {b0 b1 b2 b3 b4 b5 b23 b93 base capt c12 c15:Nat} {At A12 A15:Option Addr} {cr:Array Value}
set_option maxHeartbeats 1000000 in
theorem twin_r9 (hI:SmSt twinT twinF twinR b0 b1 b2 b3 b4 b5 b23 b93 base capt c12 c15 At A12 A15 cr 0 PJ w wc) (f:Fr) (Q:Exit→Act→World→Prop) (k7:f 7= .func (.func 41) #[] #[.pointer (some ⟨b5,0,none⟩)]):WC Tryd.prog (sl (sr (sr (sr (sr (sr (sr (sr (sr (sr (ob Tryd.f9.body))))))))))) (QRS 208 [91,92,93,94,95,96] f (fun _ w'=>SmSt twinT twinF twinR b0 b1 b2 b3 b4 b5 b23 b93 base capt c12 c15 At A12 A15 cr 1 E8 w w') Q) 208 f wc:=by
 refine qx 7 (.func (.func 41) #[] #[.pointer (some ⟨b5,0,none⟩)]) k7 nu (z4 (wl (qw (v:= .func _ _ _) rfl) ?_));refine qJ Rj (P7 ⟨#[97,108,108]⟩ ⟨#[105,102]⟩ _) rfl (fun e' w1 hr=>?_);obtain⟨⟨_,rfl,S92,c92,B92,m92,n92,rfl,hz92⟩,hs⟩:=hr;replace hs:=sB hs;replace hI:=hI.tr0 hs;refine⟨_,rfl,?_⟩;refine x6 (cs:=#[_,_,_]) [(0,.int _ _),(1,.int _ _),(2,.int _ _)] rfl U73 xX qj dE dE kR rfl (fun b93 w2 hb93 hs hr=>?_);replace hI:=hI.tr0 hs;replace hz92:=hz92.tr0 hs;refine x6 (cs:=#[_]) [(0,.int _ _)] rfl U73 xX qj dE dE kR rfl (fun b94 w3 hb94 hs hr=>?_);replace hI:=hI.tr0 hs;replace hz92:=hz92.tr0 hs;replace hb93:=hb93.tr0 hs;refine x6 (cs:=#[_,_]) [(0,.slice _ _ _),(1,.slice _ _ _)] rfl U78 vk xz dE dE kR rfl (fun b95 w4 hb95 hs hr=>?_);replace hI:=hI.tr0 hs;replace hz92:=hz92.tr0 hs;replace hb93:=hb93.tr0 hs;replace hb94:=hb94.tr0 hs;obtain⟨hC,A,cap,xs,nL,hb5,ho,hL⟩:=hI;refine yj rfl VK (ow ⟨#[116,117,116]⟩ (quN ⟨#[97,108,108]⟩ ⟨#[105,102]⟩) _ _ _ _ _ _ [[10,4,1],[4]] _ _ base _ _ _ _ _ _ _ _ _ PJ _ dE (qW (rs:=[[10,4,1],[4]]) hb95 (.cons ⟨_,_,rfl,(qQ [10,4,1] hb93 dE),by decide,by decide⟩ (.cons ⟨_,_,rfl,(qQ [4] hb94 dE),by decide,by decide⟩ .nil)) dE) hz92 hb5 ho hL hC.bs hC.l.1 dE) rfl rfl (fun e' w5 hr=>?_);obtain⟨rfl,A2,cap2,xs2,hb5n,hon,hL2,hS,hA2⟩:=hr;replace hC:=hC.add hS hb5 ho;refine⟨_,rfl,?_⟩;refine zx ?_;refine e_R ⟨agA,?_⟩;exact⟨hC,_,_,_,_,hb5n,hon,hL2⟩
set_option maxHeartbeats 1000000 in
theorem twin_r10 (hI:SmSt twinT twinF twinR b0 b1 b2 b3 b4 b5 b23 b93 base capt c12 c15 At A12 A15 cr 1 E8 w wc) (f:Fr) (Q:Exit→Act→World→Prop) (k7:f 7= .func (.func 41) #[] #[.pointer (some ⟨b5,0,none⟩)]):WC Tryd.prog (sl (sr (sr (sr (sr (sr (sr (sr (sr (sr (sr (ob Tryd.f9.body)))))))))))) (QRS 208 [97,98,99,100,101,102] f (fun _ w'=>SmSt twinT twinF twinR b0 b1 b2 b3 b4 b5 b23 b93 base capt c12 c15 At A12 A15 cr 2 E7 w w') Q) 208 f wc:=by
 refine qx 7 (.func (.func 41) #[] #[.pointer (some ⟨b5,0,none⟩)]) k7 nu (z4 (wl (qw (v:= .func _ _ _) rfl) ?_));refine qJ Rj (P7 ⟨#[97,108,108]⟩ ⟨#[105,102]⟩ _) rfl (fun e' w1 hr=>?_);obtain⟨⟨_,rfl,S98,c98,B98,m98,n98,rfl,hz98⟩,hs⟩:=hr;replace hs:=sB hs;replace hI:=hI.tr0 hs;refine⟨_,rfl,?_⟩;refine x6 (cs:=#[_,_,_]) [(0,.int _ _),(1,.int _ _),(2,.int _ _)] rfl U73 xX qj dE dE kR rfl (fun b99 w2 hb99 hs hr=>?_);replace hI:=hI.tr0 hs;replace hz98:=hz98.tr0 hs;refine x6 (cs:=#[_]) [(0,.int _ _)] rfl U73 xX qj dE dE kR rfl (fun b100 w3 hb100 hs hr=>?_);replace hI:=hI.tr0 hs;replace hz98:=hz98.tr0 hs;replace hb99:=hb99.tr0 hs;refine x6 (cs:=#[_,_]) [(0,.slice _ _ _),(1,.slice _ _ _)] rfl U78 vk xz dE dE kR rfl (fun b101 w4 hb101 hs hr=>?_);replace hI:=hI.tr0 hs;replace hz98:=hz98.tr0 hs;replace hb99:=hb99.tr0 hs;replace hb100:=hb100.tr0 hs;obtain⟨hC,A,cap,xs,nL,hb5,ho,hL⟩:=hI;refine yj rfl VK (ow ⟨#[116,117,116,97]⟩ (quN ⟨#[97,108,108]⟩ ⟨#[105,102]⟩) _ _ _ _ _ _ [[10,4,1],[5]] _ _ base _ _ _ _ _ _ _ _ _ E8 _ dE (qW (rs:=[[10,4,1],[5]]) hb101 (.cons ⟨_,_,rfl,(qQ [10,4,1] hb99 dE),by decide,by decide⟩ (.cons ⟨_,_,rfl,(qQ [5] hb100 dE),by decide,by decide⟩ .nil)) dE) hz98 hb5 ho hL hC.bs hC.l.1 dE) rfl rfl (fun e' w5 hr=>?_);obtain⟨rfl,A2,cap2,xs2,hb5n,hon,hL2,hS,hA2⟩:=hr;replace hC:=hC.add hS hb5 ho;refine⟨_,rfl,?_⟩;refine zx ?_;refine e_R ⟨agA,?_⟩;exact⟨hC,_,_,_,_,hb5n,hon,hL2⟩
set_option maxHeartbeats 1000000 in
theorem twin_r11 (hI:SmSt twinT twinF twinR b0 b1 b2 b3 b4 b5 b23 b93 base capt c12 c15 At A12 A15 cr 2 E7 w wc) (f:Fr) (Q:Exit→Act→World→Prop) (k7:f 7= .func (.func 41) #[] #[.pointer (some ⟨b5,0,none⟩)]):WC Tryd.prog (sl (sr (sr (sr (sr (sr (sr (sr (sr (sr (sr (sr (ob Tryd.f9.body))))))))))))) (QRS 208 [103,104,105,106,107,108] f (fun _ w'=>SmSt twinT twinF twinR b0 b1 b2 b3 b4 b5 b23 b93 base capt c12 c15 At A12 A15 cr 3 E6 w w') Q) 208 f wc:=by
 refine qx 7 (.func (.func 41) #[] #[.pointer (some ⟨b5,0,none⟩)]) k7 nu (z4 (wl (qw (v:= .func _ _ _) rfl) ?_));refine qJ Rj (P7 ⟨#[115,111,109,101]⟩ ⟨#[97,110,100]⟩ _) rfl (fun e' w1 hr=>?_);obtain⟨⟨_,rfl,S104,c104,B104,m104,n104,rfl,hz104⟩,hs⟩:=hr;replace hs:=sB hs;replace hI:=hI.tr0 hs;refine⟨_,rfl,?_⟩;refine x6 (cs:=#[_,_,_]) [(0,.int _ _),(1,.int _ _),(2,.int _ _)] rfl U73 xX qj dE dE kR rfl (fun b105 w2 hb105 hs hr=>?_);replace hI:=hI.tr0 hs;replace hz104:=hz104.tr0 hs;refine x6 (cs:=#[_]) [(0,.int _ _)] rfl U73 xX qj dE dE kR rfl (fun b106 w3 hb106 hs hr=>?_);replace hI:=hI.tr0 hs;replace hz104:=hz104.tr0 hs;replace hb105:=hb105.tr0 hs;refine x6 (cs:=#[_,_]) [(0,.slice _ _ _),(1,.slice _ _ _)] rfl U78 vk xz dE dE kR rfl (fun b107 w4 hb107 hs hr=>?_);replace hI:=hI.tr0 hs;replace hz104:=hz104.tr0 hs;replace hb105:=hb105.tr0 hs;replace hb106:=hb106.tr0 hs;obtain⟨hC,A,cap,xs,nL,hb5,ho,hL⟩:=hI;refine yj rfl VK (ow ⟨#[117,110]⟩ (quN ⟨#[115,111,109,101]⟩ ⟨#[97,110,100]⟩) _ _ _ _ _ _ [[10,4,1],[4]] _ _ base _ _ _ _ _ _ _ _ _ E7 _ dE (qW (rs:=[[10,4,1],[4]]) hb107 (.cons ⟨_,_,rfl,(qQ [10,4,1] hb105 dE),by decide,by decide⟩ (.cons ⟨_,_,rfl,(qQ [4] hb106 dE),by decide,by decide⟩ .nil)) dE) hz104 hb5 ho hL hC.bs hC.l.1 dE) rfl rfl (fun e' w5 hr=>?_);obtain⟨rfl,A2,cap2,xs2,hb5n,hon,hL2,hS,hA2⟩:=hr;replace hC:=hC.add hS hb5 ho;refine⟨_,rfl,?_⟩;refine zx ?_;refine e_R ⟨agA,?_⟩;exact⟨hC,_,_,_,_,hb5n,hon,hL2⟩
set_option maxHeartbeats 1000000 in
theorem twin_r12 (hI:SmSt twinT twinF twinR b0 b1 b2 b3 b4 b5 b23 b93 base capt c12 c15 At A12 A15 cr 3 E6 w wc) (f:Fr) (Q:Exit→Act→World→Prop) (k7:f 7= .func (.func 41) #[] #[.pointer (some ⟨b5,0,none⟩)]):WC Tryd.prog (sl (sr (sr (sr (sr (sr (sr (sr (sr (sr (sr (sr (sr (ob Tryd.f9.body)))))))))))))) (QRS 208 [109,110,111,112,113,114] f (fun _ w'=>SmSt twinT twinF twinR b0 b1 b2 b3 b4 b5 b23 b93 base capt c12 c15 At A12 A15 cr 4 E5 w w') Q) 208 f wc:=by
 refine qx 7 (.func (.func 41) #[] #[.pointer (some ⟨b5,0,none⟩)]) k7 nu (z4 (wl (qw (v:= .func _ _ _) rfl) ?_));refine qJ Rj (P7 ⟨#[115,111,109,101]⟩ ⟨#[97,110,100]⟩ _) rfl (fun e' w1 hr=>?_);obtain⟨⟨_,rfl,S110,c110,B110,m110,n110,rfl,hz110⟩,hs⟩:=hr;replace hs:=sB hs;replace hI:=hI.tr0 hs;refine⟨_,rfl,?_⟩;refine x6 (cs:=#[_,_,_]) [(0,.int _ _),(1,.int _ _),(2,.int _ _)] rfl U73 xX qj dE dE kR rfl (fun b111 w2 hb111 hs hr=>?_);replace hI:=hI.tr0 hs;replace hz110:=hz110.tr0 hs;refine x6 (cs:=#[_]) [(0,.int _ _)] rfl U73 xX qj dE dE kR rfl (fun b112 w3 hb112 hs hr=>?_);replace hI:=hI.tr0 hs;replace hz110:=hz110.tr0 hs;replace hb111:=hb111.tr0 hs;refine x6 (cs:=#[_,_]) [(0,.slice _ _ _),(1,.slice _ _ _)] rfl U78 vk xz dE dE kR rfl (fun b113 w4 hb113 hs hr=>?_);replace hI:=hI.tr0 hs;replace hz110:=hz110.tr0 hs;replace hb111:=hb111.tr0 hs;replace hb112:=hb112.tr0 hs;obtain⟨hC,A,cap,xs,nL,hb5,ho,hL⟩:=hI;refine yj rfl VK (ow ⟨#[117,110,97]⟩ (quN ⟨#[115,111,109,101]⟩ ⟨#[97,110,100]⟩) _ _ _ _ _ _ [[10,4,1],[5]] _ _ base _ _ _ _ _ _ _ _ _ E6 _ dE (qW (rs:=[[10,4,1],[5]]) hb113 (.cons ⟨_,_,rfl,(qQ [10,4,1] hb111 dE),by decide,by decide⟩ (.cons ⟨_,_,rfl,(qQ [5] hb112 dE),by decide,by decide⟩ .nil)) dE) hz110 hb5 ho hL hC.bs hC.l.1 dE) rfl rfl (fun e' w5 hr=>?_);obtain⟨rfl,A2,cap2,xs2,hb5n,hon,hL2,hS,hA2⟩:=hr;replace hC:=hC.add hS hb5 ho;refine⟨_,rfl,?_⟩;refine zx ?_;refine e_R ⟨agA,?_⟩;exact⟨hC,_,_,_,_,hb5n,hon,hL2⟩
set_option maxHeartbeats 1000000 in
theorem twin_r13 (hI:SmSt twinT twinF twinR b0 b1 b2 b3 b4 b5 b23 b93 base capt c12 c15 At A12 A15 cr 4 E5 w wc) (f:Fr) (Q:Exit→Act→World→Prop) (k7:f 7= .func (.func 41) #[] #[.pointer (some ⟨b5,0,none⟩)]):WC Tryd.prog (sl (sr (sr (sr (sr (sr (sr (sr (sr (sr (sr (sr (sr (sr (ob Tryd.f9.body))))))))))))))) (QRS 208 [115,116,117,118,119] f (fun _ w'=>SmSt twinT twinF twinR b0 b1 b2 b3 b4 b5 b23 b93 base capt c12 c15 At A12 A15 cr 5 E4 w w') Q) 208 f wc:=by
 refine qx 7 (.func (.func 41) #[] #[.pointer (some ⟨b5,0,none⟩)]) k7 nu (z4 (wl (qw (v:= .func _ _ _) rfl) ?_));refine qJ Rj (quY_d ⟨#[115,111,109,101]⟩ ⟨#[97,110,100]⟩ _) rfl (fun e' w1 hr=>?_);obtain⟨⟨_,rfl,S116,c116,B116,m116,n116,rfl,hz116⟩,hs⟩:=hr;replace hs:=sB hs;replace hI:=hI.tr0 hs;refine⟨_,rfl,?_⟩;refine x6 (cs:=#[_]) [(0,.int _ _)] rfl U73 xX qj dE dE kR rfl (fun b117 w2 hb117 hs hr=>?_);replace hI:=hI.tr0 hs;replace hz116:=hz116.tr0 hs;refine x6 (cs:=#[_]) [(0,.slice _ _ _)] rfl U78 vk xz dE dE kR rfl (fun b118 w3 hb118 hs hr=>?_);replace hI:=hI.tr0 hs;replace hz116:=hz116.tr0 hs;replace hb117:=hb117.tr0 hs;obtain⟨hC,A,cap,xs,nL,hb5,ho,hL⟩:=hI;refine yj rfl VK (ow ⟨#[110,105,108]⟩ (quY ⟨#[115,111,109,101]⟩ ⟨#[97,110,100]⟩) _ _ _ _ _ _ [[10]] _ _ base _ _ _ _ _ _ _ _ _ E5 _ dE (qW (rs:=[[10]]) hb118 (.cons ⟨_,_,rfl,(qQ [10] hb117 dE),by decide,by decide⟩ .nil) dE) hz116 hb5 ho hL hC.bs hC.l.1 dE) rfl rfl (fun e' w4 hr=>?_);obtain⟨rfl,A2,cap2,xs2,hb5n,hon,hL2,hS,hA2⟩:=hr;replace hC:=hC.add hS hb5 ho;refine⟨_,rfl,?_⟩;refine zx ?_;refine e_R ⟨agA,?_⟩;exact⟨hC,_,_,_,_,hb5n,hon,hL2⟩
set_option maxHeartbeats 1000000 in
theorem twin_r14 (hI:SmSt twinT twinF twinR b0 b1 b2 b3 b4 b5 b23 b93 base capt c12 c15 At A12 A15 cr 5 E4 w wc) (f:Fr) (Q:Exit→Act→World→Prop) (k7:f 7= .func (.func 41) #[] #[.pointer (some ⟨b5,0,none⟩)]) (k3:f 3= .pointer (some ⟨b3,0,none⟩)):WC Tryd.prog (sl (sr (sr (sr (sr (sr (sr (sr (sr (sr (sr (sr (sr (sr (sr (ob Tryd.f9.body)))))))))))))))) (QRS 208 [120,121,122,123,124,125,126] f (fun _ w'=>SmSt twinT twinF twinR b0 b1 b2 b3 b4 b5 b23 b93 base capt c12 c15 At A12 A15 cr 6 E3 w w') Q) 208 f wc:=by
 have hb3:=hI.1.k3;have hP12:=hI.1.p12;refine qx 7 (.func (.func 41) #[] #[.pointer (some ⟨b5,0,none⟩)]) k7 nu (qx 3 (.pointer (some ⟨b3,0,none⟩)) k3 nu (z4 (wl (qw (v:= .func _ _ _) rfl) (wl (zV U36 rfl rfl hb3.range0 zW) ?_))));refine qJ gz (kw [] ⟨#[100,111,103]⟩ tyET _ _ _ _ hP12) rfl (fun e' w1 hr=>?_);obtain⟨⟨_,rfl,S122,c122,B122,m122,n122,rfl,hz122⟩,hs⟩:=hr;replace hs:=sB hs;replace hI:=hI.tr0 hs;replace hb3:=hb3.tr0 hs;refine⟨_,rfl,?_⟩;refine x6 (cs:=#[_,_,_]) [(0,.int _ _),(1,.int _ _),(2,.int _ _)] rfl U73 xX qj dE dE kR rfl (fun b123 w2 hb123 hs hr=>?_);replace hI:=hI.tr0 hs;replace hb3:=hb3.tr0 hs;replace hz122:=hz122.tr0 hs;refine x6 (cs:=#[_]) [(0,.int _ _)] rfl U73 xX qj dE dE kR rfl (fun b124 w3 hb124 hs hr=>?_);replace hI:=hI.tr0 hs;replace hb3:=hb3.tr0 hs;replace hz122:=hz122.tr0 hs;replace hb123:=hb123.tr0 hs;refine x6 (cs:=#[_,_]) [(0,.slice _ _ _),(1,.slice _ _ _)] rfl U78 vk xz dE dE kR rfl (fun b125 w4 hb125 hs hr=>?_);replace hI:=hI.tr0 hs;replace hz122:=hz122.tr0 hs;replace hb123:=hb123.tr0 hs;replace hb124:=hb124.tr0 hs;obtain⟨hC,A,cap,xs,nL,hb5,ho,hL⟩:=hI;refine yj rfl VK (ow ⟨#[107,97,110]⟩ (Tv.con ⟨#[100,111,103]⟩ tyET) _ _ _ _ _ _ [[9,4,1],[4]] _ _ base _ _ _ _ _ _ _ _ _ E4 _ dE (qW (rs:=[[9,4,1],[4]]) hb125 (.cons ⟨_,_,rfl,(qQ [9,4,1] hb123 dE),by decide,by decide⟩ (.cons ⟨_,_,rfl,(qQ [4] hb124 dE),by decide,by decide⟩ .nil)) dE) hz122 hb5 ho hL hC.bs hC.l.1 dE) rfl rfl (fun e' w5 hr=>?_);obtain⟨rfl,A2,cap2,xs2,hb5n,hon,hL2,hS,hA2⟩:=hr;replace hC:=hC.add hS hb5 ho;refine⟨_,rfl,?_⟩;refine zx ?_;refine e_R ⟨agA,?_⟩;exact⟨hC,_,_,_,_,hb5n,hon,hL2⟩
set_option maxHeartbeats 1000000 in
theorem twin_r15 (hI:SmSt twinT twinF twinR b0 b1 b2 b3 b4 b5 b23 b93 base capt c12 c15 At A12 A15 cr 6 E3 w wc) (f:Fr) (Q:Exit→Act→World→Prop) (k7:f 7= .func (.func 41) #[] #[.pointer (some ⟨b5,0,none⟩)]) (k3:f 3= .pointer (some ⟨b3,0,none⟩)):WC Tryd.prog (sl (sr (sr (sr (sr (sr (sr (sr (sr (sr (sr (sr (sr (sr (sr (sr (ob Tryd.f9.body))))))))))))))))) (QRS 208 [127,128,129,130,131,132,133] f (fun _ w'=>SmSt twinT twinF twinR b0 b1 b2 b3 b4 b5 b23 b93 base capt c12 c15 At A12 A15 cr 7 E2 w w') Q) 208 f wc:=by
 have hb3:=hI.1.k3;have hP12:=hI.1.p12;refine qx 7 (.func (.func 41) #[] #[.pointer (some ⟨b5,0,none⟩)]) k7 nu (qx 3 (.pointer (some ⟨b3,0,none⟩)) k3 nu (z4 (wl (qw (v:= .func _ _ _) rfl) (wl (zV U36 rfl rfl hb3.range0 zW) ?_))));refine qJ gz (kw [] ⟨#[99,97,116]⟩ tyET _ _ _ _ hP12) rfl (fun e' w1 hr=>?_);obtain⟨⟨_,rfl,S129,c129,B129,m129,n129,rfl,hz129⟩,hs⟩:=hr;replace hs:=sB hs;replace hI:=hI.tr0 hs;replace hb3:=hb3.tr0 hs;refine⟨_,rfl,?_⟩;refine x6 (cs:=#[_,_,_]) [(0,.int _ _),(1,.int _ _),(2,.int _ _)] rfl U73 xX qj dE dE kR rfl (fun b130 w2 hb130 hs hr=>?_);replace hI:=hI.tr0 hs;replace hb3:=hb3.tr0 hs;replace hz129:=hz129.tr0 hs;refine x6 (cs:=#[_]) [(0,.int _ _)] rfl U73 xX qj dE dE kR rfl (fun b131 w3 hb131 hs hr=>?_);replace hI:=hI.tr0 hs;replace hb3:=hb3.tr0 hs;replace hz129:=hz129.tr0 hs;replace hb130:=hb130.tr0 hs;refine x6 (cs:=#[_,_]) [(0,.slice _ _ _),(1,.slice _ _ _)] rfl U78 vk xz dE dE kR rfl (fun b132 w4 hb132 hs hr=>?_);replace hI:=hI.tr0 hs;replace hz129:=hz129.tr0 hs;replace hb130:=hb130.tr0 hs;replace hb131:=hb131.tr0 hs;obtain⟨hC,A,cap,xs,nL,hb5,ho,hL⟩:=hI;refine yj rfl VK (ow ⟨#[109,105,117]⟩ (Tv.con ⟨#[99,97,116]⟩ tyET) _ _ _ _ _ _ [[9,4,1],[5]] _ _ base _ _ _ _ _ _ _ _ _ E3 _ dE (qW (rs:=[[9,4,1],[5]]) hb132 (.cons ⟨_,_,rfl,(qQ [9,4,1] hb130 dE),by decide,by decide⟩ (.cons ⟨_,_,rfl,(qQ [5] hb131 dE),by decide,by decide⟩ .nil)) dE) hz129 hb5 ho hL hC.bs hC.l.1 dE) rfl rfl (fun e' w5 hr=>?_);obtain⟨rfl,A2,cap2,xs2,hb5n,hon,hL2,hS,hA2⟩:=hr;replace hC:=hC.add hS hb5 ho;refine⟨_,rfl,?_⟩;refine zx ?_;refine e_R ⟨agA,?_⟩;exact⟨hC,_,_,_,_,hb5n,hon,hL2⟩
set_option maxHeartbeats 1000000 in
theorem twin_r16 (hI:SmSt twinT twinF twinR b0 b1 b2 b3 b4 b5 b23 b93 base capt c12 c15 At A12 A15 cr 7 E2 w wc) (f:Fr) (Q:Exit→Act→World→Prop) (k7:f 7= .func (.func 41) #[] #[.pointer (some ⟨b5,0,none⟩)]) (k3:f 3= .pointer (some ⟨b3,0,none⟩)):WC Tryd.prog (sl (sr (sr (sr (sr (sr (sr (sr (sr (sr (sr (sr (sr (sr (sr (sr (sr (ob Tryd.f9.body)))))))))))))))))) (QRS 208 [134,135,136,137,138,139,140] f (fun _ w'=>SmSt twinT twinF twinR b0 b1 b2 b3 b4 b5 b23 b93 base capt c12 c15 At A12 A15 cr 8 E1 w w') Q) 208 f wc:=by
 have hb3:=hI.1.k3;have hP12:=hI.1.p12;refine qx 7 (.func (.func 41) #[] #[.pointer (some ⟨b5,0,none⟩)]) k7 nu (qx 3 (.pointer (some ⟨b3,0,none⟩)) k3 nu (z4 (wl (qw (v:= .func _ _ _) rfl) (wl (zV U36 rfl rfl hb3.range0 zW) ?_))));refine qJ gz (kw [] ⟨#[102,105,115,104]⟩ tyET _ _ _ _ hP12) rfl (fun e' w1 hr=>?_);obtain⟨⟨_,rfl,S136,c136,B136,m136,n136,rfl,hz136⟩,hs⟩:=hr;replace hs:=sB hs;replace hI:=hI.tr0 hs;replace hb3:=hb3.tr0 hs;refine⟨_,rfl,?_⟩;refine x6 (cs:=#[_,_,_]) [(0,.int _ _),(1,.int _ _),(2,.int _ _)] rfl U73 xX qj dE dE kR rfl (fun b137 w2 hb137 hs hr=>?_);replace hI:=hI.tr0 hs;replace hb3:=hb3.tr0 hs;replace hz136:=hz136.tr0 hs;refine x6 (cs:=#[_]) [(0,.int _ _)] rfl U73 xX qj dE dE kR rfl (fun b138 w3 hb138 hs hr=>?_);replace hI:=hI.tr0 hs;replace hb3:=hb3.tr0 hs;replace hz136:=hz136.tr0 hs;replace hb137:=hb137.tr0 hs;refine x6 (cs:=#[_,_]) [(0,.slice _ _ _),(1,.slice _ _ _)] rfl U78 vk xz dE dE kR rfl (fun b139 w4 hb139 hs hr=>?_);replace hI:=hI.tr0 hs;replace hz136:=hz136.tr0 hs;replace hb137:=hb137.tr0 hs;replace hb138:=hb138.tr0 hs;obtain⟨hC,A,cap,xs,nL,hb5,ho,hL⟩:=hI;refine yj rfl VK (ow ⟨#[112,105,115]⟩ (Tv.con ⟨#[102,105,115,104]⟩ tyET) _ _ _ _ _ _ [[9,4,1],[5]] _ _ base _ _ _ _ _ _ _ _ _ E2 _ dE (qW (rs:=[[9,4,1],[5]]) hb139 (.cons ⟨_,_,rfl,(qQ [9,4,1] hb137 dE),by decide,by decide⟩ (.cons ⟨_,_,rfl,(qQ [5] hb138 dE),by decide,by decide⟩ .nil)) dE) hz136 hb5 ho hL hC.bs hC.l.1 dE) rfl rfl (fun e' w5 hr=>?_);obtain⟨rfl,A2,cap2,xs2,hb5n,hon,hL2,hS,hA2⟩:=hr;replace hC:=hC.add hS hb5 ho;refine⟨_,rfl,?_⟩;refine zx ?_;refine e_R ⟨agA,?_⟩;exact⟨hC,_,_,_,_,hb5n,hon,hL2⟩
end Go.Proofs.YtfkbjncidemcbaaDoor
