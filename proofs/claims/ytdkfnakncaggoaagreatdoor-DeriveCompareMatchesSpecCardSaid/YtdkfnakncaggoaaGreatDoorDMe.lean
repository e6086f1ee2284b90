/- What these functions of the program compute, at every world: glosswright/glosswrightequal.meanings, glosswright/glosswrightequal.meanings. -/
import Derived.Test.YtdkfnakncaggoaaGreatDoorU
import Derived.Test.YtdkfnakncaggoaaGreatDoorName
import Derived.Test.YtdkfnakncaggoaaGreatDoorDQu
namespace Go.Proofs.YtdkfnakncaggoaaGreatDoor
open Go.RowKit
def mS5:Ts:=(Ts.f (Ts.b false) (Ts.b true))
def mS6:Ts:=(Ts.f mS5 (Ts.b true))
def mS7:Ts:=(Ts.f (Ts.b false) mS5)
def mS8:Ts:=(Ts.f mS5 mS6)
def Dj:Tv:=(Tv.var 1)
def Dx:Tv:=(Tv.var 0)
def Dq:Tv:=(Tv.app Dj Dx)
def Dz:Tv:=(Tv.abs mS5 Dq)
def YX:Tv:=(Tv.abs mS6 Dz)
def D9:Tv:=(Tv.var 1)
def D8:Tv:=(Tv.var 0)
def D7:Tv:=(Tv.app D9 D8)
def D6:Tv:=(Tv.abs mS5 D7)
def YQ:Tv:=(Tv.abs mS8 D6)
def D5:Tv:=(Tv.var 0)
def YZ:Tv:=(Tv.abs mS5 D5)
def D4:Tv:=(Tv.var 1)
def D3:Tv:=(Tv.var 3)
def D2:Tv:=(Tv.var 1)
def D1:Tv:=(Tv.app D3 D2)
def D0:Tv:=(Tv.var 0)
def PY:Tv:=(Tv.app D1 D0)
def PW:Tv:=(Tv.abs (Ts.b false) PY)
def PV:Tv:=(Tv.app D4 PW)
def PK:Tv:=(Tv.abs (Ts.b false) PV)
def PJ:Tv:=(Tv.abs mS6 PK)
def Yy:Tv:=(Tv.abs mS7 PJ)
def mT58:Ts:=(Ts.f (Ts.b true) (Ts.b true))
def PX:Tv:=(Tv.var 2)
def PQ:Tv:=(Tv.var 1)
def PZ:Tv:=(Tv.var 0)
def Py:Tv:=(Tv.app PQ PZ)
def Pw:Tv:=(Tv.app PX Py)
def Pv:Tv:=(Tv.abs (Ts.b false) Pw)
def Pk:Tv:=(Tv.abs mS5 Pv)
def Yw:Tv:=(Tv.abs mT58 Pk)
def mT73:Ts:=(Ts.f (Ts.b true) (Ts.b true))
def mT74:Ts:=(Ts.f (Ts.b true) mT73)
def Pj:Tv:=(Tv.var 2)
def Px:Tv:=(Tv.var 3)
def Pq:Tv:=(Tv.var 0)
def Pz:Tv:=(Tv.app Px Pq)
def P9:Tv:=(Tv.app Pj Pz)
def P8:Tv:=(Tv.var 1)
def P7:Tv:=(Tv.var 0)
def P6:Tv:=(Tv.app P8 P7)
def P5:Tv:=(Tv.app P9 P6)
def P4:Tv:=(Tv.abs mS5 P5)
def P3:Tv:=(Tv.abs mS6 P4)
def P2:Tv:=(Tv.abs mT74 P3)
def Yv:Tv:=(Tv.abs mS6 P2)
def y8:List Tv:=[YX,YQ,YZ,Yy,Yw,Yv]
def MnR (wc:World) (v:Value) (w':World):Prop:=∃ b90 S30 c30 B30 m30 S37 c37 B37 m37 S40 c40 B40 m40 S55 c55 B55 m55 S68 c68 B68 m68 S89 c89 B89 m89,v= .slice (some ⟨b90,0,none⟩) 6 6∧wc.heap.size≤b90∧Blk w' b90 55 #[.int .i64 (YX).tm.kind,.string (YX).tm.name,.int .i64 (YX).tm.index,.string (YX).tm.type.base,.slice S30 (YX).tm.type.args.length c30,.slice B30 (YX).tm.args.length m30,.int .i64 (YQ).tm.kind,.string (YQ).tm.name,.int .i64 (YQ).tm.index,.string (YQ).tm.type.base,.slice S37 (YQ).tm.type.args.length c37,.slice B37 (YQ).tm.args.length m37,.int .i64 (YZ).tm.kind,.string (YZ).tm.name,.int .i64 (YZ).tm.index,.string (YZ).tm.type.base,.slice S40 (YZ).tm.type.args.length c40,.slice B40 (YZ).tm.args.length m40,.int .i64 (Yy).tm.kind,.string (Yy).tm.name,.int .i64 (Yy).tm.index,.string (Yy).tm.type.base,.slice S55 (Yy).tm.type.args.length c55,.slice B55 (Yy).tm.args.length m55,.int .i64 (Yw).tm.kind,.string (Yw).tm.name,.int .i64 (Yw).tm.index,.string (Yw).tm.type.base,.slice S68 (Yw).tm.type.args.length c68,.slice B68 (Yw).tm.args.length m68,.int .i64 (Yv).tm.kind,.string (Yv).tm.name,.int .i64 (Yv).tm.index,.string (Yv).tm.type.base,.slice S89 (Yv).tm.type.args.length c89,.slice B89 (Yv).tm.args.length m89]∧Fz [] b90 TS w' (fun w=>SimsIn w S30 (YX).tm.type.args∧TmsIn w B30 (YX).tm.args)∧Fz [] b90 TS w' (fun w=>SimsIn w S37 (YQ).tm.type.args∧TmsIn w B37 (YQ).tm.args)∧Fz [] b90 TS w' (fun w=>SimsIn w S40 (YZ).tm.type.args∧TmsIn w B40 (YZ).tm.args)∧Fz [] b90 TS w' (fun w=>SimsIn w S55 (Yy).tm.type.args∧TmsIn w B55 (Yy).tm.args)∧Fz [] b90 TS w' (fun w=>SimsIn w S68 (Yw).tm.type.args∧TmsIn w B68 (Yw).tm.args)∧Fz [] b90 TS w' (fun w=>SimsIn w S89 (Yv).tm.type.args∧TmsIn w B89 (Yv).tm.args)
theorem MnR.tr0 {wc w1 w2:World} {v:Value} (h:MnR wc v w1) (hs:Same [] w1 w2):MnR wc v w2:=by
  obtain⟨b90,S30,c30,B30,m30,S37,c37,B37,m37,S40,c40,B40,m40,S55,c55,B55,m55,S68,c68,B68,m68,S89,c89,B89,m89,e,lo,hb,hz30,hz37,hz40,hz55,hz68,hz89⟩:=h;exact⟨b90,S30,c30,B30,m30,S37,c37,B37,m37,S40,c40,B40,m40,S55,c55,B55,m55,S68,c68,B68,m68,S89,c89,B89,m89,e,lo,hb.tr0 hs,hz30.tr0 hs,hz37.tr0 hs,hz40.tr0 hs,hz55.tr0 hs,hz68.tr0 hs,hz89.tr0 hs⟩
set_option maxRecDepth 100000 in
set_option maxHeartbeats 8000000 in
theorem mean_r6 {wc:World} {b3 b4 b5 b6 b7 b8 c14 c17 c20 c23 n14 n17 n20 n23:Nat} {A14 A17 A20 A23:Option Addr} (hb3:Blk wc b3 52 #[.string ⟨#[101]⟩,.slice none 0 0]) (hb4:Blk wc b4 52 #[.string ⟨#[116]⟩,.slice none 0 0]) (hb5:Blk wc b5 52 #[.string (mS5).sm.base,.slice A14 (mS5).sm.args.length c14]) (hb6:Blk wc b6 52 #[.string (mS6).sm.base,.slice A17 (mS6).sm.args.length c17]) (hb7:Blk wc b7 52 #[.string (mS7).sm.base,.slice A20 (mS7).sm.args.length c20]) (hb8:Blk wc b8 52 #[.string (mS8).sm.base,.slice A23 (mS8).sm.args.length c23]) (hz14:Fz [] n14 TS wc (fun w=>SimsIn w A14 (mS5).sm.args)) (hz17:Fz [] n17 TS wc (fun w=>SimsIn w A17 (mS6).sm.args)) (hz20:Fz [] n20 TS wc (fun w=>SimsIn w A20 (mS7).sm.args)) (hz23:Fz [] n23 TS wc (fun w=>SimsIn w A23 (mS8).sm.args)) (f:Fr) (Q:Exit→Act→World→Prop) (k3:f 3= .pointer (some ⟨b3,0,none⟩)) (k4:f 4= .pointer (some ⟨b4,0,none⟩)) (k5:f 5= .pointer (some ⟨b5,0,none⟩)) (k6:f 6= .pointer (some ⟨b6,0,none⟩)) (k7:f 7= .pointer (some ⟨b7,0,none⟩)) (k8:f 8= .pointer (some ⟨b8,0,none⟩)):WC Tryz.prog (sl (sr (sr (sr (sr (sr (sr (ob Tryz.f22.body)))))))) (QRS 128 [9,24,25,26,27,28,29,30,31,32,33,34,35,36,37,38,39,40,41,42,43,44,45,46,47,48,49,50,51,52,53,54,55,56,57,58,59,60,61,62,63,64,65,66,67,68,69,70,71,72,73,74,75,76,77,78,79,80,81,82,83,84,85,86,87,88,89,90] f (fun g w'=>Same [] wc w'∧MnR wc (g 9) w') Q) 128 f wc:=by
 have hZ:Same [] wc wc:=Same.refl _ _;refine zJ 3 (.pointer (some ⟨b3,0,none⟩)) k3 nu (zJ 4 (.pointer (some ⟨b4,0,none⟩)) k4 nu (zJ 5 (.pointer (some ⟨b5,0,none⟩)) k5 nu (zJ 6 (.pointer (some ⟨b6,0,none⟩)) k6 nu (zJ 7 (.pointer (some ⟨b7,0,none⟩)) k7 nu (zJ 8 (.pointer (some ⟨b8,0,none⟩)) k8 nu ?_)))));refine yk 68 [24,25,26,27,28,29,30,31,32,33,34,35,36,37,38,39,40,41,42,43,44,45,46,47,48,49,50,51,52,53,54,55,56,57,58,59,60,61,62,63,64,65,66,67,68,69,70,71,72,73,74,75,76,77,78,79,80,81,82,83,84,85,86,87,88,89,90,9] (fun ix=>Nat.beq ix 66) (fun ix v wv=>match ix with | 0=>v= .agg #[.string (mS6).sm.base,.slice A17 (mS6).sm.args.length c17] | 1=>v= .agg #[.string (mS5).sm.base,.slice A14 (mS5).sm.args.length c14] | 2=>TmD [] Dj wv (v) | 3=>TmD [] Dx wv (v) | 4=>TmD [] Dq wv (v) | 5=>TmD [] Dz wv (v) | 6=>TmD [] YX wv (v) | 7=>v= .agg #[.string (mS8).sm.base,.slice A23 (mS8).sm.args.length c23] | 8=>v= .agg #[.string (mS5).sm.base,.slice A14 (mS5).sm.args.length c14] | 9=>TmD [] D9 wv (v) | 10=>TmD [] D8 wv (v) | 11=>TmD [] D7 wv (v) | 12=>TmD [] D6 wv (v) | 13=>TmD [] YQ wv (v) | 14=>v= .agg #[.string (mS5).sm.base,.slice A14 (mS5).sm.args.length c14] | 15=>TmD [] D5 wv (v) | 16=>TmD [] YZ wv (v) | 17=>v= .agg #[.string (mS7).sm.base,.slice A20 (mS7).sm.args.length c20] | 18=>v= .agg #[.string (mS6).sm.base,.slice A17 (mS6).sm.args.length c17] | 19=>v= .agg #[.string ((Ts.b false)).sm.base,.slice none ((Ts.b false)).sm.args.length 0] | 20=>TmD [] D4 wv (v) | 21=>v= .agg #[.string ((Ts.b false)).sm.base,.slice none ((Ts.b false)).sm.args.length 0] | 22=>TmD [] D3 wv (v) | 23=>TmD [] D2 wv (v) | 24=>TmD [] D1 wv (v) | 25=>TmD [] D0 wv (v) | 26=>TmD [] PY wv (v) | 27=>TmD [] PW wv (v) | 28=>TmD [] PV wv (v) | 29=>TmD [] PK wv (v) | 30=>TmD [] PJ wv (v) | 31=>TmD [] Yy wv (v) | 32=>v= .agg #[.string ((Ts.b true)).sm.base,.slice none ((Ts.b true)).sm.args.length 0] | 33=>v= .agg #[.string ((Ts.b true)).sm.base,.slice none ((Ts.b true)).sm.args.length 0] | 34=>SmD [] mT58 wv (v) | 35=>v= .agg #[.string (mS5).sm.base,.slice A14 (mS5).sm.args.length c14] | 36=>v= .agg #[.string ((Ts.b false)).sm.base,.slice none ((Ts.b false)).sm.args.length 0] | 37=>TmD [] PX wv (v) | 38=>TmD [] PQ wv (v) | 39=>TmD [] PZ wv (v) | 40=>TmD [] Py wv (v) | 41=>TmD [] Pw wv (v) | 42=>TmD [] Pv wv (v) | 43=>TmD [] Pk wv (v) | 44=>TmD [] Yw wv (v) | 45=>v= .agg #[.string (mS6).sm.base,.slice A17 (mS6).sm.args.length c17] | 46=>v= .agg #[.string ((Ts.b true)).sm.base,.slice none ((Ts.b true)).sm.args.length 0] | 47=>v= .agg #[.string ((Ts.b true)).sm.base,.slice none ((Ts.b true)).sm.args.length 0] | 48=>v= .agg #[.string ((Ts.b true)).sm.base,.slice none ((Ts.b true)).sm.args.length 0] | 49=>SmD [] mT73 wv (v) | 50=>SmD [] mT74 wv (v) | 51=>v= .agg #[.string (mS6).sm.base,.slice A17 (mS6).sm.args.length c17] | 52=>v= .agg #[.string (mS5).sm.base,.slice A14 (mS5).sm.args.length c14] | 53=>TmD [] Pj wv (v) | 54=>TmD [] Px wv (v) | 55=>TmD [] Pq wv (v) | 56=>TmD [] Pz wv (v) | 57=>TmD [] P9 wv (v) | 58=>TmD [] P8 wv (v) | 59=>TmD [] P7 wv (v) | 60=>TmD [] P6 wv (v) | 61=>TmD [] P5 wv (v) | 62=>TmD [] P4 wv (v) | 63=>TmD [] P3 wv (v) | 64=>TmD [] P2 wv (v) | 65=>TmD [] Yv wv (v) | 66=>MnR wc (v) wv | 67=>MnR wc (v) wv | _=>True) kR kR ?_ ?_ ?_
 ·intro ix v wv wv2 h hs
  match ix,h with
  | 0,h=>exact h
  | 1,h=>exact h
  | 2,h=>
   obtain⟨S26,c26,B26,m26,n26,e26,hz26⟩:=h;exact⟨S26,c26,B26,m26,n26,e26,hz26.tr0 hs⟩
  | 3,h=>
   obtain⟨S27,c27,B27,m27,n27,e27,hz27⟩:=h;exact⟨S27,c27,B27,m27,n27,e27,hz27.tr0 hs⟩
  | 4,h=>
   obtain⟨S28,c28,B28,m28,n28,e28,hz28⟩:=h;exact⟨S28,c28,B28,m28,n28,e28,hz28.tr0 hs⟩
  | 5,h=>
   obtain⟨S29,c29,B29,m29,n29,e29,hz29⟩:=h;exact⟨S29,c29,B29,m29,n29,e29,hz29.tr0 hs⟩
  | 6,h=>
   obtain⟨S30,c30,B30,m30,n30,e30,hz30⟩:=h;exact⟨S30,c30,B30,m30,n30,e30,hz30.tr0 hs⟩
  | 7,h=>exact h
  | 8,h=>exact h
  | 9,h=>
   obtain⟨S33,c33,B33,m33,n33,e33,hz33⟩:=h;exact⟨S33,c33,B33,m33,n33,e33,hz33.tr0 hs⟩
  | 10,h=>
   obtain⟨S34,c34,B34,m34,n34,e34,hz34⟩:=h;exact⟨S34,c34,B34,m34,n34,e34,hz34.tr0 hs⟩
  | 11,h=>
   obtain⟨S35,c35,B35,m35,n35,e35,hz35⟩:=h;exact⟨S35,c35,B35,m35,n35,e35,hz35.tr0 hs⟩
  | 12,h=>
   obtain⟨S36,c36,B36,m36,n36,e36,hz36⟩:=h;exact⟨S36,c36,B36,m36,n36,e36,hz36.tr0 hs⟩
  | 13,h=>
   obtain⟨S37,c37,B37,m37,n37,e37,hz37⟩:=h;exact⟨S37,c37,B37,m37,n37,e37,hz37.tr0 hs⟩
  | 14,h=>exact h
  | 15,h=>
   obtain⟨S39,c39,B39,m39,n39,e39,hz39⟩:=h;exact⟨S39,c39,B39,m39,n39,e39,hz39.tr0 hs⟩
  | 16,h=>
   obtain⟨S40,c40,B40,m40,n40,e40,hz40⟩:=h;exact⟨S40,c40,B40,m40,n40,e40,hz40.tr0 hs⟩
  | 17,h=>exact h
  | 18,h=>exact h
  | 19,h=>exact h
  | 20,h=>
   obtain⟨S44,c44,B44,m44,n44,e44,hz44⟩:=h;exact⟨S44,c44,B44,m44,n44,e44,hz44.tr0 hs⟩
  | 21,h=>exact h
  | 22,h=>
   obtain⟨S46,c46,B46,m46,n46,e46,hz46⟩:=h;exact⟨S46,c46,B46,m46,n46,e46,hz46.tr0 hs⟩
  | 23,h=>
   obtain⟨S47,c47,B47,m47,n47,e47,hz47⟩:=h;exact⟨S47,c47,B47,m47,n47,e47,hz47.tr0 hs⟩
  | 24,h=>
   obtain⟨S48,c48,B48,m48,n48,e48,hz48⟩:=h;exact⟨S48,c48,B48,m48,n48,e48,hz48.tr0 hs⟩
  | 25,h=>
   obtain⟨S49,c49,B49,m49,n49,e49,hz49⟩:=h;exact⟨S49,c49,B49,m49,n49,e49,hz49.tr0 hs⟩
  | 26,h=>
   obtain⟨S50,c50,B50,m50,n50,e50,hz50⟩:=h;exact⟨S50,c50,B50,m50,n50,e50,hz50.tr0 hs⟩
  | 27,h=>
   obtain⟨S51,c51,B51,m51,n51,e51,hz51⟩:=h;exact⟨S51,c51,B51,m51,n51,e51,hz51.tr0 hs⟩
  | 28,h=>
   obtain⟨S52,c52,B52,m52,n52,e52,hz52⟩:=h;exact⟨S52,c52,B52,m52,n52,e52,hz52.tr0 hs⟩
  | 29,h=>
   obtain⟨S53,c53,B53,m53,n53,e53,hz53⟩:=h;exact⟨S53,c53,B53,m53,n53,e53,hz53.tr0 hs⟩
  | 30,h=>
   obtain⟨S54,c54,B54,m54,n54,e54,hz54⟩:=h;exact⟨S54,c54,B54,m54,n54,e54,hz54.tr0 hs⟩
  | 31,h=>
   obtain⟨S55,c55,B55,m55,n55,e55,hz55⟩:=h;exact⟨S55,c55,B55,m55,n55,e55,hz55.tr0 hs⟩
  | 32,h=>exact h
  | 33,h=>exact h
  | 34,h=>
   obtain⟨A58,c58,n58,e58,hz58⟩:=h;exact⟨A58,c58,n58,e58,hz58.tr0 hs⟩
  | 35,h=>exact h
  | 36,h=>exact h
  | 37,h=>
   obtain⟨S61,c61,B61,m61,n61,e61,hz61⟩:=h;exact⟨S61,c61,B61,m61,n61,e61,hz61.tr0 hs⟩
  | 38,h=>
   obtain⟨S62,c62,B62,m62,n62,e62,hz62⟩:=h;exact⟨S62,c62,B62,m62,n62,e62,hz62.tr0 hs⟩
  | 39,h=>
   obtain⟨S63,c63,B63,m63,n63,e63,hz63⟩:=h;exact⟨S63,c63,B63,m63,n63,e63,hz63.tr0 hs⟩
  | 40,h=>
   obtain⟨S64,c64,B64,m64,n64,e64,hz64⟩:=h;exact⟨S64,c64,B64,m64,n64,e64,hz64.tr0 hs⟩
  | 41,h=>
   obtain⟨S65,c65,B65,m65,n65,e65,hz65⟩:=h;exact⟨S65,c65,B65,m65,n65,e65,hz65.tr0 hs⟩
  | 42,h=>
   obtain⟨S66,c66,B66,m66,n66,e66,hz66⟩:=h;exact⟨S66,c66,B66,m66,n66,e66,hz66.tr0 hs⟩
  | 43,h=>
   obtain⟨S67,c67,B67,m67,n67,e67,hz67⟩:=h;exact⟨S67,c67,B67,m67,n67,e67,hz67.tr0 hs⟩
  | 44,h=>
   obtain⟨S68,c68,B68,m68,n68,e68,hz68⟩:=h;exact⟨S68,c68,B68,m68,n68,e68,hz68.tr0 hs⟩
  | 45,h=>exact h
  | 46,h=>exact h
  | 47,h=>exact h
  | 48,h=>exact h
  | 49,h=>
   obtain⟨A73,c73,n73,e73,hz73⟩:=h;exact⟨A73,c73,n73,e73,hz73.tr0 hs⟩
  | 50,h=>
   obtain⟨A74,c74,n74,e74,hz74⟩:=h;exact⟨A74,c74,n74,e74,hz74.tr0 hs⟩
  | 51,h=>exact h
  | 52,h=>exact h
  | 53,h=>
   obtain⟨S77,c77,B77,m77,n77,e77,hz77⟩:=h;exact⟨S77,c77,B77,m77,n77,e77,hz77.tr0 hs⟩
  | 54,h=>
   obtain⟨S78,c78,B78,m78,n78,e78,hz78⟩:=h;exact⟨S78,c78,B78,m78,n78,e78,hz78.tr0 hs⟩
  | 55,h=>
   obtain⟨S79,c79,B79,m79,n79,e79,hz79⟩:=h;exact⟨S79,c79,B79,m79,n79,e79,hz79.tr0 hs⟩
  | 56,h=>
   obtain⟨S80,c80,B80,m80,n80,e80,hz80⟩:=h;exact⟨S80,c80,B80,m80,n80,e80,hz80.tr0 hs⟩
  | 57,h=>
   obtain⟨S81,c81,B81,m81,n81,e81,hz81⟩:=h;exact⟨S81,c81,B81,m81,n81,e81,hz81.tr0 hs⟩
  | 58,h=>
   obtain⟨S82,c82,B82,m82,n82,e82,hz82⟩:=h;exact⟨S82,c82,B82,m82,n82,e82,hz82.tr0 hs⟩
  | 59,h=>
   obtain⟨S83,c83,B83,m83,n83,e83,hz83⟩:=h;exact⟨S83,c83,B83,m83,n83,e83,hz83.tr0 hs⟩
  | 60,h=>
   obtain⟨S84,c84,B84,m84,n84,e84,hz84⟩:=h;exact⟨S84,c84,B84,m84,n84,e84,hz84.tr0 hs⟩
  | 61,h=>
   obtain⟨S85,c85,B85,m85,n85,e85,hz85⟩:=h;exact⟨S85,c85,B85,m85,n85,e85,hz85.tr0 hs⟩
  | 62,h=>
   obtain⟨S86,c86,B86,m86,n86,e86,hz86⟩:=h;exact⟨S86,c86,B86,m86,n86,e86,hz86.tr0 hs⟩
  | 63,h=>
   obtain⟨S87,c87,B87,m87,n87,e87,hz87⟩:=h;exact⟨S87,c87,B87,m87,n87,e87,hz87.tr0 hs⟩
  | 64,h=>
   obtain⟨S88,c88,B88,m88,n88,e88,hz88⟩:=h;exact⟨S88,c88,B88,m88,n88,e88,hz88.tr0 hs⟩
  | 65,h=>
   obtain⟨S89,c89,B89,m89,n89,e89,hz89⟩:=h;exact⟨S89,c89,B89,m89,n89,e89,hz89.tr0 hs⟩
  | 66,h=>
   exact MnR.tr0 h hs
  | 67,h=>
   exact MnR.tr0 h hs
  | _ + 68,h=>exact trivial
 ·intro ix o hix hoq gg wx hs hd hdis
  match ix,hix,hoq with
  | 0,_,hoq=>
   cases sI hoq;replace hb6:=hb6.tr0 hs;exact oV (zW U52 rfl rfl hb6.range0 qq) rfl
  | 1,_,hoq=>
   cases sI hoq;replace hb5:=hb5.tr0 hs;exact oV (zW U52 rfl rfl hb5.range0 qq) rfl
  | 2,_,hoq=>
   cases sI hoq;refine qx gY (yW [] 1 wx) rfl (fun e' w2 hr=>?_);obtain⟨⟨_,rfl,hd⟩,hs⟩:=hr;exact⟨_,rfl,sB hs,hd,zX⟩
  | 3,_,hoq=>
   cases sI hoq;refine qx gY (yW [] 0 wx) rfl (fun e' w2 hr=>?_);obtain⟨⟨_,rfl,hd⟩,hs⟩:=hr;exact⟨_,rfl,sB hs,hd,zX⟩
  | 4,_,hoq=>
   cases sI hoq;obtain⟨S26,c26,B26,m26,n26,e26,hz26⟩:=hd 2 (zz kR);obtain⟨S27,c27,B27,m27,n27,e27,hz27⟩:=hd 3 (zz kR);refine z4 26 (.agg #[.int .i64 (Dj).tm.kind,.string (Dj).tm.name,.int .i64 (Dj).tm.index,.string (Dj).tm.type.base,.slice S26 (Dj).tm.type.args.length c26,.slice B26 (Dj).tm.args.length m26]) e26 nu (z4 27 (.agg #[.int .i64 (Dx).tm.kind,.string (Dx).tm.name,.int .i64 (Dx).tm.index,.string (Dx).tm.type.base,.slice S27 (Dx).tm.type.args.length c27,.slice B27 (Dx).tm.args.length m27]) e27 nu ?_);refine qx Qj (o5 [] Dj Dx _ _ _ _ _ _ _ _ _ _ wx (by simp) hz26 hz27) rfl (fun e' w2 hr=>?_);obtain⟨⟨_,rfl,hd⟩,hs⟩:=hr;exact⟨_,rfl,sB hs,hd,zX⟩
  | 5,_,hoq=>
   cases sI hoq;replace hz14:=hz14.tr0 hs;obtain⟨S28,c28,B28,m28,n28,e28,hz28⟩:=hd 4 (zz kR);refine z4 25 (.agg #[.string (mS5).sm.base,.slice A14 (mS5).sm.args.length c14]) (hd 1 (zz kR)) nu (z4 28 (.agg #[.int .i64 (Dq).tm.kind,.string (Dq).tm.name,.int .i64 (Dq).tm.index,.string (Dq).tm.type.base,.slice S28 (Dq).tm.type.args.length c28,.slice B28 (Dq).tm.args.length m28]) e28 nu ?_);refine qx Z0 (kw [] mS5 Dq _ _ _ _ _ _ _ _ wx (by simp) hz14 hz28) rfl (fun e' w2 hr=>?_);obtain⟨⟨_,rfl,hd⟩,hs⟩:=hr;exact⟨_,rfl,sB hs,hd,zX⟩
  | 6,_,hoq=>
   cases sI hoq;replace hz17:=hz17.tr0 hs;obtain⟨S29,c29,B29,m29,n29,e29,hz29⟩:=hd 5 (zz kR);refine z4 24 (.agg #[.string (mS6).sm.base,.slice A17 (mS6).sm.args.length c17]) (hd 0 (zz kR)) nu (z4 29 (.agg #[.int .i64 (Dz).tm.kind,.string (Dz).tm.name,.int .i64 (Dz).tm.index,.string (Dz).tm.type.base,.slice S29 (Dz).tm.type.args.length c29,.slice B29 (Dz).tm.args.length m29]) e29 nu ?_);refine qx Z0 (kw [] mS6 Dz _ _ _ _ _ _ _ _ wx (by simp) hz17 hz29) rfl (fun e' w2 hr=>?_);obtain⟨⟨_,rfl,hd⟩,hs⟩:=hr;exact⟨_,rfl,sB hs,hd,zX⟩
  | 7,_,hoq=>
   cases sI hoq;replace hb8:=hb8.tr0 hs;exact oV (zW U52 rfl rfl hb8.range0 qq) rfl
  | 8,_,hoq=>
   cases sI hoq;replace hb5:=hb5.tr0 hs;exact oV (zW U52 rfl rfl hb5.range0 qq) rfl
  | 9,_,hoq=>
   cases sI hoq;refine qx gY (yW [] 1 wx) rfl (fun e' w2 hr=>?_);obtain⟨⟨_,rfl,hd⟩,hs⟩:=hr;exact⟨_,rfl,sB hs,hd,zX⟩
  | 10,_,hoq=>
   cases sI hoq;refine qx gY (yW [] 0 wx) rfl (fun e' w2 hr=>?_);obtain⟨⟨_,rfl,hd⟩,hs⟩:=hr;exact⟨_,rfl,sB hs,hd,zX⟩
  | 11,_,hoq=>
   cases sI hoq;obtain⟨S33,c33,B33,m33,n33,e33,hz33⟩:=hd 9 (zz kR);obtain⟨S34,c34,B34,m34,n34,e34,hz34⟩:=hd 10 (zz kR);refine z4 33 (.agg #[.int .i64 (D9).tm.kind,.string (D9).tm.name,.int .i64 (D9).tm.index,.string (D9).tm.type.base,.slice S33 (D9).tm.type.args.length c33,.slice B33 (D9).tm.args.length m33]) e33 nu (z4 34 (.agg #[.int .i64 (D8).tm.kind,.string (D8).tm.name,.int .i64 (D8).tm.index,.string (D8).tm.type.base,.slice S34 (D8).tm.type.args.length c34,.slice B34 (D8).tm.args.length m34]) e34 nu ?_);refine qx Qj (o5 [] D9 D8 _ _ _ _ _ _ _ _ _ _ wx (by simp) hz33 hz34) rfl (fun e' w2 hr=>?_);obtain⟨⟨_,rfl,hd⟩,hs⟩:=hr;exact⟨_,rfl,sB hs,hd,zX⟩
  | 12,_,hoq=>
   cases sI hoq;replace hz14:=hz14.tr0 hs;obtain⟨S35,c35,B35,m35,n35,e35,hz35⟩:=hd 11 (zz kR);refine z4 32 (.agg #[.string (mS5).sm.base,.slice A14 (mS5).sm.args.length c14]) (hd 8 (zz kR)) nu (z4 35 (.agg #[.int .i64 (D7).tm.kind,.string (D7).tm.name,.int .i64 (D7).tm.index,.string (D7).tm.type.base,.slice S35 (D7).tm.type.args.length c35,.slice B35 (D7).tm.args.length m35]) e35 nu ?_);refine qx Z0 (kw [] mS5 D7 _ _ _ _ _ _ _ _ wx (by simp) hz14 hz35) rfl (fun e' w2 hr=>?_);obtain⟨⟨_,rfl,hd⟩,hs⟩:=hr;exact⟨_,rfl,sB hs,hd,zX⟩
  | 13,_,hoq=>
   cases sI hoq;replace hz23:=hz23.tr0 hs;obtain⟨S36,c36,B36,m36,n36,e36,hz36⟩:=hd 12 (zz kR);refine z4 31 (.agg #[.string (mS8).sm.base,.slice A23 (mS8).sm.args.length c23]) (hd 7 (zz kR)) nu (z4 36 (.agg #[.int .i64 (D6).tm.kind,.string (D6).tm.name,.int .i64 (D6).tm.index,.string (D6).tm.type.base,.slice S36 (D6).tm.type.args.length c36,.slice B36 (D6).tm.args.length m36]) e36 nu ?_);refine qx Z0 (kw [] mS8 D6 _ _ _ _ _ _ _ _ wx (by simp) hz23 hz36) rfl (fun e' w2 hr=>?_);obtain⟨⟨_,rfl,hd⟩,hs⟩:=hr;exact⟨_,rfl,sB hs,hd,zX⟩
  | 14,_,hoq=>
   cases sI hoq;replace hb5:=hb5.tr0 hs;exact oV (zW U52 rfl rfl hb5.range0 qq) rfl
  | 15,_,hoq=>
   cases sI hoq;refine qx gY (yW [] 0 wx) rfl (fun e' w2 hr=>?_);obtain⟨⟨_,rfl,hd⟩,hs⟩:=hr;exact⟨_,rfl,sB hs,hd,zX⟩
  | 16,_,hoq=>
   cases sI hoq;replace hz14:=hz14.tr0 hs;obtain⟨S39,c39,B39,m39,n39,e39,hz39⟩:=hd 15 (zz kR);refine z4 38 (.agg #[.string (mS5).sm.base,.slice A14 (mS5).sm.args.length c14]) (hd 14 (zz kR)) nu (z4 39 (.agg #[.int .i64 (D5).tm.kind,.string (D5).tm.name,.int .i64 (D5).tm.index,.string (D5).tm.type.base,.slice S39 (D5).tm.type.args.length c39,.slice B39 (D5).tm.args.length m39]) e39 nu ?_);refine qx Z0 (kw [] mS5 D5 _ _ _ _ _ _ _ _ wx (by simp) hz14 hz39) rfl (fun e' w2 hr=>?_);obtain⟨⟨_,rfl,hd⟩,hs⟩:=hr;exact⟨_,rfl,sB hs,hd,zX⟩
  | 17,_,hoq=>
   cases sI hoq;replace hb7:=hb7.tr0 hs;exact oV (zW U52 rfl rfl hb7.range0 qq) rfl
  | 18,_,hoq=>
   cases sI hoq;replace hb6:=hb6.tr0 hs;exact oV (zW U52 rfl rfl hb6.range0 qq) rfl
  | 19,_,hoq=>
   cases sI hoq;replace hb3:=hb3.tr0 hs;exact oV (zW U52 rfl rfl hb3.range0 qq) rfl
  | 20,_,hoq=>
   cases sI hoq;refine qx gY (yW [] 1 wx) rfl (fun e' w2 hr=>?_);obtain⟨⟨_,rfl,hd⟩,hs⟩:=hr;exact⟨_,rfl,sB hs,hd,zX⟩
  | 21,_,hoq=>
   cases sI hoq;replace hb3:=hb3.tr0 hs;exact oV (zW U52 rfl rfl hb3.range0 qq) rfl
  | 22,_,hoq=>
   cases sI hoq;refine qx gY (yW [] 3 wx) rfl (fun e' w2 hr=>?_);obtain⟨⟨_,rfl,hd⟩,hs⟩:=hr;exact⟨_,rfl,sB hs,hd,zX⟩
  | 23,_,hoq=>
   cases sI hoq;refine qx gY (yW [] 1 wx) rfl (fun e' w2 hr=>?_);obtain⟨⟨_,rfl,hd⟩,hs⟩:=hr;exact⟨_,rfl,sB hs,hd,zX⟩
  | 24,_,hoq=>
   cases sI hoq;obtain⟨S46,c46,B46,m46,n46,e46,hz46⟩:=hd 22 (zz kR);obtain⟨S47,c47,B47,m47,n47,e47,hz47⟩:=hd 23 (zz kR);refine z4 46 (.agg #[.int .i64 (D3).tm.kind,.string (D3).tm.name,.int .i64 (D3).tm.index,.string (D3).tm.type.base,.slice S46 (D3).tm.type.args.length c46,.slice B46 (D3).tm.args.length m46]) e46 nu (z4 47 (.agg #[.int .i64 (D2).tm.kind,.string (D2).tm.name,.int .i64 (D2).tm.index,.string (D2).tm.type.base,.slice S47 (D2).tm.type.args.length c47,.slice B47 (D2).tm.args.length m47]) e47 nu ?_);refine qx Qj (o5 [] D3 D2 _ _ _ _ _ _ _ _ _ _ wx (by simp) hz46 hz47) rfl (fun e' w2 hr=>?_);obtain⟨⟨_,rfl,hd⟩,hs⟩:=hr;exact⟨_,rfl,sB hs,hd,zX⟩
  | 25,_,hoq=>
   cases sI hoq;refine qx gY (yW [] 0 wx) rfl (fun e' w2 hr=>?_);obtain⟨⟨_,rfl,hd⟩,hs⟩:=hr;exact⟨_,rfl,sB hs,hd,zX⟩
  | 26,_,hoq=>
   cases sI hoq;obtain⟨S48,c48,B48,m48,n48,e48,hz48⟩:=hd 24 (zz kR);obtain⟨S49,c49,B49,m49,n49,e49,hz49⟩:=hd 25 (zz kR);refine z4 48 (.agg #[.int .i64 (D1).tm.kind,.string (D1).tm.name,.int .i64 (D1).tm.index,.string (D1).tm.type.base,.slice S48 (D1).tm.type.args.length c48,.slice B48 (D1).tm.args.length m48]) e48 nu (z4 49 (.agg #[.int .i64 (D0).tm.kind,.string (D0).tm.name,.int .i64 (D0).tm.index,.string (D0).tm.type.base,.slice S49 (D0).tm.type.args.length c49,.slice B49 (D0).tm.args.length m49]) e49 nu ?_);refine qx Qj (o5 [] D1 D0 _ _ _ _ _ _ _ _ _ _ wx (by simp) hz48 hz49) rfl (fun e' w2 hr=>?_);obtain⟨⟨_,rfl,hd⟩,hs⟩:=hr;exact⟨_,rfl,sB hs,hd,zX⟩
  | 27,_,hoq=>
   cases sI hoq;obtain⟨S50,c50,B50,m50,n50,e50,hz50⟩:=hd 26 (zz kR);refine z4 45 (.agg #[.string ((Ts.b false)).sm.base,.slice none ((Ts.b false)).sm.args.length 0]) (hd 21 (zz kR)) nu (z4 50 (.agg #[.int .i64 (PY).tm.kind,.string (PY).tm.name,.int .i64 (PY).tm.index,.string (PY).tm.type.base,.slice S50 (PY).tm.type.args.length c50,.slice B50 (PY).tm.args.length m50]) e50 nu ?_);refine qx Z0 (kw [] (Ts.b false) PY _ _ _ _ _ _ _ _ wx (by simp) (Fz.triv _ _ TS (fun _=>SimsIn.nil)) hz50) rfl (fun e' w2 hr=>?_);obtain⟨⟨_,rfl,hd⟩,hs⟩:=hr;exact⟨_,rfl,sB hs,hd,zX⟩
  | 28,_,hoq=>
   cases sI hoq;obtain⟨S44,c44,B44,m44,n44,e44,hz44⟩:=hd 20 (zz kR);obtain⟨S51,c51,B51,m51,n51,e51,hz51⟩:=hd 27 (zz kR);refine z4 44 (.agg #[.int .i64 (D4).tm.kind,.string (D4).tm.name,.int .i64 (D4).tm.index,.string (D4).tm.type.base,.slice S44 (D4).tm.type.args.length c44,.slice B44 (D4).tm.args.length m44]) e44 nu (z4 51 (.agg #[.int .i64 (PW).tm.kind,.string (PW).tm.name,.int .i64 (PW).tm.index,.string (PW).tm.type.base,.slice S51 (PW).tm.type.args.length c51,.slice B51 (PW).tm.args.length m51]) e51 nu ?_);refine qx Qj (o5 [] D4 PW _ _ _ _ _ _ _ _ _ _ wx (by simp) hz44 hz51) rfl (fun e' w2 hr=>?_);obtain⟨⟨_,rfl,hd⟩,hs⟩:=hr;exact⟨_,rfl,sB hs,hd,zX⟩
  | 29,_,hoq=>
   cases sI hoq;obtain⟨S52,c52,B52,m52,n52,e52,hz52⟩:=hd 28 (zz kR);refine z4 43 (.agg #[.string ((Ts.b false)).sm.base,.slice none ((Ts.b false)).sm.args.length 0]) (hd 19 (zz kR)) nu (z4 52 (.agg #[.int .i64 (PV).tm.kind,.string (PV).tm.name,.int .i64 (PV).tm.index,.string (PV).tm.type.base,.slice S52 (PV).tm.type.args.length c52,.slice B52 (PV).tm.args.length m52]) e52 nu ?_);refine qx Z0 (kw [] (Ts.b false) PV _ _ _ _ _ _ _ _ wx (by simp) (Fz.triv _ _ TS (fun _=>SimsIn.nil)) hz52) rfl (fun e' w2 hr=>?_);obtain⟨⟨_,rfl,hd⟩,hs⟩:=hr;exact⟨_,rfl,sB hs,hd,zX⟩
  | 30,_,hoq=>
   cases sI hoq;replace hz17:=hz17.tr0 hs;obtain⟨S53,c53,B53,m53,n53,e53,hz53⟩:=hd 29 (zz kR);refine z4 42 (.agg #[.string (mS6).sm.base,.slice A17 (mS6).sm.args.length c17]) (hd 18 (zz kR)) nu (z4 53 (.agg #[.int .i64 (PK).tm.kind,.string (PK).tm.name,.int .i64 (PK).tm.index,.string (PK).tm.type.base,.slice S53 (PK).tm.type.args.length c53,.slice B53 (PK).tm.args.length m53]) e53 nu ?_);refine qx Z0 (kw [] mS6 PK _ _ _ _ _ _ _ _ wx (by simp) hz17 hz53) rfl (fun e' w2 hr=>?_);obtain⟨⟨_,rfl,hd⟩,hs⟩:=hr;exact⟨_,rfl,sB hs,hd,zX⟩
  | 31,_,hoq=>
   cases sI hoq;replace hz20:=hz20.tr0 hs;obtain⟨S54,c54,B54,m54,n54,e54,hz54⟩:=hd 30 (zz kR);refine z4 41 (.agg #[.string (mS7).sm.base,.slice A20 (mS7).sm.args.length c20]) (hd 17 (zz kR)) nu (z4 54 (.agg #[.int .i64 (PJ).tm.kind,.string (PJ).tm.name,.int .i64 (PJ).tm.index,.string (PJ).tm.type.base,.slice S54 (PJ).tm.type.args.length c54,.slice B54 (PJ).tm.args.length m54]) e54 nu ?_);refine qx Z0 (kw [] mS7 PJ _ _ _ _ _ _ _ _ wx (by simp) hz20 hz54) rfl (fun e' w2 hr=>?_);obtain⟨⟨_,rfl,hd⟩,hs⟩:=hr;exact⟨_,rfl,sB hs,hd,zX⟩
  | 32,_,hoq=>
   cases sI hoq;replace hb4:=hb4.tr0 hs;exact oV (zW U52 rfl rfl hb4.range0 qq) rfl
  | 33,_,hoq=>
   cases sI hoq;replace hb4:=hb4.tr0 hs;exact oV (zW U52 rfl rfl hb4.range0 qq) rfl
  | 34,_,hoq=>
   cases sI hoq;refine z4 56 (.agg #[.string ((Ts.b true)).sm.base,.slice none ((Ts.b true)).sm.args.length 0]) (hd 32 (zz kR)) nu (z4 57 (.agg #[.string ((Ts.b true)).sm.base,.slice none ((Ts.b true)).sm.args.length 0]) (hd 33 (zz kR)) nu ?_);refine qx QY (o7 [] (Ts.b true) (Ts.b true) _ _ _ _ _ _ wx (by simp) (Fz.triv _ _ TS (fun _=>SimsIn.nil)) (Fz.triv _ _ TS (fun _=>SimsIn.nil))) rfl (fun e' w2 hr=>?_);obtain⟨⟨_,rfl,hd⟩,hs⟩:=hr;exact⟨_,rfl,sB hs,hd,zX⟩
  | 35,_,hoq=>
   cases sI hoq;replace hb5:=hb5.tr0 hs;exact oV (zW U52 rfl rfl hb5.range0 qq) rfl
  | 36,_,hoq=>
   cases sI hoq;replace hb3:=hb3.tr0 hs;exact oV (zW U52 rfl rfl hb3.range0 qq) rfl
  | 37,_,hoq=>
   cases sI hoq;refine qx gY (yW [] 2 wx) rfl (fun e' w2 hr=>?_);obtain⟨⟨_,rfl,hd⟩,hs⟩:=hr;exact⟨_,rfl,sB hs,hd,zX⟩
  | 38,_,hoq=>
   cases sI hoq;refine qx gY (yW [] 1 wx) rfl (fun e' w2 hr=>?_);obtain⟨⟨_,rfl,hd⟩,hs⟩:=hr;exact⟨_,rfl,sB hs,hd,zX⟩
  | 39,_,hoq=>
   cases sI hoq;refine qx gY (yW [] 0 wx) rfl (fun e' w2 hr=>?_);obtain⟨⟨_,rfl,hd⟩,hs⟩:=hr;exact⟨_,rfl,sB hs,hd,zX⟩
  | 40,_,hoq=>
   cases sI hoq;obtain⟨S62,c62,B62,m62,n62,e62,hz62⟩:=hd 38 (zz kR);obtain⟨S63,c63,B63,m63,n63,e63,hz63⟩:=hd 39 (zz kR);refine z4 62 (.agg #[.int .i64 (PQ).tm.kind,.string (PQ).tm.name,.int .i64 (PQ).tm.index,.string (PQ).tm.type.base,.slice S62 (PQ).tm.type.args.length c62,.slice B62 (PQ).tm.args.length m62]) e62 nu (z4 63 (.agg #[.int .i64 (PZ).tm.kind,.string (PZ).tm.name,.int .i64 (PZ).tm.index,.string (PZ).tm.type.base,.slice S63 (PZ).tm.type.args.length c63,.slice B63 (PZ).tm.args.length m63]) e63 nu ?_);refine qx Qj (o5 [] PQ PZ _ _ _ _ _ _ _ _ _ _ wx (by simp) hz62 hz63) rfl (fun e' w2 hr=>?_);obtain⟨⟨_,rfl,hd⟩,hs⟩:=hr;exact⟨_,rfl,sB hs,hd,zX⟩
  | 41,_,hoq=>
   cases sI hoq;obtain⟨S61,c61,B61,m61,n61,e61,hz61⟩:=hd 37 (zz kR);obtain⟨S64,c64,B64,m64,n64,e64,hz64⟩:=hd 40 (zz kR);refine z4 61 (.agg #[.int .i64 (PX).tm.kind,.string (PX).tm.name,.int .i64 (PX).tm.index,.string (PX).tm.type.base,.slice S61 (PX).tm.type.args.length c61,.slice B61 (PX).tm.args.length m61]) e61 nu (z4 64 (.agg #[.int .i64 (Py).tm.kind,.string (Py).tm.name,.int .i64 (Py).tm.index,.string (Py).tm.type.base,.slice S64 (Py).tm.type.args.length c64,.slice B64 (Py).tm.args.length m64]) e64 nu ?_);refine qx Qj (o5 [] PX Py _ _ _ _ _ _ _ _ _ _ wx (by simp) hz61 hz64) rfl (fun e' w2 hr=>?_);obtain⟨⟨_,rfl,hd⟩,hs⟩:=hr;exact⟨_,rfl,sB hs,hd,zX⟩
  | 42,_,hoq=>
   cases sI hoq;obtain⟨S65,c65,B65,m65,n65,e65,hz65⟩:=hd 41 (zz kR);refine z4 60 (.agg #[.string ((Ts.b false)).sm.base,.slice none ((Ts.b false)).sm.args.length 0]) (hd 36 (zz kR)) nu (z4 65 (.agg #[.int .i64 (Pw).tm.kind,.string (Pw).tm.name,.int .i64 (Pw).tm.index,.string (Pw).tm.type.base,.slice S65 (Pw).tm.type.args.length c65,.slice B65 (Pw).tm.args.length m65]) e65 nu ?_);refine qx Z0 (kw [] (Ts.b false) Pw _ _ _ _ _ _ _ _ wx (by simp) (Fz.triv _ _ TS (fun _=>SimsIn.nil)) hz65) rfl (fun e' w2 hr=>?_);obtain⟨⟨_,rfl,hd⟩,hs⟩:=hr;exact⟨_,rfl,sB hs,hd,zX⟩
  | 43,_,hoq=>
   cases sI hoq;replace hz14:=hz14.tr0 hs;obtain⟨S66,c66,B66,m66,n66,e66,hz66⟩:=hd 42 (zz kR);refine z4 59 (.agg #[.string (mS5).sm.base,.slice A14 (mS5).sm.args.length c14]) (hd 35 (zz kR)) nu (z4 66 (.agg #[.int .i64 (Pv).tm.kind,.string (Pv).tm.name,.int .i64 (Pv).tm.index,.string (Pv).tm.type.base,.slice S66 (Pv).tm.type.args.length c66,.slice B66 (Pv).tm.args.length m66]) e66 nu ?_);refine qx Z0 (kw [] mS5 Pv _ _ _ _ _ _ _ _ wx (by simp) hz14 hz66) rfl (fun e' w2 hr=>?_);obtain⟨⟨_,rfl,hd⟩,hs⟩:=hr;exact⟨_,rfl,sB hs,hd,zX⟩
  | 44,_,hoq=>
   cases sI hoq;obtain⟨A58,c58,n58,e58,hz58⟩:=hd 34 (zz kR);obtain⟨S67,c67,B67,m67,n67,e67,hz67⟩:=hd 43 (zz kR);refine z4 58 (.agg #[.string (mT58).sm.base,.slice A58 (mT58).sm.args.length c58]) e58 nu (z4 67 (.agg #[.int .i64 (Pk).tm.kind,.string (Pk).tm.name,.int .i64 (Pk).tm.index,.string (Pk).tm.type.base,.slice S67 (Pk).tm.type.args.length c67,.slice B67 (Pk).tm.args.length m67]) e67 nu ?_);refine qx Z0 (kw [] mT58 Pk _ _ _ _ _ _ _ _ wx (by simp) hz58 hz67) rfl (fun e' w2 hr=>?_);obtain⟨⟨_,rfl,hd⟩,hs⟩:=hr;exact⟨_,rfl,sB hs,hd,zX⟩
  | 45,_,hoq=>
   cases sI hoq;replace hb6:=hb6.tr0 hs;exact oV (zW U52 rfl rfl hb6.range0 qq) rfl
  | 46,_,hoq=>
   cases sI hoq;replace hb4:=hb4.tr0 hs;exact oV (zW U52 rfl rfl hb4.range0 qq) rfl
  | 47,_,hoq=>
   cases sI hoq;replace hb4:=hb4.tr0 hs;exact oV (zW U52 rfl rfl hb4.range0 qq) rfl
  | 48,_,hoq=>
   cases sI hoq;replace hb4:=hb4.tr0 hs;exact oV (zW U52 rfl rfl hb4.range0 qq) rfl
  | 49,_,hoq=>
   cases sI hoq;refine z4 71 (.agg #[.string ((Ts.b true)).sm.base,.slice none ((Ts.b true)).sm.args.length 0]) (hd 47 (zz kR)) nu (z4 72 (.agg #[.string ((Ts.b true)).sm.base,.slice none ((Ts.b true)).sm.args.length 0]) (hd 48 (zz kR)) nu ?_);refine qx QY (o7 [] (Ts.b true) (Ts.b true) _ _ _ _ _ _ wx (by simp) (Fz.triv _ _ TS (fun _=>SimsIn.nil)) (Fz.triv _ _ TS (fun _=>SimsIn.nil))) rfl (fun e' w2 hr=>?_);obtain⟨⟨_,rfl,hd⟩,hs⟩:=hr;exact⟨_,rfl,sB hs,hd,zX⟩
  | 50,_,hoq=>
   cases sI hoq;obtain⟨A73,c73,n73,e73,hz73⟩:=hd 49 (zz kR);refine z4 70 (.agg #[.string ((Ts.b true)).sm.base,.slice none ((Ts.b true)).sm.args.length 0]) (hd 46 (zz kR)) nu (z4 73 (.agg #[.string (mT73).sm.base,.slice A73 (mT73).sm.args.length c73]) e73 nu ?_);refine qx QY (o7 [] (Ts.b true) mT73 _ _ _ _ _ _ wx (by simp) (Fz.triv _ _ TS (fun _=>SimsIn.nil)) hz73) rfl (fun e' w2 hr=>?_);obtain⟨⟨_,rfl,hd⟩,hs⟩:=hr;exact⟨_,rfl,sB hs,hd,zX⟩
  | 51,_,hoq=>
   cases sI hoq;replace hb6:=hb6.tr0 hs;exact oV (zW U52 rfl rfl hb6.range0 qq) rfl
  | 52,_,hoq=>
   cases sI hoq;replace hb5:=hb5.tr0 hs;exact oV (zW U52 rfl rfl hb5.range0 qq) rfl
  | 53,_,hoq=>
   cases sI hoq;refine qx gY (yW [] 2 wx) rfl (fun e' w2 hr=>?_);obtain⟨⟨_,rfl,hd⟩,hs⟩:=hr;exact⟨_,rfl,sB hs,hd,zX⟩
  | 54,_,hoq=>
   cases sI hoq;refine qx gY (yW [] 3 wx) rfl (fun e' w2 hr=>?_);obtain⟨⟨_,rfl,hd⟩,hs⟩:=hr;exact⟨_,rfl,sB hs,hd,zX⟩
  | 55,_,hoq=>
   cases sI hoq;refine qx gY (yW [] 0 wx) rfl (fun e' w2 hr=>?_);obtain⟨⟨_,rfl,hd⟩,hs⟩:=hr;exact⟨_,rfl,sB hs,hd,zX⟩
  | 56,_,hoq=>
   cases sI hoq;obtain⟨S78,c78,B78,m78,n78,e78,hz78⟩:=hd 54 (zz kR);obtain⟨S79,c79,B79,m79,n79,e79,hz79⟩:=hd 55 (zz kR);refine z4 78 (.agg #[.int .i64 (Px).tm.kind,.string (Px).tm.name,.int .i64 (Px).tm.index,.string (Px).tm.type.base,.slice S78 (Px).tm.type.args.length c78,.slice B78 (Px).tm.args.length m78]) e78 nu (z4 79 (.agg #[.int .i64 (Pq).tm.kind,.string (Pq).tm.name,.int .i64 (Pq).tm.index,.string (Pq).tm.type.base,.slice S79 (Pq).tm.type.args.length c79,.slice B79 (Pq).tm.args.length m79]) e79 nu ?_);refine qx Qj (o5 [] Px Pq _ _ _ _ _ _ _ _ _ _ wx (by simp) hz78 hz79) rfl (fun e' w2 hr=>?_);obtain⟨⟨_,rfl,hd⟩,hs⟩:=hr;exact⟨_,rfl,sB hs,hd,zX⟩
  | 57,_,hoq=>
   cases sI hoq;obtain⟨S77,c77,B77,m77,n77,e77,hz77⟩:=hd 53 (zz kR);obtain⟨S80,c80,B80,m80,n80,e80,hz80⟩:=hd 56 (zz kR);refine z4 77 (.agg #[.int .i64 (Pj).tm.kind,.string (Pj).tm.name,.int .i64 (Pj).tm.index,.string (Pj).tm.type.base,.slice S77 (Pj).tm.type.args.length c77,.slice B77 (Pj).tm.args.length m77]) e77 nu (z4 80 (.agg #[.int .i64 (Pz).tm.kind,.string (Pz).tm.name,.int .i64 (Pz).tm.index,.string (Pz).tm.type.base,.slice S80 (Pz).tm.type.args.length c80,.slice B80 (Pz).tm.args.length m80]) e80 nu ?_);refine qx Qj (o5 [] Pj Pz _ _ _ _ _ _ _ _ _ _ wx (by simp) hz77 hz80) rfl (fun e' w2 hr=>?_);obtain⟨⟨_,rfl,hd⟩,hs⟩:=hr;exact⟨_,rfl,sB hs,hd,zX⟩
  | 58,_,hoq=>
   cases sI hoq;refine qx gY (yW [] 1 wx) rfl (fun e' w2 hr=>?_);obtain⟨⟨_,rfl,hd⟩,hs⟩:=hr;exact⟨_,rfl,sB hs,hd,zX⟩
  | 59,_,hoq=>
   cases sI hoq;refine qx gY (yW [] 0 wx) rfl (fun e' w2 hr=>?_);obtain⟨⟨_,rfl,hd⟩,hs⟩:=hr;exact⟨_,rfl,sB hs,hd,zX⟩
  | 60,_,hoq=>
   cases sI hoq;obtain⟨S82,c82,B82,m82,n82,e82,hz82⟩:=hd 58 (zz kR);obtain⟨S83,c83,B83,m83,n83,e83,hz83⟩:=hd 59 (zz kR);refine z4 82 (.agg #[.int .i64 (P8).tm.kind,.string (P8).tm.name,.int .i64 (P8).tm.index,.string (P8).tm.type.base,.slice S82 (P8).tm.type.args.length c82,.slice B82 (P8).tm.args.length m82]) e82 nu (z4 83 (.agg #[.int .i64 (P7).tm.kind,.string (P7).tm.name,.int .i64 (P7).tm.index,.string (P7).tm.type.base,.slice S83 (P7).tm.type.args.length c83,.slice B83 (P7).tm.args.length m83]) e83 nu ?_);refine qx Qj (o5 [] P8 P7 _ _ _ _ _ _ _ _ _ _ wx (by simp) hz82 hz83) rfl (fun e' w2 hr=>?_);obtain⟨⟨_,rfl,hd⟩,hs⟩:=hr;exact⟨_,rfl,sB hs,hd,zX⟩
  | 61,_,hoq=>
   cases sI hoq;obtain⟨S81,c81,B81,m81,n81,e81,hz81⟩:=hd 57 (zz kR);obtain⟨S84,c84,B84,m84,n84,e84,hz84⟩:=hd 60 (zz kR);refine z4 81 (.agg #[.int .i64 (P9).tm.kind,.string (P9).tm.name,.int .i64 (P9).tm.index,.string (P9).tm.type.base,.slice S81 (P9).tm.type.args.length c81,.slice B81 (P9).tm.args.length m81]) e81 nu (z4 84 (.agg #[.int .i64 (P6).tm.kind,.string (P6).tm.name,.int .i64 (P6).tm.index,.string (P6).tm.type.base,.slice S84 (P6).tm.type.args.length c84,.slice B84 (P6).tm.args.length m84]) e84 nu ?_);refine qx Qj (o5 [] P9 P6 _ _ _ _ _ _ _ _ _ _ wx (by simp) hz81 hz84) rfl (fun e' w2 hr=>?_);obtain⟨⟨_,rfl,hd⟩,hs⟩:=hr;exact⟨_,rfl,sB hs,hd,zX⟩
  | 62,_,hoq=>
   cases sI hoq;replace hz14:=hz14.tr0 hs;obtain⟨S85,c85,B85,m85,n85,e85,hz85⟩:=hd 61 (zz kR);refine z4 76 (.agg #[.string (mS5).sm.base,.slice A14 (mS5).sm.args.length c14]) (hd 52 (zz kR)) nu (z4 85 (.agg #[.int .i64 (P5).tm.kind,.string (P5).tm.name,.int .i64 (P5).tm.index,.string (P5).tm.type.base,.slice S85 (P5).tm.type.args.length c85,.slice B85 (P5).tm.args.length m85]) e85 nu ?_);refine qx Z0 (kw [] mS5 P5 _ _ _ _ _ _ _ _ wx (by simp) hz14 hz85) rfl (fun e' w2 hr=>?_);obtain⟨⟨_,rfl,hd⟩,hs⟩:=hr;exact⟨_,rfl,sB hs,hd,zX⟩
  | 63,_,hoq=>
   cases sI hoq;replace hz17:=hz17.tr0 hs;obtain⟨S86,c86,B86,m86,n86,e86,hz86⟩:=hd 62 (zz kR);refine z4 75 (.agg #[.string (mS6).sm.base,.slice A17 (mS6).sm.args.length c17]) (hd 51 (zz kR)) nu (z4 86 (.agg #[.int .i64 (P4).tm.kind,.string (P4).tm.name,.int .i64 (P4).tm.index,.string (P4).tm.type.base,.slice S86 (P4).tm.type.args.length c86,.slice B86 (P4).tm.args.length m86]) e86 nu ?_);refine qx Z0 (kw [] mS6 P4 _ _ _ _ _ _ _ _ wx (by simp) hz17 hz86) rfl (fun e' w2 hr=>?_);obtain⟨⟨_,rfl,hd⟩,hs⟩:=hr;exact⟨_,rfl,sB hs,hd,zX⟩
  | 64,_,hoq=>
   cases sI hoq;obtain⟨A74,c74,n74,e74,hz74⟩:=hd 50 (zz kR);obtain⟨S87,c87,B87,m87,n87,e87,hz87⟩:=hd 63 (zz kR);refine z4 74 (.agg #[.string (mT74).sm.base,.slice A74 (mT74).sm.args.length c74]) e74 nu (z4 87 (.agg #[.int .i64 (P3).tm.kind,.string (P3).tm.name,.int .i64 (P3).tm.index,.string (P3).tm.type.base,.slice S87 (P3).tm.type.args.length c87,.slice B87 (P3).tm.args.length m87]) e87 nu ?_);refine qx Z0 (kw [] mT74 P3 _ _ _ _ _ _ _ _ wx (by simp) hz74 hz87) rfl (fun e' w2 hr=>?_);obtain⟨⟨_,rfl,hd⟩,hs⟩:=hr;exact⟨_,rfl,sB hs,hd,zX⟩
  | 65,_,hoq=>
   cases sI hoq;replace hz17:=hz17.tr0 hs;obtain⟨S88,c88,B88,m88,n88,e88,hz88⟩:=hd 64 (zz kR);refine z4 69 (.agg #[.string (mS6).sm.base,.slice A17 (mS6).sm.args.length c17]) (hd 45 (zz kR)) nu (z4 88 (.agg #[.int .i64 (P2).tm.kind,.string (P2).tm.name,.int .i64 (P2).tm.index,.string (P2).tm.type.base,.slice S88 (P2).tm.type.args.length c88,.slice B88 (P2).tm.args.length m88]) e88 nu ?_);refine qx Z0 (kw [] mS6 P2 _ _ _ _ _ _ _ _ wx (by simp) hz17 hz88) rfl (fun e' w2 hr=>?_);obtain⟨⟨_,rfl,hd⟩,hs⟩:=hr;exact⟨_,rfl,sB hs,hd,zX⟩
  | 66,_,hoq=>
   cases sI hoq;have hs0:=hs;obtain⟨S30,c30,B30,m30,n30,e30,hz30⟩:=hd 6 (zz kR);obtain⟨S37,c37,B37,m37,n37,e37,hz37⟩:=hd 13 (zz kR);obtain⟨S40,c40,B40,m40,n40,e40,hz40⟩:=hd 16 (zz kR);obtain⟨S55,c55,B55,m55,n55,e55,hz55⟩:=hd 31 (zz kR);obtain⟨S68,c68,B68,m68,n68,e68,hz68⟩:=hd 44 (zz kR);obtain⟨S89,c89,B89,m89,n89,e89,hz89⟩:=hd 65 (zz kR);refine z4 30 (.agg #[.int .i64 (YX).tm.kind,.string (YX).tm.name,.int .i64 (YX).tm.index,.string (YX).tm.type.base,.slice S30 (YX).tm.type.args.length c30,.slice B30 (YX).tm.args.length m30]) e30 nu (z4 37 (.agg #[.int .i64 (YQ).tm.kind,.string (YQ).tm.name,.int .i64 (YQ).tm.index,.string (YQ).tm.type.base,.slice S37 (YQ).tm.type.args.length c37,.slice B37 (YQ).tm.args.length m37]) e37 nu (z4 40 (.agg #[.int .i64 (YZ).tm.kind,.string (YZ).tm.name,.int .i64 (YZ).tm.index,.string (YZ).tm.type.base,.slice S40 (YZ).tm.type.args.length c40,.slice B40 (YZ).tm.args.length m40]) e40 nu (z4 55 (.agg #[.int .i64 (Yy).tm.kind,.string (Yy).tm.name,.int .i64 (Yy).tm.index,.string (Yy).tm.type.base,.slice S55 (Yy).tm.type.args.length c55,.slice B55 (Yy).tm.args.length m55]) e55 nu (z4 68 (.agg #[.int .i64 (Yw).tm.kind,.string (Yw).tm.name,.int .i64 (Yw).tm.index,.string (Yw).tm.type.base,.slice S68 (Yw).tm.type.args.length c68,.slice B68 (Yw).tm.args.length m68]) e68 nu (z4 89 (.agg #[.int .i64 (Yv).tm.kind,.string (Yv).tm.name,.int .i64 (Yv).tm.index,.string (Yv).tm.type.base,.slice S89 (Yv).tm.type.args.length c89,.slice B89 (Yv).tm.args.length m89]) e89 nu ?_)))));refine jx (fun ops Q K=>?_);refine qJ (cs:=#[_,_,_,_,_,_,_,_,_,_,_,_,_,_,_,_,_,_,_,_,_,_,_,_,_,_,_,_,_,_,_,_,_,_,_,_]) [(0,.agg _),(1,.agg _),(2,.agg _),(3,.agg _),(4,.agg _),(5,.agg _)] rfl U53 xw kQ dE dE kR rfl (fun b90 w1 hb90 hs hr=>?_);exact K _ _ ⟨hs,⟨_,_,_,_,_,_,_,_,_,_,_,_,_,_,_,_,_,_,_,_,_,_,_,_,_,rfl,nLT hs0.size hr,hb90,(hz30.tr0 hs).mono (nLT hz30.le hr) (Nat.le_of_lt hb90.lt),(hz37.tr0 hs).mono (nLT hz37.le hr) (Nat.le_of_lt hb90.lt),(hz40.tr0 hs).mono (nLT hz40.le hr) (Nat.le_of_lt hb90.lt),(hz55.tr0 hs).mono (nLT hz55.le hr) (Nat.le_of_lt hb90.lt),(hz68.tr0 hs).mono (nLT hz68.le hr) (Nat.le_of_lt hb90.lt),(hz89.tr0 hs).mono (nLT hz89.le hr) (Nat.le_of_lt hb90.lt)⟩,fR hr hb90.lt⟩
  | 67,_,hoq=>
   cases sI hoq;obtain⟨b90,S30,c30,B30,m30,S37,c37,B37,m37,S40,c40,B40,m40,S55,c55,B55,m55,S68,c68,B68,m68,S89,c89,B89,m89,e90,lo90,hb90,hz30,hz37,hz40,hz55,hz68,hz89⟩:=hd 66 (zz kR);refine z4 90 (.slice (some ⟨b90,0,none⟩) 6 6) e90 nu ?_;exact oV (u7 (v:= .slice _ _ _) rfl) ⟨_,_,_,_,_,_,_,_,_,_,_,_,_,_,_,_,_,_,_,_,_,_,_,_,_,rfl,lo90,hb90,hz30,hz37,hz40,hz55,hz68,hz89⟩
  | _ + 68,hix,_=>exact absurd hix om
 intro gg w2 hs hR hdis;replace hZ:=hZ.trans hs;obtain⟨b90,S30,c30,B30,m30,S37,c37,B37,m37,S40,c40,B40,m40,S55,c55,B55,m55,S68,c68,B68,m68,S89,c89,B89,m89,e9,lo90,hb90,hz30,hz37,hz40,hz55,hz68,hz89⟩:=hR 67 dE;refine qK 9 (.slice (some ⟨b90,0,none⟩) 6 6) e9 nu (zZ ?_);refine e_R ⟨agA,?_⟩;exact⟨hZ,b90,S30,c30,B30,m30,S37,c37,B37,m37,S40,c40,B40,m40,S55,c55,B55,m55,S68,c68,B68,m68,S89,c89,B89,m89,rfl,lo90,hb90,hz30,hz37,hz40,hz55,hz68,hz89⟩
set_option maxRecDepth 100000 in
set_option maxHeartbeats 8000000 in
theorem F5 (w:World):Calls Tryz.prog 22 #[.bool false] w fun e w'=>(∃ b vs n,e= .returned (.slice (some ⟨b,0,none⟩) 6 6)∧Blk w' b 55 vs.toArray∧TmCs n w' y8 vs)∧Bel w w':=by
 refine enter Tryz.func22 Tryz.ntmps22 rfl (Nat.le_of_ble_eq_true rfl) ?_;have hB:Bel w w:=Below.refl _ _;refine zn7 ?_;refine zV T2 (uj _ _) rfl (fun e' w1 hr=>?_);obtain⟨rfl,hs⟩:=hr;replace hs:=sB hs;replace hB:=hB.tr0 hs;refine⟨_,rfl,?_⟩;refine zV T2 (uj _ _) rfl (fun e' w2 hr=>?_);obtain⟨rfl,hs⟩:=hr;replace hs:=sB hs;replace hB:=hB.tr0 hs;refine⟨_,rfl,?_⟩;refine qZ (cs:=#[.string ⟨#[]⟩,.slice none 0 0]) yX rfl (fun b3 w3 hb3 hs hr=>?_);have lo3:=nLT (Bel.size hB) hr;replace hB:=hB.tr0 hs;refine qZ (cs:=#[.string ⟨#[]⟩,.slice none 0 0]) yX rfl (fun b4 w4 hb4 hs hr=>?_);have:=nLL hb3.lt hr;have lo4:=nLT (Bel.size hB) hr;replace hB:=hB.tr0 hs;replace hb3:=hb3.tr0 hs;refine zk hb3 rfl rfl qq rfl zK (fun w5 hq hs=>?_);replace hB:=hB.tr1 hs lo3;replace hb4:=hb4.tr1 hs om;replace hb3:=hq;refine zk hb4 rfl rfl qq rfl zK (fun w6 hq hs=>?_);replace hB:=hB.tr1 hs lo4;replace hb3:=hb3.tr1 hs om;replace hb4:=hq;refine zn6 ?_;refine zV QY (o7 [] (Ts.b false) (Ts.b true) _ _ _ _ _ _ _ (by simp) (Fz.triv _ _ TS (fun _=>SimsIn.nil)) (Fz.triv _ _ TS (fun _=>SimsIn.nil))) rfl (fun e' w7 hr=>?_);obtain⟨⟨_,rfl,A14,c14,n14,rfl,hz14⟩,hs⟩:=hr;replace hs:=sB hs;replace hB:=hB.tr0 hs;replace hb3:=hb3.tr0 hs;replace hb4:=hb4.tr0 hs;refine⟨_,rfl,?_⟩;refine xV (cs:=#[.string ⟨#[]⟩,.slice none 0 0]) yX rfl (fun _=>rfl) (fun _=>rfl) qq rfl zK (fun b5 w9 hb5 hs hr=>?_);replace hB:=hB.tr0 hs;replace hb3:=hb3.tr0 hs;replace hb4:=hb4.tr0 hs;replace hz14:=hz14.tr0 hs;refine zn6 ?_;refine zV QY (o7 [] mS5 (Ts.b true) _ _ _ _ _ _ _ (by simp) hz14 (Fz.triv _ _ TS (fun _=>SimsIn.nil))) rfl (fun e' w10 hr=>?_);obtain⟨⟨_,rfl,A17,c17,n17,rfl,hz17⟩,hs⟩:=hr;replace hs:=sB hs;replace hB:=hB.tr0 hs;replace hb3:=hb3.tr0 hs;replace hb4:=hb4.tr0 hs;replace hz14:=hz14.tr0 hs;replace hb5:=hb5.tr0 hs;refine⟨_,rfl,?_⟩;refine xV (cs:=#[.string ⟨#[]⟩,.slice none 0 0]) yX rfl (fun _=>rfl) (fun _=>rfl) qq rfl zK (fun b6 w12 hb6 hs hr=>?_);replace hB:=hB.tr0 hs;replace hb3:=hb3.tr0 hs;replace hb4:=hb4.tr0 hs;replace hz14:=hz14.tr0 hs;replace hb5:=hb5.tr0 hs;replace hz17:=hz17.tr0 hs;refine zn6 ?_;refine zV QY (o7 [] (Ts.b false) mS5 _ _ _ _ _ _ _ (by simp) (Fz.triv _ _ TS (fun _=>SimsIn.nil)) hz14) rfl (fun e' w13 hr=>?_);obtain⟨⟨_,rfl,A20,c20,n20,rfl,hz20⟩,hs⟩:=hr;replace hs:=sB hs;replace hB:=hB.tr0 hs;replace hb3:=hb3.tr0 hs;replace hb4:=hb4.tr0 hs;replace hz14:=hz14.tr0 hs;replace hb5:=hb5.tr0 hs;replace hz17:=hz17.tr0 hs
 replace hb6:=hb6.tr0 hs;refine⟨_,rfl,?_⟩;refine xV (cs:=#[.string ⟨#[]⟩,.slice none 0 0]) yX rfl (fun _=>rfl) (fun _=>rfl) qq rfl zK (fun b7 w15 hb7 hs hr=>?_);replace hB:=hB.tr0 hs;replace hb3:=hb3.tr0 hs;replace hb4:=hb4.tr0 hs;replace hz14:=hz14.tr0 hs;replace hb5:=hb5.tr0 hs;replace hz17:=hz17.tr0 hs;replace hb6:=hb6.tr0 hs;replace hz20:=hz20.tr0 hs;refine zn6 ?_;refine zV QY (o7 [] mS5 mS6 _ _ _ _ _ _ _ (by simp) hz14 hz17) rfl (fun e' w16 hr=>?_);obtain⟨⟨_,rfl,A23,c23,n23,rfl,hz23⟩,hs⟩:=hr;replace hs:=sB hs;replace hB:=hB.tr0 hs;replace hb3:=hb3.tr0 hs;replace hb4:=hb4.tr0 hs;replace hz14:=hz14.tr0 hs;replace hb5:=hb5.tr0 hs;replace hz17:=hz17.tr0 hs;replace hb6:=hb6.tr0 hs;replace hz20:=hz20.tr0 hs;replace hb7:=hb7.tr0 hs;refine⟨_,rfl,?_⟩;refine xV (cs:=#[.string ⟨#[]⟩,.slice none 0 0]) yX rfl (fun _=>rfl) (fun _=>rfl) qq rfl zK (fun b8 w18 hb8 hs hr=>?_);replace hB:=hB.tr0 hs;replace hb3:=hb3.tr0 hs;replace hb4:=hb4.tr0 hs;replace hz14:=hz14.tr0 hs;replace hb5:=hb5.tr0 hs;replace hz17:=hz17.tr0 hs;replace hb6:=hb6.tr0 hs;replace hz20:=hz20.tr0 hs;replace hb7:=hb7.tr0 hs;replace hz23:=hz23.tr0 hs;refine zn3 ?_;refine xK [9,24,25,26,27,28,29,30,31,32,33,34,35,36,37,38,39,40,41,42,43,44,45,46,47,48,49,50,51,52,53,54,55,56,57,58,59,60,61,62,63,64,65,66,67,68,69,70,71,72,73,74,75,76,77,78,79,80,81,82,83,84,85,86,87,88,89,90] (fun g w'=>Same [] w18 w'∧MnR w18 (g 9) w') ?_ (fun g6 w19 hI=>?_)
 ·have hh:=fun f Q k0 k1 k2 k3 k4 k5=>mean_r6 hb3 hb4 hb5 hb6 hb7 hb8 hz14 hz17 hz20 hz23 f Q k0 k1 k2 k3 k4 k5
  exact hh _ _ (by rfl) (by rfl) (by rfl) (by rfl) (by rfl) (by rfl)
 obtain⟨hs,b90,S30,c30,B30,m30,S37,c37,B37,m37,S40,c40,B40,m40,S55,c55,B55,m55,S68,c68,B68,m68,S89,c89,B89,m89,e9,lo90,hb90,hz30,hz37,hz40,hz55,hz68,hz89⟩:=hI;replace hB:=hB.tr0 hs;refine jJ 9 (.slice (some ⟨b90,0,none⟩) 6 6) e9 nu (zn7 ?_);refine j7 rfl (fun c91=>?_) (fun c91=>?_)
 ·exact absurd c91 dE
 refine yq ?_;exact⟨⟨b90,_,b90,rfl,hb90,(.cons hz30 (.cons hz37 (.cons hz40 (.cons hz55 (.cons hz68 (.cons hz89 .nil))))))⟩,hB⟩
end Go.Proofs.YtdkfnakncaggoaaGreatDoor
