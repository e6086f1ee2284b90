/- What these functions of the program compute, at every world: glosswright/glosswrightequal.meanings, glosswright/glosswrightequal.meanings. -/
import Derived.Test.YtfkbjncidemcbaaDoorU
import Derived.Test.YtfkbjncidemcbaaDoorDQu
namespace Go.Proofs.YtfkbjncidemcbaaDoor
open Go.RowKit
def mS5:Ts:=(Ts.f (Ts.b false) (Ts.b true))
def mS6:Ts:=(Ts.f mS5 (Ts.b true))
def mS7:Ts:=(Ts.f (Ts.b false) mS5)
def mS8:Ts:=(Ts.f mS5 mS6)
def DJ:Tv:=(Tv.var 1)
def DX:Tv:=(Tv.var 0)
def DQ:Tv:=(Tv.app DJ DX)
def DZ:Tv:=(Tv.abs mS5 DQ)
def Vq:Tv:=(Tv.abs mS6 DZ)
def Dy:Tv:=(Tv.var 1)
def Dw:Tv:=(Tv.var 0)
def Dv:Tv:=(Tv.app Dy Dw)
def Dk:Tv:=(Tv.abs mS5 Dv)
def Vz:Tv:=(Tv.abs mS8 Dk)
def Dj:Tv:=(Tv.var 0)
def V9:Tv:=(Tv.abs mS5 Dj)
def Dx:Tv:=(Tv.var 1)
def Dq:Tv:=(Tv.var 3)
def Dz:Tv:=(Tv.var 1)
def D9:Tv:=(Tv.app Dq Dz)
def D8:Tv:=(Tv.var 0)
def D7:Tv:=(Tv.app D9 D8)
def D6:Tv:=(Tv.abs (Ts.b false) D7)
def D5:Tv:=(Tv.app Dx D6)
def D4:Tv:=(Tv.abs (Ts.b false) D5)
def D3:Tv:=(Tv.abs mS6 D4)
def V8:Tv:=(Tv.abs mS7 D3)
def mT58:Ts:=(Ts.f (Ts.b true) (Ts.b true))
def D2:Tv:=(Tv.var 2)
def D1:Tv:=(Tv.var 1)
def D0:Tv:=(Tv.var 0)
def PY:Tv:=(Tv.app D1 D0)
def PW:Tv:=(Tv.app D2 PY)
def PV:Tv:=(Tv.abs (Ts.b false) PW)
def PK:Tv:=(Tv.abs mS5 PV)
def V7:Tv:=(Tv.abs mT58 PK)
def mT73:Ts:=(Ts.f (Ts.b true) (Ts.b true))
def mT74:Ts:=(Ts.f (Ts.b true) mT73)
def PJ:Tv:=(Tv.var 2)
def PX:Tv:=(Tv.var 3)
def PQ:Tv:=(Tv.var 0)
def PZ:Tv:=(Tv.app PX PQ)
def Py:Tv:=(Tv.app PJ PZ)
def Pw:Tv:=(Tv.var 1)
def Pv:Tv:=(Tv.var 0)
def Pk:Tv:=(Tv.app Pw Pv)
def Pj:Tv:=(Tv.app Py Pk)
def Px:Tv:=(Tv.abs mS5 Pj)
def Pq:Tv:=(Tv.abs mS6 Px)
def Pz:Tv:=(Tv.abs mT74 Pq)
def V6:Tv:=(Tv.abs mS6 Pz)
def vk:List Tv:=[Vq,Vz,V9,V8,V7,V6]
def MnR (wc:World) (v:Value) (w':World):Prop:=∃ b90 S30 c30 B30 m30 S37 c37 B37 m37 S40 c40 B40 m40 S55 c55 B55 m55 S68 c68 B68 m68 S89 c89 B89 m89,v= .slice (some ⟨b90,0,none⟩) 6 6∧wc.heap.size≤b90∧Blk w' b90 39 #[.int .i64 (Vq).tm.kind,.string (Vq).tm.name,.int .i64 (Vq).tm.index,.string (Vq).tm.type.base,.slice S30 (Vq).tm.type.args.length c30,.slice B30 (Vq).tm.args.length m30,.int .i64 (Vz).tm.kind,.string (Vz).tm.name,.int .i64 (Vz).tm.index,.string (Vz).tm.type.base,.slice S37 (Vz).tm.type.args.length c37,.slice B37 (Vz).tm.args.length m37,.int .i64 (V9).tm.kind,.string (V9).tm.name,.int .i64 (V9).tm.index,.string (V9).tm.type.base,.slice S40 (V9).tm.type.args.length c40,.slice B40 (V9).tm.args.length m40,.int .i64 (V8).tm.kind,.string (V8).tm.name,.int .i64 (V8).tm.index,.string (V8).tm.type.base,.slice S55 (V8).tm.type.args.length c55,.slice B55 (V8).tm.args.length m55,.int .i64 (V7).tm.kind,.string (V7).tm.name,.int .i64 (V7).tm.index,.string (V7).tm.type.base,.slice S68 (V7).tm.type.args.length c68,.slice B68 (V7).tm.args.length m68,.int .i64 (V6).tm.kind,.string (V6).tm.name,.int .i64 (V6).tm.index,.string (V6).tm.type.base,.slice S89 (V6).tm.type.args.length c89,.slice B89 (V6).tm.args.length m89]∧Fz [] b90 TS w' (fun w=>SimsIn w S30 (Vq).tm.type.args∧TmsIn w B30 (Vq).tm.args)∧Fz [] b90 TS w' (fun w=>SimsIn w S37 (Vz).tm.type.args∧TmsIn w B37 (Vz).tm.args)∧Fz [] b90 TS w' (fun w=>SimsIn w S40 (V9).tm.type.args∧TmsIn w B40 (V9).tm.args)∧Fz [] b90 TS w' (fun w=>SimsIn w S55 (V8).tm.type.args∧TmsIn w B55 (V8).tm.args)∧Fz [] b90 TS w' (fun w=>SimsIn w S68 (V7).tm.type.args∧TmsIn w B68 (V7).tm.args)∧Fz [] b90 TS w' (fun w=>SimsIn w S89 (V6).tm.type.args∧TmsIn w B89 (V6).tm.args)
theorem MnR.tr0 {wc w1 w2:World} {v:Value} (h:MnR wc v w1) (hs:Same [] w1 w2):MnR wc v w2:=by
  obtain⟨b90,S30,c30,B30,m30,S37,c37,B37,m37,S40,c40,B40,m40,S55,c55,B55,m55,S68,c68,B68,m68,S89,c89,B89,m89,e,lo,hb,hz30,hz37,hz40,hz55,hz68,hz89⟩:=h;exact⟨b90,S30,c30,B30,m30,S37,c37,B37,m37,S40,c40,B40,m40,S55,c55,B55,m55,S68,c68,B68,m68,S89,c89,B89,m89,e,lo,hb.tr0 hs,hz30.tr0 hs,hz37.tr0 hs,hz40.tr0 hs,hz55.tr0 hs,hz68.tr0 hs,hz89.tr0 hs⟩
set_option maxRecDepth 100000 in
set_option maxHeartbeats 8000000 in
theorem mean_r6 {wc:World} {b3 b4 b5 b6 b7 b8 c14 c17 c20 c23 n14 n17 n20 n23:Nat} {A14 A17 A20 A23:Option Addr} (hb3:Blk wc b3 36 #[.string ⟨#[101]⟩,.slice none 0 0]) (hb4:Blk wc b4 36 #[.string ⟨#[116]⟩,.slice none 0 0]) (hb5:Blk wc b5 36 #[.string (mS5).sm.base,.slice A14 (mS5).sm.args.length c14]) (hb6:Blk wc b6 36 #[.string (mS6).sm.base,.slice A17 (mS6).sm.args.length c17]) (hb7:Blk wc b7 36 #[.string (mS7).sm.base,.slice A20 (mS7).sm.args.length c20]) (hb8:Blk wc b8 36 #[.string (mS8).sm.base,.slice A23 (mS8).sm.args.length c23]) (hz14:Fz [] n14 TS wc (fun w=>SimsIn w A14 (mS5).sm.args)) (hz17:Fz [] n17 TS wc (fun w=>SimsIn w A17 (mS6).sm.args)) (hz20:Fz [] n20 TS wc (fun w=>SimsIn w A20 (mS7).sm.args)) (hz23:Fz [] n23 TS wc (fun w=>SimsIn w A23 (mS8).sm.args)) (f:Fr) (Q:Exit→Act→World→Prop) (k3:f 3= .pointer (some ⟨b3,0,none⟩)) (k4:f 4= .pointer (some ⟨b4,0,none⟩)) (k5:f 5= .pointer (some ⟨b5,0,none⟩)) (k6:f 6= .pointer (some ⟨b6,0,none⟩)) (k7:f 7= .pointer (some ⟨b7,0,none⟩)) (k8:f 8= .pointer (some ⟨b8,0,none⟩)):WC Tryd.prog (sl (sr (sr (sr (sr (sr (sr (ob Tryd.f26.body)))))))) (QRS 128 [9,24,25,26,27,28,29,30,31,32,33,34,35,36,37,38,39,40,41,42,43,44,45,46,47,48,49,50,51,52,53,54,55,56,57,58,59,60,61,62,63,64,65,66,67,68,69,70,71,72,73,74,75,76,77,78,79,80,81,82,83,84,85,86,87,88,89,90] f (fun g w'=>Same [] wc w'∧MnR wc (g 9) w') Q) 128 f wc:=by
 have hZ:Same [] wc wc:=Same.refl _ _;refine qv 3 (.pointer (some ⟨b3,0,none⟩)) k3 nu (qv 4 (.pointer (some ⟨b4,0,none⟩)) k4 nu (qv 5 (.pointer (some ⟨b5,0,none⟩)) k5 nu (qv 6 (.pointer (some ⟨b6,0,none⟩)) k6 nu (qv 7 (.pointer (some ⟨b7,0,none⟩)) k7 nu (qv 8 (.pointer (some ⟨b8,0,none⟩)) k8 nu ?_)))));refine jv 68 [24,25,26,27,28,29,30,31,32,33,34,35,36,37,38,39,40,41,42,43,44,45,46,47,48,49,50,51,52,53,54,55,56,57,58,59,60,61,62,63,64,65,66,67,68,69,70,71,72,73,74,75,76,77,78,79,80,81,82,83,84,85,86,87,88,89,90,9] (fun ix=>Nat.beq ix 66) (fun ix v wv=>match ix with | 0=>v= .agg #[.string (mS6).sm.base,.slice A17 (mS6).sm.args.length c17] | 1=>v= .agg #[.string (mS5).sm.base,.slice A14 (mS5).sm.args.length c14] | 2=>TmD [] DJ wv (v) | 3=>TmD [] DX wv (v) | 4=>TmD [] DQ wv (v) | 5=>TmD [] DZ wv (v) | 6=>TmD [] Vq wv (v) | 7=>v= .agg #[.string (mS8).sm.base,.slice A23 (mS8).sm.args.length c23] | 8=>v= .agg #[.string (mS5).sm.base,.slice A14 (mS5).sm.args.length c14] | 9=>TmD [] Dy wv (v) | 10=>TmD [] Dw wv (v) | 11=>TmD [] Dv wv (v) | 12=>TmD [] Dk wv (v) | 13=>TmD [] Vz wv (v) | 14=>v= .agg #[.string (mS5).sm.base,.slice A14 (mS5).sm.args.length c14] | 15=>TmD [] Dj wv (v) | 16=>TmD [] V9 wv (v) | 17=>v= .agg #[.string (mS7).sm.base,.slice A20 (mS7).sm.args.length c20] | 18=>v= .agg #[.string (mS6).sm.base,.slice A17 (mS6).sm.args.length c17] | 19=>v= .agg #[.string ((Ts.b false)).sm.base,.slice none ((Ts.b false)).sm.args.length 0] | 20=>TmD [] Dx wv (v) | 21=>v= .agg #[.string ((Ts.b false)).sm.base,.slice none ((Ts.b false)).sm.args.length 0] | 22=>TmD [] Dq wv (v) | 23=>TmD [] Dz wv (v) | 24=>TmD [] D9 wv (v) | 25=>TmD [] D8 wv (v) | 26=>TmD [] D7 wv (v) | 27=>TmD [] D6 wv (v) | 28=>TmD [] D5 wv (v) | 29=>TmD [] D4 wv (v) | 30=>TmD [] D3 wv (v) | 31=>TmD [] V8 wv (v) | 32=>v= .agg #[.string ((Ts.b true)).sm.base,.slice none ((Ts.b true)).sm.args.length 0] | 33=>v= .agg #[.string ((Ts.b true)).sm.base,.slice none ((Ts.b true)).sm.args.length 0] | 34=>SmD [] mT58 wv (v) | 35=>v= .agg #[.string (mS5).sm.base,.slice A14 (mS5).sm.args.length c14] | 36=>v= .agg #[.string ((Ts.b false)).sm.base,.slice none ((Ts.b false)).sm.args.length 0] | 37=>TmD [] D2 wv (v) | 38=>TmD [] D1 wv (v) | 39=>TmD [] D0 wv (v) | 40=>TmD [] PY wv (v) | 41=>TmD [] PW wv (v) | 42=>TmD [] PV wv (v) | 43=>TmD [] PK wv (v) | 44=>TmD [] V7 wv (v) | 45=>v= .agg #[.string (mS6).sm.base,.slice A17 (mS6).sm.args.length c17] | 46=>v= .agg #[.string ((Ts.b true)).sm.base,.slice none ((Ts.b true)).sm.args.length 0] | 47=>v= .agg #[.string ((Ts.b true)).sm.base,.slice none ((Ts.b true)).sm.args.length 0] | 48=>v= .agg #[.string ((Ts.b true)).sm.base,.slice none ((Ts.b true)).sm.args.length 0] | 49=>SmD [] mT73 wv (v) | 50=>SmD [] mT74 wv (v) | 51=>v= .agg #[.string (mS6).sm.base,.slice A17 (mS6).sm.args.length c17] | 52=>v= .agg #[.string (mS5).sm.base,.slice A14 (mS5).sm.args.length c14] | 53=>TmD [] PJ wv (v) | 54=>TmD [] PX wv (v) | 55=>TmD [] PQ wv (v) | 56=>TmD [] PZ wv (v) | 57=>TmD [] Py wv (v) | 58=>TmD [] Pw wv (v) | 59=>TmD [] Pv wv (v) | 60=>TmD [] Pk wv (v) | 61=>TmD [] Pj wv (v) | 62=>TmD [] Px wv (v) | 63=>TmD [] Pq wv (v) | 64=>TmD [] Pz wv (v) | 65=>TmD [] V6 wv (v) | 66=>MnR wc (v) wv | 67=>MnR wc (v) wv | _=>True) kR kR ?_ ?_ ?_
 ·intro ix v wv wv2 h hs
  match ix,h with
  | 0,h=>exact h
  | 1,h=>exact h
  | 2,h=>
   obtain⟨S26,c26,B26,m26,n26,e26,hz26⟩:=h;exact⟨S26,c26,B26,m26,n26,e26,hz26.tr0 hs⟩
  | 3,h=>
   obtain⟨S27,c27,B27,m27,n27,e27,hz27⟩:=h;exact⟨S27,c27,B27,m27,n27,e27,hz27.tr0 hs⟩
  | 4,h=>
   obtain⟨S28,c28,B28,m28,n28,e28,hz28⟩:=h;exact⟨S28,c28,B28,m28,n28,e28,hz28.tr0 hs⟩
  | 5,h=>
   obtain⟨S29,c29,B29,m29,n29,e29,hz29⟩:=h;exact⟨S29,c29,B29,m29,n29,e29,hz29.tr0 hs⟩
  | 6,h=>
   obtain⟨S30,c30,B30,m30,n30,e30,hz30⟩:=h;exact⟨S30,c30,B30,m30,n30,e30,hz30.tr0 hs⟩
  | 7,h=>exact h
  | 8,h=>exact h
  | 9,h=>
   obtain⟨S33,c33,B33,m33,n33,e33,hz33⟩:=h;exact⟨S33,c33,B33,m33,n33,e33,hz33.tr0 hs⟩
  | 10,h=>
   obtain⟨S34,c34,B34,m34,n34,e34,hz34⟩:=h;exact⟨S34,c34,B34,m34,n34,e34,hz34.tr0 hs⟩
  | 11,h=>
   obtain⟨S35,c35,B35,m35,n35,e35,hz35⟩:=h;exact⟨S35,c35,B35,m35,n35,e35,hz35.tr0 hs⟩
  | 12,h=>
   obtain⟨S36,c36,B36,m36,n36,e36,hz36⟩:=h;exact⟨S36,c36,B36,m36,n36,e36,hz36.tr0 hs⟩
  | 13,h=>
   obtain⟨S37,c37,B37,m37,n37,e37,hz37⟩:=h;exact⟨S37,c37,B37,m37,n37,e37,hz37.tr0 hs⟩
  | 14,h=>exact h
  | 15,h=>
   obtain⟨S39,c39,B39,m39,n39,e39,hz39⟩:=h;exact⟨S39,c39,B39,m39,n39,e39,hz39.tr0 hs⟩
  | 16,h=>
   obtain⟨S40,c40,B40,m40,n40,e40,hz40⟩:=h;exact⟨S40,c40,B40,m40,n40,e40,hz40.tr0 hs⟩
  | 17,h=>exact h
  | 18,h=>exact h
  | 19,h=>exact h
  | 20,h=>
   obtain⟨S44,c44,B44,m44,n44,e44,hz44⟩:=h;exact⟨S44,c44,B44,m44,n44,e44,hz44.tr0 hs⟩
  | 21,h=>exact h
  | 22,h=>
   obtain⟨S46,c46,B46,m46,n46,e46,hz46⟩:=h;exact⟨S46,c46,B46,m46,n46,e46,hz46.tr0 hs⟩
  | 23,h=>
   obtain⟨S47,c47,B47,m47,n47,e47,hz47⟩:=h;exact⟨S47,c47,B47,m47,n47,e47,hz47.tr0 hs⟩
  | 24,h=>
   obtain⟨S48,c48,B48,m48,n48,e48,hz48⟩:=h;exact⟨S48,c48,B48,m48,n48,e48,hz48.tr0 hs⟩
  | 25,h=>
   obtain⟨S49,c49,B49,m49,n49,e49,hz49⟩:=h;exact⟨S49,c49,B49,m49,n49,e49,hz49.tr0 hs⟩
  | 26,h=>
   obtain⟨S50,c50,B50,m50,n50,e50,hz50⟩:=h;exact⟨S50,c50,B50,m50,n50,e50,hz50.tr0 hs⟩
  | 27,h=>
   obtain⟨S51,c51,B51,m51,n51,e51,hz51⟩:=h;exact⟨S51,c51,B51,m51,n51,e51,hz51.tr0 hs⟩
  | 28,h=>
   obtain⟨S52,c52,B52,m52,n52,e52,hz52⟩:=h;exact⟨S52,c52,B52,m52,n52,e52,hz52.tr0 hs⟩
  | 29,h=>
   obtain⟨S53,c53,B53,m53,n53,e53,hz53⟩:=h;exact⟨S53,c53,B53,m53,n53,e53,hz53.tr0 hs⟩
  | 30,h=>
   obtain⟨S54,c54,B54,m54,n54,e54,hz54⟩:=h;exact⟨S54,c54,B54,m54,n54,e54,hz54.tr0 hs⟩
  | 31,h=>
   obtain⟨S55,c55,B55,m55,n55,e55,hz55⟩:=h;exact⟨S55,c55,B55,m55,n55,e55,hz55.tr0 hs⟩
  | 32,h=>exact h
  | 33,h=>exact h
  | 34,h=>
   obtain⟨A58,c58,n58,e58,hz58⟩:=h;exact⟨A58,c58,n58,e58,hz58.tr0 hs⟩
  | 35,h=>exact h
  | 36,h=>exact h
  | 37,h=>
   obtain⟨S61,c61,B61,m61,n61,e61,hz61⟩:=h;exact⟨S61,c61,B61,m61,n61,e61,hz61.tr0 hs⟩
  | 38,h=>
   obtain⟨S62,c62,B62,m62,n62,e62,hz62⟩:=h;exact⟨S62,c62,B62,m62,n62,e62,hz62.tr0 hs⟩
  | 39,h=>
   obtain⟨S63,c63,B63,m63,n63,e63,hz63⟩:=h;exact⟨S63,c63,B63,m63,n63,e63,hz63.tr0 hs⟩
  | 40,h=>
   obtain⟨S64,c64,B64,m64,n64,e64,hz64⟩:=h;exact⟨S64,c64,B64,m64,n64,e64,hz64.tr0 hs⟩
  | 41,h=>
   obtain⟨S65,c65,B65,m65,n65,e65,hz65⟩:=h;exact⟨S65,c65,B65,m65,n65,e65,hz65.tr0 hs⟩
  | 42,h=>
   obtain⟨S66,c66,B66,m66,n66,e66,hz66⟩:=h;exact⟨S66,c66,B66,m66,n66,e66,hz66.tr0 hs⟩
  | 43,h=>
   obtain⟨S67,c67,B67,m67,n67,e67,hz67⟩:=h;exact⟨S67,c67,B67,m67,n67,e67,hz67.tr0 hs⟩
  | 44,h=>
   obtain⟨S68,c68,B68,m68,n68,e68,hz68⟩:=h;exact⟨S68,c68,B68,m68,n68,e68,hz68.tr0 hs⟩
  | 45,h=>exact h
  | 46,h=>exact h
  | 47,h=>exact h
  | 48,h=>exact h
  | 49,h=>
   obtain⟨A73,c73,n73,e73,hz73⟩:=h;exact⟨A73,c73,n73,e73,hz73.tr0 hs⟩
  | 50,h=>
   obtain⟨A74,c74,n74,e74,hz74⟩:=h;exact⟨A74,c74,n74,e74,hz74.tr0 hs⟩
  | 51,h=>exact h
  | 52,h=>exact h
  | 53,h=>
   obtain⟨S77,c77,B77,m77,n77,e77,hz77⟩:=h;exact⟨S77,c77,B77,m77,n77,e77,hz77.tr0 hs⟩
  | 54,h=>
   obtain⟨S78,c78,B78,m78,n78,e78,hz78⟩:=h;exact⟨S78,c78,B78,m78,n78,e78,hz78.tr0 hs⟩
  | 55,h=>
   obtain⟨S79,c79,B79,m79,n79,e79,hz79⟩:=h;exact⟨S79,c79,B79,m79,n79,e79,hz79.tr0 hs⟩
  | 56,h=>
   obtain⟨S80,c80,B80,m80,n80,e80,hz80⟩:=h;exact⟨S80,c80,B80,m80,n80,e80,hz80.tr0 hs⟩
  | 57,h=>
   obtain⟨S81,c81,B81,m81,n81,e81,hz81⟩:=h;exact⟨S81,c81,B81,m81,n81,e81,hz81.tr0 hs⟩
  | 58,h=>
   obtain⟨S82,c82,B82,m82,n82,e82,hz82⟩:=h;exact⟨S82,c82,B82,m82,n82,e82,hz82.tr0 hs⟩
  | 59,h=>
   obtain⟨S83,c83,B83,m83,n83,e83,hz83⟩:=h;exact⟨S83,c83,B83,m83,n83,e83,hz83.tr0 hs⟩
  | 60,h=>
   obtain⟨S84,c84,B84,m84,n84,e84,hz84⟩:=h;exact⟨S84,c84,B84,m84,n84,e84,hz84.tr0 hs⟩
  | 61,h=>
   obtain⟨S85,c85,B85,m85,n85,e85,hz85⟩:=h;exact⟨S85,c85,B85,m85,n85,e85,hz85.tr0 hs⟩
  | 62,h=>
   obtain⟨S86,c86,B86,m86,n86,e86,hz86⟩:=h;exact⟨S86,c86,B86,m86,n86,e86,hz86.tr0 hs⟩
  | 63,h=>
   obtain⟨S87,c87,B87,m87,n87,e87,hz87⟩:=h;exact⟨S87,c87,B87,m87,n87,e87,hz87.tr0 hs⟩
  | 64,h=>
   obtain⟨S88,c88,B88,m88,n88,e88,hz88⟩:=h;exact⟨S88,c88,B88,m88,n88,e88,hz88.tr0 hs⟩
  | 65,h=>
   obtain⟨S89,c89,B89,m89,n89,e89,hz89⟩:=h;exact⟨S89,c89,B89,m89,n89,e89,hz89.tr0 hs⟩
  | 66,h=>
   exact MnR.tr0 h hs
  | 67,h=>
   exact MnR.tr0 h hs
  | _ + 68,h=>exact trivial
 ·intro ix o hix hoq gg wx hs hd hdis
  match ix,hix,hoq with
  | 0,_,hoq=>
   cases sI hoq;replace hb6:=hb6.tr0 hs;exact oV (zW U36 rfl rfl hb6.range0 qk) rfl
  | 1,_,hoq=>
   cases sI hoq;replace hb5:=hb5.tr0 hs;exact oV (zW U36 rfl rfl hb5.range0 qk) rfl
  | 2,_,hoq=>
   cases sI hoq;refine xq Q3 (jx [] 1 wx) rfl (fun e' w2 hr=>?_);obtain⟨⟨_,rfl,hd⟩,hs⟩:=hr;exact⟨_,rfl,sB hs,hd,qZ⟩
  | 3,_,hoq=>
   cases sI hoq;refine xq Q3 (jx [] 0 wx) rfl (fun e' w2 hr=>?_);obtain⟨⟨_,rfl,hd⟩,hs⟩:=hr;exact⟨_,rfl,sB hs,hd,qZ⟩
  | 4,_,hoq=>
   cases sI hoq;obtain⟨S26,c26,B26,m26,n26,e26,hz26⟩:=hd 2 (zj kR);obtain⟨S27,c27,B27,m27,n27,e27,hz27⟩:=hd 3 (zj kR);refine zx 26 (.agg #[.int .i64 (DJ).tm.kind,.string (DJ).tm.name,.int .i64 (DJ).tm.index,.string (DJ).tm.type.base,.slice S26 (DJ).tm.type.args.length c26,.slice B26 (DJ).tm.args.length m26]) e26 nu (zx 27 (.agg #[.int .i64 (DX).tm.kind,.string (DX).tm.name,.int .i64 (DX).tm.index,.string (DX).tm.type.base,.slice S27 (DX).tm.type.args.length c27,.slice B27 (DX).tm.args.length m27]) e27 nu ?_);refine xq XX (gV [] DJ DX _ _ _ _ _ _ _ _ _ _ wx (by simp) hz26 hz27) rfl (fun e' w2 hr=>?_);obtain⟨⟨_,rfl,hd⟩,hs⟩:=hr;exact⟨_,rfl,sB hs,hd,qZ⟩
  | 5,_,hoq=>
   cases sI hoq;replace hz14:=hz14.tr0 hs;obtain⟨S28,c28,B28,m28,n28,e28,hz28⟩:=hd 4 (zj kR);refine zx 25 (.agg #[.string (mS5).sm.base,.slice A14 (mS5).sm.args.length c14]) (hd 1 (zj kR)) nu (zx 28 (.agg #[.int .i64 (DQ).tm.kind,.string (DQ).tm.name,.int .i64 (DQ).tm.index,.string (DQ).tm.type.base,.slice S28 (DQ).tm.type.args.length c28,.slice B28 (DQ).tm.args.length m28]) e28 nu ?_);refine xq Q4 (uy [] mS5 DQ _ _ _ _ _ _ _ _ wx (by simp) hz14 hz28) rfl (fun e' w2 hr=>?_);obtain⟨⟨_,rfl,hd⟩,hs⟩:=hr;exact⟨_,rfl,sB hs,hd,qZ⟩
  | 6,_,hoq=>
   cases sI hoq;replace hz17:=hz17.tr0 hs;obtain⟨S29,c29,B29,m29,n29,e29,hz29⟩:=hd 5 (zj kR);refine zx 24 (.agg #[.string (mS6).sm.base,.slice A17 (mS6).sm.args.length c17]) (hd 0 (zj kR)) nu (zx 29 (.agg #[.int .i64 (DZ).tm.kind,.string (DZ).tm.name,.int .i64 (DZ).tm.index,.string (DZ).tm.type.base,.slice S29 (DZ).tm.type.args.length c29,.slice B29 (DZ).tm.args.length m29]) e29 nu ?_);refine xq Q4 (uy [] mS6 DZ _ _ _ _ _ _ _ _ wx (by simp) hz17 hz29) rfl (fun e' w2 hr=>?_);obtain⟨⟨_,rfl,hd⟩,hs⟩:=hr;exact⟨_,rfl,sB hs,hd,qZ⟩
  | 7,_,hoq=>
   cases sI hoq;replace hb8:=hb8.tr0 hs;exact oV (zW U36 rfl rfl hb8.range0 qk) rfl
  | 8,_,hoq=>
   cases sI hoq;replace hb5:=hb5.tr0 hs;exact oV (zW U36 rfl rfl hb5.range0 qk) rfl
  | 9,_,hoq=>
   cases sI hoq;refine xq Q3 (jx [] 1 wx) rfl (fun e' w2 hr=>?_);obtain⟨⟨_,rfl,hd⟩,hs⟩:=hr;exact⟨_,rfl,sB hs,hd,qZ⟩
  | 10,_,hoq=>
   cases sI hoq;refine xq Q3 (jx [] 0 wx) rfl (fun e' w2 hr=>?_);obtain⟨⟨_,rfl,hd⟩,hs⟩:=hr;exact⟨_,rfl,sB hs,hd,qZ⟩
  | 11,_,hoq=>
   cases sI hoq;obtain⟨S33,c33,B33,m33,n33,e33,hz33⟩:=hd 9 (zj kR);obtain⟨S34,c34,B34,m34,n34,e34,hz34⟩:=hd 10 (zj kR);refine zx 33 (.agg #[.int .i64 (Dy).tm.kind,.string (Dy).tm.name,.int .i64 (Dy).tm.index,.string (Dy).tm.type.base,.slice S33 (Dy).tm.type.args.length c33,.slice B33 (Dy).tm.args.length m33]) e33 nu (zx 34 (.agg #[.int .i64 (Dw).tm.kind,.string (Dw).tm.name,.int .i64 (Dw).tm.index,.string (Dw).tm.type.base,.slice S34 (Dw).tm.type.args.length c34,.slice B34 (Dw).tm.args.length m34]) e34 nu ?_);refine xq XX (gV [] Dy Dw _ _ _ _ _ _ _ _ _ _ wx (by simp) hz33 hz34) rfl (fun e' w2 hr=>?_);obtain⟨⟨_,rfl,hd⟩,hs⟩:=hr;exact⟨_,rfl,sB hs,hd,qZ⟩
  | 12,_,hoq=>
   cases sI hoq;replace hz14:=hz14.tr0 hs;obtain⟨S35,c35,B35,m35,n35,e35,hz35⟩:=hd 11 (zj kR);refine zx 32 (.agg #[.string (mS5).sm.base,.slice A14 (mS5).sm.args.length c14]) (hd 8 (zj kR)) nu (zx 35 (.agg #[.int .i64 (Dv).tm.kind,.string (Dv).tm.name,.int .i64 (Dv).tm.index,.string (Dv).tm.type.base,.slice S35 (Dv).tm.type.args.length c35,.slice B35 (Dv).tm.args.length m35]) e35 nu ?_);refine xq Q4 (uy [] mS5 Dv _ _ _ _ _ _ _ _ wx (by simp) hz14 hz35) rfl (fun e' w2 hr=>?_);obtain⟨⟨_,rfl,hd⟩,hs⟩:=hr;exact⟨_,rfl,sB hs,hd,qZ⟩
  | 13,_,hoq=>
   cases sI hoq;replace hz23:=hz23.tr0 hs;obtain⟨S36,c36,B36,m36,n36,e36,hz36⟩:=hd 12 (zj kR);refine zx 31 (.agg #[.string (mS8).sm.base,.slice A23 (mS8).sm.args.length c23]) (hd 7 (zj kR)) nu (zx 36 (.agg #[.int .i64 (Dk).tm.kind,.string (Dk).tm.name,.int .i64 (Dk).tm.index,.string (Dk).tm.type.base,.slice S36 (Dk).tm.type.args.length c36,.slice B36 (Dk).tm.args.length m36]) e36 nu ?_);refine xq Q4 (uy [] mS8 Dk _ _ _ _ _ _ _ _ wx (by simp) hz23 hz36) rfl (fun e' w2 hr=>?_);obtain⟨⟨_,rfl,hd⟩,hs⟩:=hr;exact⟨_,rfl,sB hs,hd,qZ⟩
  | 14,_,hoq=>
   cases sI hoq;replace hb5:=hb5.tr0 hs;exact oV (zW U36 rfl rfl hb5.range0 qk) rfl
  | 15,_,hoq=>
   cases sI hoq;refine xq Q3 (jx [] 0 wx) rfl (fun e' w2 hr=>?_);obtain⟨⟨_,rfl,hd⟩,hs⟩:=hr;exact⟨_,rfl,sB hs,hd,qZ⟩
  | 16,_,hoq=>
   cases sI hoq;replace hz14:=hz14.tr0 hs;obtain⟨S39,c39,B39,m39,n39,e39,hz39⟩:=hd 15 (zj kR);refine zx 38 (.agg #[.string (mS5).sm.base,.slice A14 (mS5).sm.args.length c14]) (hd 14 (zj kR)) nu (zx 39 (.agg #[.int .i64 (Dj).tm.kind,.string (Dj).tm.name,.int .i64 (Dj).tm.index,.string (Dj).tm.type.base,.slice S39 (Dj).tm.type.args.length c39,.slice B39 (Dj).tm.args.length m39]) e39 nu ?_);refine xq Q4 (uy [] mS5 Dj _ _ _ _ _ _ _ _ wx (by simp) hz14 hz39) rfl (fun e' w2 hr=>?_);obtain⟨⟨_,rfl,hd⟩,hs⟩:=hr;exact⟨_,rfl,sB hs,hd,qZ⟩
  | 17,_,hoq=>
   cases sI hoq;replace hb7:=hb7.tr0 hs;exact oV (zW U36 rfl rfl hb7.range0 qk) rfl
  | 18,_,hoq=>
   cases sI hoq;replace hb6:=hb6.tr0 hs;exact oV (zW U36 rfl rfl hb6.range0 qk) rfl
  | 19,_,hoq=>
   cases sI hoq;replace hb3:=hb3.tr0 hs;exact oV (zW U36 rfl rfl hb3.range0 qk) rfl
  | 20,_,hoq=>
   cases sI hoq;refine xq Q3 (jx [] 1 wx) rfl (fun e' w2 hr=>?_);obtain⟨⟨_,rfl,hd⟩,hs⟩:=hr;exact⟨_,rfl,sB hs,hd,qZ⟩
  | 21,_,hoq=>
   cases sI hoq;replace hb3:=hb3.tr0 hs;exact oV (zW U36 rfl rfl hb3.range0 qk) rfl
  | 22,_,hoq=>
   cases sI hoq;refine xq Q3 (jx [] 3 wx) rfl (fun e' w2 hr=>?_);obtain⟨⟨_,rfl,hd⟩,hs⟩:=hr;exact⟨_,rfl,sB hs,hd,qZ⟩
  | 23,_,hoq=>
   cases sI hoq;refine xq Q3 (jx [] 1 wx) rfl (fun e' w2 hr=>?_);obtain⟨⟨_,rfl,hd⟩,hs⟩:=hr;exact⟨_,rfl,sB hs,hd,qZ⟩
  | 24,_,hoq=>
   cases sI hoq;obtain⟨S46,c46,B46,m46,n46,e46,hz46⟩:=hd 22 (zj kR);obtain⟨S47,c47,B47,m47,n47,e47,hz47⟩:=hd 23 (zj kR);refine zx 46 (.agg #[.int .i64 (Dq).tm.kind,.string (Dq).tm.name,.int .i64 (Dq).tm.index,.string (Dq).tm.type.base,.slice S46 (Dq).tm.type.args.length c46,.slice B46 (Dq).tm.args.length m46]) e46 nu (zx 47 (.agg #[.int .i64 (Dz).tm.kind,.string (Dz).tm.name,.int .i64 (Dz).tm.index,.string (Dz).tm.type.base,.slice S47 (Dz).tm.type.args.length c47,.slice B47 (Dz).tm.args.length m47]) e47 nu ?_);refine xq XX (gV [] Dq Dz _ _ _ _ _ _ _ _ _ _ wx (by simp) hz46 hz47) rfl (fun e' w2 hr=>?_);obtain⟨⟨_,rfl,hd⟩,hs⟩:=hr;exact⟨_,rfl,sB hs,hd,qZ⟩
  | 25,_,hoq=>
   cases sI hoq;refine xq Q3 (jx [] 0 wx) rfl (fun e' w2 hr=>?_);obtain⟨⟨_,rfl,hd⟩,hs⟩:=hr;exact⟨_,rfl,sB hs,hd,qZ⟩
  | 26,_,hoq=>
   cases sI hoq;obtain⟨S48,c48,B48,m48,n48,e48,hz48⟩:=hd 24 (zj kR);obtain⟨S49,c49,B49,m49,n49,e49,hz49⟩:=hd 25 (zj kR);refine zx 48 (.agg #[.int .i64 (D9).tm.kind,.string (D9).tm.name,.int .i64 (D9).tm.index,.string (D9).tm.type.base,.slice S48 (D9).tm.type.args.length c48,.slice B48 (D9).tm.args.length m48]) e48 nu (zx 49 (.agg #[.int .i64 (D8).tm.kind,.string (D8).tm.name,.int .i64 (D8).tm.index,.string (D8).tm.type.base,.slice S49 (D8).tm.type.args.length c49,.slice B49 (D8).tm.args.length m49]) e49 nu ?_);refine xq XX (gV [] D9 D8 _ _ _ _ _ _ _ _ _ _ wx (by simp) hz48 hz49) rfl (fun e' w2 hr=>?_);obtain⟨⟨_,rfl,hd⟩,hs⟩:=hr;exact⟨_,rfl,sB hs,hd,qZ⟩
  | 27,_,hoq=>
   cases sI hoq;obtain⟨S50,c50,B50,m50,n50,e50,hz50⟩:=hd 26 (zj kR);refine zx 45 (.agg #[.string ((Ts.b false)).sm.base,.slice none ((Ts.b false)).sm.args.length 0]) (hd 21 (zj kR)) nu (zx 50 (.agg #[.int .i64 (D7).tm.kind,.string (D7).tm.name,.int .i64 (D7).tm.index,.string (D7).tm.type.base,.slice S50 (D7).tm.type.args.length c50,.slice B50 (D7).tm.args.length m50]) e50 nu ?_);refine xq Q4 (uy [] (Ts.b false) D7 _ _ _ _ _ _ _ _ wx (by simp) (Fz.triv _ _ TS (fun _=>SimsIn.nil)) hz50) rfl (fun e' w2 hr=>?_);obtain⟨⟨_,rfl,hd⟩,hs⟩:=hr;exact⟨_,rfl,sB hs,hd,qZ⟩
  | 28,_,hoq=>
   cases sI hoq;obtain⟨S44,c44,B44,m44,n44,e44,hz44⟩:=hd 20 (zj kR);obtain⟨S51,c51,B51,m51,n51,e51,hz51⟩:=hd 27 (zj kR);refine zx 44 (.agg #[.int .i64 (Dx).tm.kind,.string (Dx).tm.name,.int .i64 (Dx).tm.index,.string (Dx).tm.type.base,.slice S44 (Dx).tm.type.args.length c44,.slice B44 (Dx).tm.args.length m44]) e44 nu (zx 51 (.agg #[.int .i64 (D6).tm.kind,.string (D6).tm.name,.int .i64 (D6).tm.index,.string (D6).tm.type.base,.slice S51 (D6).tm.type.args.length c51,.slice B51 (D6).tm.args.length m51]) e51 nu ?_);refine xq XX (gV [] Dx D6 _ _ _ _ _ _ _ _ _ _ wx (by simp) hz44 hz51) rfl (fun e' w2 hr=>?_);obtain⟨⟨_,rfl,hd⟩,hs⟩:=hr;exact⟨_,rfl,sB hs,hd,qZ⟩
  | 29,_,hoq=>
   cases sI hoq;obtain⟨S52,c52,B52,m52,n52,e52,hz52⟩:=hd 28 (zj kR);refine zx 43 (.agg #[.string ((Ts.b false)).sm.base,.slice none ((Ts.b false)).sm.args.length 0]) (hd 19 (zj kR)) nu (zx 52 (.agg #[.int .i64 (D5).tm.kind,.string (D5).tm.name,.int .i64 (D5).tm.index,.string (D5).tm.type.base,.slice S52 (D5).tm.type.args.length c52,.slice B52 (D5).tm.args.length m52]) e52 nu ?_);refine xq Q4 (uy [] (Ts.b false) D5 _ _ _ _ _ _ _ _ wx (by simp) (Fz.triv _ _ TS (fun _=>SimsIn.nil)) hz52) rfl (fun e' w2 hr=>?_);obtain⟨⟨_,rfl,hd⟩,hs⟩:=hr;exact⟨_,rfl,sB hs,hd,qZ⟩
  | 30,_,hoq=>
   cases sI hoq;replace hz17:=hz17.tr0 hs;obtain⟨S53,c53,B53,m53,n53,e53,hz53⟩:=hd 29 (zj kR);refine zx 42 (.agg #[.string (mS6).sm.base,.slice A17 (mS6).sm.args.length c17]) (hd 18 (zj kR)) nu (zx 53 (.agg #[.int .i64 (D4).tm.kind,.string (D4).tm.name,.int .i64 (D4).tm.index,.string (D4).tm.type.base,.slice S53 (D4).tm.type.args.length c53,.slice B53 (D4).tm.args.length m53]) e53 nu ?_);refine xq Q4 (uy [] mS6 D4 _ _ _ _ _ _ _ _ wx (by simp) hz17 hz53) rfl (fun e' w2 hr=>?_);obtain⟨⟨_,rfl,hd⟩,hs⟩:=hr;exact⟨_,rfl,sB hs,hd,qZ⟩
  | 31,_,hoq=>
   cases sI hoq;replace hz20:=hz20.tr0 hs;obtain⟨S54,c54,B54,m54,n54,e54,hz54⟩:=hd 30 (zj kR);refine zx 41 (.agg #[.string (mS7).sm.base,.slice A20 (mS7).sm.args.length c20]) (hd 17 (zj kR)) nu (zx 54 (.agg #[.int .i64 (D3).tm.kind,.string (D3).tm.name,.int .i64 (D3).tm.index,.string (D3).tm.type.base,.slice S54 (D3).tm.type.args.length c54,.slice B54 (D3).tm.args.length m54]) e54 nu ?_);refine xq Q4 (uy [] mS7 D3 _ _ _ _ _ _ _ _ wx (by simp) hz20 hz54) rfl (fun e' w2 hr=>?_);obtain⟨⟨_,rfl,hd⟩,hs⟩:=hr;exact⟨_,rfl,sB hs,hd,qZ⟩
  | 32,_,hoq=>
   cases sI hoq;replace hb4:=hb4.tr0 hs;exact oV (zW U36 rfl rfl hb4.range0 qk) rfl
  | 33,_,hoq=>
   cases sI hoq;replace hb4:=hb4.tr0 hs;exact oV (zW U36 rfl rfl hb4.range0 qk) rfl
  | 34,_,hoq=>
   cases sI hoq;refine zx 56 (.agg #[.string ((Ts.b true)).sm.base,.slice none ((Ts.b true)).sm.args.length 0]) (hd 32 (zj kR)) nu (zx 57 (.agg #[.string ((Ts.b true)).sm.base,.slice none ((Ts.b true)).sm.args.length 0]) (hd 33 (zj kR)) nu ?_);refine xq Y3 (Z0 [] (Ts.b true) (Ts.b true) _ _ _ _ _ _ wx (by simp) (Fz.triv _ _ TS (fun _=>SimsIn.nil)) (Fz.triv _ _ TS (fun _=>SimsIn.nil))) rfl (fun e' w2 hr=>?_);obtain⟨⟨_,rfl,hd⟩,hs⟩:=hr;exact⟨_,rfl,sB hs,hd,qZ⟩
  | 35,_,hoq=>
   cases sI hoq;replace hb5:=hb5.tr0 hs;exact oV (zW U36 rfl rfl hb5.range0 qk) rfl
  | 36,_,hoq=>
   cases sI hoq;replace hb3:=hb3.tr0 hs;exact oV (zW U36 rfl rfl hb3.range0 qk) rfl
  | 37,_,hoq=>
   cases sI hoq;refine xq Q3 (jx [] 2 wx) rfl (fun e' w2 hr=>?_);obtain⟨⟨_,rfl,hd⟩,hs⟩:=hr;exact⟨_,rfl,sB hs,hd,qZ⟩
  | 38,_,hoq=>
   cases sI hoq;refine xq Q3 (jx [] 1 wx) rfl (fun e' w2 hr=>?_);obtain⟨⟨_,rfl,hd⟩,hs⟩:=hr;exact⟨_,rfl,sB hs,hd,qZ⟩
  | 39,_,hoq=>
   cases sI hoq;refine xq Q3 (jx [] 0 wx) rfl (fun e' w2 hr=>?_);obtain⟨⟨_,rfl,hd⟩,hs⟩:=hr;exact⟨_,rfl,sB hs,hd,qZ⟩
  | 40,_,hoq=>
   cases sI hoq;obtain⟨S62,c62,B62,m62,n62,e62,hz62⟩:=hd 38 (zj kR);obtain⟨S63,c63,B63,m63,n63,e63,hz63⟩:=hd 39 (zj kR);refine zx 62 (.agg #[.int .i64 (D1).tm.kind,.string (D1).tm.name,.int .i64 (D1).tm.index,.string (D1).tm.type.base,.slice S62 (D1).tm.type.args.length c62,.slice B62 (D1).tm.args.length m62]) e62 nu (zx 63 (.agg #[.int .i64 (D0).tm.kind,.string (D0).tm.name,.int .i64 (D0).tm.index,.string (D0).tm.type.base,.slice S63 (D0).tm.type.args.length c63,.slice B63 (D0).tm.args.length m63]) e63 nu ?_);refine xq XX (gV [] D1 D0 _ _ _ _ _ _ _ _ _ _ wx (by simp) hz62 hz63) rfl (fun e' w2 hr=>?_);obtain⟨⟨_,rfl,hd⟩,hs⟩:=hr;exact⟨_,rfl,sB hs,hd,qZ⟩
  | 41,_,hoq=>
   cases sI hoq;obtain⟨S61,c61,B61,m61,n61,e61,hz61⟩:=hd 37 (zj kR);obtain⟨S64,c64,B64,m64,n64,e64,hz64⟩:=hd 40 (zj kR);refine zx 61 (.agg #[.int .i64 (D2).tm.kind,.string (D2).tm.name,.int .i64 (D2).tm.index,.string (D2).tm.type.base,.slice S61 (D2).tm.type.args.length c61,.slice B61 (D2).tm.args.length m61]) e61 nu (zx 64 (.agg #[.int .i64 (PY).tm.kind,.string (PY).tm.name,.int .i64 (PY).tm.index,.string (PY).tm.type.base,.slice S64 (PY).tm.type.args.length c64,.slice B64 (PY).tm.args.length m64]) e64 nu ?_);refine xq XX (gV [] D2 PY _ _ _ _ _ _ _ _ _ _ wx (by simp) hz61 hz64) rfl (fun e' w2 hr=>?_);obtain⟨⟨_,rfl,hd⟩,hs⟩:=hr;exact⟨_,rfl,sB hs,hd,qZ⟩
  | 42,_,hoq=>
   cases sI hoq;obtain⟨S65,c65,B65,m65,n65,e65,hz65⟩:=hd 41 (zj kR);refine zx 60 (.agg #[.string ((Ts.b false)).sm.base,.slice none ((Ts.b false)).sm.args.length 0]) (hd 36 (zj kR)) nu (zx 65 (.agg #[.int .i64 (PW).tm.kind,.string (PW).tm.name,.int .i64 (PW).tm.index,.string (PW).tm.type.base,.slice S65 (PW).tm.type.args.length c65,.slice B65 (PW).tm.args.length m65]) e65 nu ?_);refine xq Q4 (uy [] (Ts.b false) PW _ _ _ _ _ _ _ _ wx (by simp) (Fz.triv _ _ TS (fun _=>SimsIn.nil)) hz65) rfl (fun e' w2 hr=>?_);obtain⟨⟨_,rfl,hd⟩,hs⟩:=hr;exact⟨_,rfl,sB hs,hd,qZ⟩
  | 43,_,hoq=>
   cases sI hoq;replace hz14:=hz14.tr0 hs;obtain⟨S66,c66,B66,m66,n66,e66,hz66⟩:=hd 42 (zj kR);refine zx 59 (.agg #[.string (mS5).sm.base,.slice A14 (mS5).sm.args.length c14]) (hd 35 (zj kR)) nu (zx 66 (.agg #[.int .i64 (PV).tm.kind,.string (PV).tm.name,.int .i64 (PV).tm.index,.string (PV).tm.type.base,.slice S66 (PV).tm.type.args.length c66,.slice B66 (PV).tm.args.length m66]) e66 nu ?_);refine xq Q4 (uy [] mS5 PV _ _ _ _ _ _ _ _ wx (by simp) hz14 hz66) rfl (fun e' w2 hr=>?_);obtain⟨⟨_,rfl,hd⟩,hs⟩:=hr;exact⟨_,rfl,sB hs,hd,qZ⟩
  | 44,_,hoq=>
   cases sI hoq;obtain⟨A58,c58,n58,e58,hz58⟩:=hd 34 (zj kR);obtain⟨S67,c67,B67,m67,n67,e67,hz67⟩:=hd 43 (zj kR);refine zx 58 (.agg #[.string (mT58).sm.base,.slice A58 (mT58).sm.args.length c58]) e58 nu (zx 67 (.agg #[.int .i64 (PK).tm.kind,.string (PK).tm.name,.int .i64 (PK).tm.index,.string (PK).tm.type.base,.slice S67 (PK).tm.type.args.length c67,.slice B67 (PK).tm.args.length m67]) e67 nu ?_);refine xq Q4 (uy [] mT58 PK _ _ _ _ _ _ _ _ wx (by simp) hz58 hz67) rfl (fun e' w2 hr=>?_);obtain⟨⟨_,rfl,hd⟩,hs⟩:=hr;exact⟨_,rfl,sB hs,hd,qZ⟩
  | 45,_,hoq=>
   cases sI hoq;replace hb6:=hb6.tr0 hs;exact oV (zW U36 rfl rfl hb6.range0 qk) rfl
  | 46,_,hoq=>
   cases sI hoq;replace hb4:=hb4.tr0 hs;exact oV (zW U36 rfl rfl hb4.range0 qk) rfl
  | 47,_,hoq=>
   cases sI hoq;replace hb4:=hb4.tr0 hs;exact oV (zW U36 rfl rfl hb4.range0 qk) rfl
  | 48,_,hoq=>
   cases sI hoq;replace hb4:=hb4.tr0 hs;exact oV (zW U36 rfl rfl hb4.range0 qk) rfl
  | 49,_,hoq=>
   cases sI hoq;refine zx 71 (.agg #[.string ((Ts.b true)).sm.base,.slice none ((Ts.b true)).sm.args.length 0]) (hd 47 (zj kR)) nu (zx 72 (.agg #[.string ((Ts.b true)).sm.base,.slice none ((Ts.b true)).sm.args.length 0]) (hd 48 (zj kR)) nu ?_);refine xq Y3 (Z0 [] (Ts.b true) (Ts.b true) _ _ _ _ _ _ wx (by simp) (Fz.triv _ _ TS (fun _=>SimsIn.nil)) (Fz.triv _ _ TS (fun _=>SimsIn.nil))) rfl (fun e' w2 hr=>?_);obtain⟨⟨_,rfl,hd⟩,hs⟩:=hr;exact⟨_,rfl,sB hs,hd,qZ⟩
  | 50,_,hoq=>
   cases sI hoq;obtain⟨A73,c73,n73,e73,hz73⟩:=hd 49 (zj kR);refine zx 70 (.agg #[.string ((Ts.b true)).sm.base,.slice none ((Ts.b true)).sm.args.length 0]) (hd 46 (zj kR)) nu (zx 73 (.agg #[.string (mT73).sm.base,.slice A73 (mT73).sm.args.length c73]) e73 nu ?_);refine xq Y3 (Z0 [] (Ts.b true) mT73 _ _ _ _ _ _ wx (by simp) (Fz.triv _ _ TS (fun _=>SimsIn.nil)) hz73) rfl (fun e' w2 hr=>?_);obtain⟨⟨_,rfl,hd⟩,hs⟩:=hr;exact⟨_,rfl,sB hs,hd,qZ⟩
  | 51,_,hoq=>
   cases sI hoq;replace hb6:=hb6.tr0 hs;exact oV (zW U36 rfl rfl hb6.range0 qk) rfl
  | 52,_,hoq=>
   cases sI hoq;replace hb5:=hb5.tr0 hs;exact oV (zW U36 rfl rfl hb5.range0 qk) rfl
  | 53,_,hoq=>
   cases sI hoq;refine xq Q3 (jx [] 2 wx) rfl (fun e' w2 hr=>?_);obtain⟨⟨_,rfl,hd⟩,hs⟩:=hr;exact⟨_,rfl,sB hs,hd,qZ⟩
  | 54,_,hoq=>
   cases sI hoq;refine xq Q3 (jx [] 3 wx) rfl (fun e' w2 hr=>?_);obtain⟨⟨_,rfl,hd⟩,hs⟩:=hr;exact⟨_,rfl,sB hs,hd,qZ⟩
  | 55,_,hoq=>
   cases sI hoq;refine xq Q3 (jx [] 0 wx) rfl (fun e' w2 hr=>?_);obtain⟨⟨_,rfl,hd⟩,hs⟩:=hr;exact⟨_,rfl,sB hs,hd,qZ⟩
  | 56,_,hoq=>
   cases sI hoq;obtain⟨S78,c78,B78,m78,n78,e78,hz78⟩:=hd 54 (zj kR);obtain⟨S79,c79,B79,m79,n79,e79,hz79⟩:=hd 55 (zj kR);refine zx 78 (.agg #[.int .i64 (PX).tm.kind,.string (PX).tm.name,.int .i64 (PX).tm.index,.string (PX).tm.type.base,.slice S78 (PX).tm.type.args.length c78,.slice B78 (PX).tm.args.length m78]) e78 nu (zx 79 (.agg #[.int .i64 (PQ).tm.kind,.string (PQ).tm.name,.int .i64 (PQ).tm.index,.string (PQ).tm.type.base,.slice S79 (PQ).tm.type.args.length c79,.slice B79 (PQ).tm.args.length m79]) e79 nu ?_);refine xq XX (gV [] PX PQ _ _ _ _ _ _ _ _ _ _ wx (by simp) hz78 hz79) rfl (fun e' w2 hr=>?_);obtain⟨⟨_,rfl,hd⟩,hs⟩:=hr;exact⟨_,rfl,sB hs,hd,qZ⟩
  | 57,_,hoq=>
   cases sI hoq;obtain⟨S77,c77,B77,m77,n77,e77,hz77⟩:=hd 53 (zj kR);obtain⟨S80,c80,B80,m80,n80,e80,hz80⟩:=hd 56 (zj kR);refine zx 77 (.agg #[.int .i64 (PJ).tm.kind,.string (PJ).tm.name,.int .i64 (PJ).tm.index,.string (PJ).tm.type.base,.slice S77 (PJ).tm.type.args.length c77,.slice B77 (PJ).tm.args.length m77]) e77 nu (zx 80 (.agg #[.int .i64 (PZ).tm.kind,.string (PZ).tm.name,.int .i64 (PZ).tm.index,.string (PZ).tm.type.base,.slice S80 (PZ).tm.type.args.length c80,.slice B80 (PZ).tm.args.length m80]) e80 nu ?_);refine xq XX (gV [] PJ PZ _ _ _ _ _ _ _ _ _ _ wx (by simp) hz77 hz80) rfl (fun e' w2 hr=>?_);obtain⟨⟨_,rfl,hd⟩,hs⟩:=hr;exact⟨_,rfl,sB hs,hd,qZ⟩
  | 58,_,hoq=>
   cases sI hoq;refine xq Q3 (jx [] 1 wx) rfl (fun e' w2 hr=>?_);obtain⟨⟨_,rfl,hd⟩,hs⟩:=hr;exact⟨_,rfl,sB hs,hd,qZ⟩
  | 59,_,hoq=>
   cases sI hoq;refine xq Q3 (jx [] 0 wx) rfl (fun e' w2 hr=>?_);obtain⟨⟨_,rfl,hd⟩,hs⟩:=hr;exact⟨_,rfl,sB hs,hd,qZ⟩
  | 60,_,hoq=>
   cases sI hoq;obtain⟨S82,c82,B82,m82,n82,e82,hz82⟩:=hd 58 (zj kR);obtain⟨S83,c83,B83,m83,n83,e83,hz83⟩:=hd 59 (zj kR);refine zx 82 (.agg #[.int .i64 (Pw).tm.kind,.string (Pw).tm.name,.int .i64 (Pw).tm.index,.string (Pw).tm.type.base,.slice S82 (Pw).tm.type.args.length c82,.slice B82 (Pw).tm.args.length m82]) e82 nu (zx 83 (.agg #[.int .i64 (Pv).tm.kind,.string (Pv).tm.name,.int .i64 (Pv).tm.index,.string (Pv).tm.type.base,.slice S83 (Pv).tm.type.args.length c83,.slice B83 (Pv).tm.args.length m83]) e83 nu ?_);refine xq XX (gV [] Pw Pv _ _ _ _ _ _ _ _ _ _ wx (by simp) hz82 hz83) rfl (fun e' w2 hr=>?_);obtain⟨⟨_,rfl,hd⟩,hs⟩:=hr;exact⟨_,rfl,sB hs,hd,qZ⟩
  | 61,_,hoq=>
   cases sI hoq;obtain⟨S81,c81,B81,m81,n81,e81,hz81⟩:=hd 57 (zj kR);obtain⟨S84,c84,B84,m84,n84,e84,hz84⟩:=hd 60 (zj kR);refine zx 81 (.agg #[.int .i64 (Py).tm.kind,.string (Py).tm.name,.int .i64 (Py).tm.index,.string (Py).tm.type.base,.slice S81 (Py).tm.type.args.length c81,.slice B81 (Py).tm.args.length m81]) e81 nu (zx 84 (.agg #[.int .i64 (Pk).tm.kind,.string (Pk).tm.name,.int .i64 (Pk).tm.index,.string (Pk).tm.type.base,.slice S84 (Pk).tm.type.args.length c84,.slice B84 (Pk).tm.args.length m84]) e84 nu ?_);refine xq XX (gV [] Py Pk _ _ _ _ _ _ _ _ _ _ wx (by simp) hz81 hz84) rfl (fun e' w2 hr=>?_);obtain⟨⟨_,rfl,hd⟩,hs⟩:=hr;exact⟨_,rfl,sB hs,hd,qZ⟩
  | 62,_,hoq=>
   cases sI hoq;replace hz14:=hz14.tr0 hs;obtain⟨S85,c85,B85,m85,n85,e85,hz85⟩:=hd 61 (zj kR);refine zx 76 (.agg #[.string (mS5).sm.base,.slice A14 (mS5).sm.args.length c14]) (hd 52 (zj kR)) nu (zx 85 (.agg #[.int .i64 (Pj).tm.kind,.string (Pj).tm.name,.int .i64 (Pj).tm.index,.string (Pj).tm.type.base,.slice S85 (Pj).tm.type.args.length c85,.slice B85 (Pj).tm.args.length m85]) e85 nu ?_);refine xq Q4 (uy [] mS5 Pj _ _ _ _ _ _ _ _ wx (by simp) hz14 hz85) rfl (fun e' w2 hr=>?_);obtain⟨⟨_,rfl,hd⟩,hs⟩:=hr;exact⟨_,rfl,sB hs,hd,qZ⟩
  | 63,_,hoq=>
   cases sI hoq;replace hz17:=hz17.tr0 hs;obtain⟨S86,c86,B86,m86,n86,e86,hz86⟩:=hd 62 (zj kR);refine zx 75 (.agg #[.string (mS6).sm.base,.slice A17 (mS6).sm.args.length c17]) (hd 51 (zj kR)) nu (zx 86 (.agg #[.int .i64 (Px).tm.kind,.string (Px).tm.name,.int .i64 (Px).tm.index,.string (Px).tm.type.base,.slice S86 (Px).tm.type.args.length c86,.slice B86 (Px).tm.args.length m86]) e86 nu ?_);refine xq Q4 (uy [] mS6 Px _ _ _ _ _ _ _ _ wx (by simp) hz17 hz86) rfl (fun e' w2 hr=>?_);obtain⟨⟨_,rfl,hd⟩,hs⟩:=hr;exact⟨_,rfl,sB hs,hd,qZ⟩
  | 64,_,hoq=>
   cases sI hoq;obtain⟨A74,c74,n74,e74,hz74⟩:=hd 50 (zj kR);obtain⟨S87,c87,B87,m87,n87,e87,hz87⟩:=hd 63 (zj kR);refine zx 74 (.agg #[.string (mT74).sm.base,.slice A74 (mT74).sm.args.length c74]) e74 nu (zx 87 (.agg #[.int .i64 (Pq).tm.kind,.string (Pq).tm.name,.int .i64 (Pq).tm.index,.string (Pq).tm.type.base,.slice S87 (Pq).tm.type.args.length c87,.slice B87 (Pq).tm.args.length m87]) e87 nu ?_);refine xq Q4 (uy [] mT74 Pq _ _ _ _ _ _ _ _ wx (by simp) hz74 hz87) rfl (fun e' w2 hr=>?_);obtain⟨⟨_,rfl,hd⟩,hs⟩:=hr;exact⟨_,rfl,sB hs,hd,qZ⟩
  | 65,_,hoq=>
   cases sI hoq;replace hz17:=hz17.tr0 hs;obtain⟨S88,c88,B88,m88,n88,e88,hz88⟩:=hd 64 (zj kR);refine zx 69 (.agg #[.string (mS6).sm.base,.slice A17 (mS6).sm.args.length c17]) (hd 45 (zj kR)) nu (zx 88 (.agg #[.int .i64 (Pz).tm.kind,.string (Pz).tm.name,.int .i64 (Pz).tm.index,.string (Pz).tm.type.base,.slice S88 (Pz).tm.type.args.length c88,.slice B88 (Pz).tm.args.length m88]) e88 nu ?_);refine xq Q4 (uy [] mS6 Pz _ _ _ _ _ _ _ _ wx (by simp) hz17 hz88) rfl (fun e' w2 hr=>?_);obtain⟨⟨_,rfl,hd⟩,hs⟩:=hr;exact⟨_,rfl,sB hs,hd,qZ⟩
  | 66,_,hoq=>
   cases sI hoq;have hs0:=hs;obtain⟨S30,c30,B30,m30,n30,e30,hz30⟩:=hd 6 (zj kR);obtain⟨S37,c37,B37,m37,n37,e37,hz37⟩:=hd 13 (zj kR);obtain⟨S40,c40,B40,m40,n40,e40,hz40⟩:=hd 16 (zj kR);obtain⟨S55,c55,B55,m55,n55,e55,hz55⟩:=hd 31 (zj kR);obtain⟨S68,c68,B68,m68,n68,e68,hz68⟩:=hd 44 (zj kR);obtain⟨S89,c89,B89,m89,n89,e89,hz89⟩:=hd 65 (zj kR);refine zx 30 (.agg #[.int .i64 (Vq).tm.kind,.string (Vq).tm.name,.int .i64 (Vq).tm.index,.string (Vq).tm.type.base,.slice S30 (Vq).tm.type.args.length c30,.slice B30 (Vq).tm.args.length m30]) e30 nu (zx 37 (.agg #[.int .i64 (Vz).tm.kind,.string (Vz).tm.name,.int .i64 (Vz).tm.index,.string (Vz).tm.type.base,.slice S37 (Vz).tm.type.args.length c37,.slice B37 (Vz).tm.args.length m37]) e37 nu (zx 40 (.agg #[.int .i64 (V9).tm.kind,.string (V9).tm.name,.int .i64 (V9).tm.index,.string (V9).tm.type.base,.slice S40 (V9).tm.type.args.length c40,.slice B40 (V9).tm.args.length m40]) e40 nu (zx 55 (.agg #[.int .i64 (V8).tm.kind,.string (V8).tm.name,.int .i64 (V8).tm.index,.string (V8).tm.type.base,.slice S55 (V8).tm.type.args.length c55,.slice B55 (V8).tm.args.length m55]) e55 nu (zx 68 (.agg #[.int .i64 (V7).tm.kind,.string (V7).tm.name,.int .i64 (V7).tm.index,.string (V7).tm.type.base,.slice S68 (V7).tm.type.args.length c68,.slice B68 (V7).tm.args.length m68]) e68 nu (zx 89 (.agg #[.int .i64 (V6).tm.kind,.string (V6).tm.name,.int .i64 (V6).tm.index,.string (V6).tm.type.base,.slice S89 (V6).tm.type.args.length c89,.slice B89 (V6).tm.args.length m89]) e89 nu ?_)))));refine kJ (fun ops Q K=>?_);refine xZ (cs:=#[_,_,_,_,_,_,_,_,_,_,_,_,_,_,_,_,_,_,_,_,_,_,_,_,_,_,_,_,_,_,_,_,_,_,_,_]) [(0,.agg _),(1,.agg _),(2,.agg _),(3,.agg _),(4,.agg _),(5,.agg _)] rfl U37 vQ uY dE dE kR rfl (fun b90 w1 hb90 hs hr=>?_);exact K _ _ ⟨hs,⟨_,_,_,_,_,_,_,_,_,_,_,_,_,_,_,_,_,_,_,_,_,_,_,_,_,rfl,nLT hs0.size hr,hb90,(hz30.tr0 hs).mono (nLT hz30.le hr) (Nat.le_of_lt hb90.lt),(hz37.tr0 hs).mono (nLT hz37.le hr) (Nat.le_of_lt hb90.lt),(hz40.tr0 hs).mono (nLT hz40.le hr) (Nat.le_of_lt hb90.lt),(hz55.tr0 hs).mono (nLT hz55.le hr) (Nat.le_of_lt hb90.lt),(hz68.tr0 hs).mono (nLT hz68.le hr) (Nat.le_of_lt hb90.lt),(hz89.tr0 hs).mono (nLT hz89.le hr) (Nat.le_of_lt hb90.lt)⟩,fR hr hb90.lt⟩
  | 67,_,hoq=>
   cases sI hoq;obtain⟨b90,S30,c30,B30,m30,S37,c37,B37,m37,S40,c40,B40,m40,S55,c55,B55,m55,S68,c68,B68,m68,S89,c89,B89,m89,e90,lo90,hb90,hz30,hz37,hz40,hz55,hz68,hz89⟩:=hd 66 (zj kR);refine zx 90 (.slice (some ⟨b90,0,none⟩) 6 6) e90 nu ?_;exact oV (oy (v:= .slice _ _ _) rfl) ⟨_,_,_,_,_,_,_,_,_,_,_,_,_,_,_,_,_,_,_,_,_,_,_,_,_,rfl,lo90,hb90,hz30,hz37,hz40,hz55,hz68,hz89⟩
  | _ + 68,hix,_=>exact absurd hix om
 intro gg w2 hs hR hdis;replace hZ:=hZ.trans hs;obtain⟨b90,S30,c30,B30,m30,S37,c37,B37,m37,S40,c40,B40,m40,S55,c55,B55,m55,S68,c68,B68,m68,S89,c89,B89,m89,e9,lo90,hb90,hz30,hz37,hz40,hz55,hz68,hz89⟩:=hR 67 dE;refine y5 9 (.slice (some ⟨b90,0,none⟩) 6 6) e9 nu (zq ?_);refine e_R ⟨agA,?_⟩;exact⟨hZ,b90,S30,c30,B30,m30,S37,c37,B37,m37,S40,c40,B40,m40,S55,c55,B55,m55,S68,c68,B68,m68,S89,c89,B89,m89,rfl,lo90,hb90,hz30,hz37,hz40,hz55,hz68,hz89⟩
set_option maxRecDepth 100000 in
set_option maxHeartbeats 8000000 in
theorem Rk (w:World):Calls Tryd.prog 26 #[.bool false] w fun e w'=>(∃ b vs n,e= .returned (.slice (some ⟨b,0,none⟩) 6 6)∧Blk w' b 39 vs.toArray∧TmCs n w' vk vs)∧Bel w w':=by
 refine enter Tryd.func26 Tryd.ntmps26 rfl (Nat.le_of_ble_eq_true rfl) ?_;have hB:Bel w w:=Below.refl _ _;refine zz (z4 (waS rfl (zq (e_S (zz (z4 ?_))))));refine qJ SJ (oY _ _) rfl (fun e' w1 hr=>?_);obtain⟨rfl,hs⟩:=hr;replace hs:=sB hs;replace hB:=hB.tr0 hs;refine⟨_,rfl,?_⟩;refine qJ SJ (oY _ _) rfl (fun e' w2 hr=>?_);obtain⟨rfl,hs⟩:=hr;replace hs:=sB hs;replace hB:=hB.tr0 hs;refine⟨_,rfl,?_⟩;refine xQ (cs:=#[.string ⟨#[]⟩,.slice none 0 0]) j8 rfl (fun b3 w3 hb3 hs hr=>?_);have lo3:=nLT (Bel.size hB) hr;replace hB:=hB.tr0 hs;refine xQ (cs:=#[.string ⟨#[]⟩,.slice none 0 0]) j8 rfl (fun b4 w4 hb4 hs hr=>?_);have:=nLL hb3.lt hr;have lo4:=nLT (Bel.size hB) hr;replace hB:=hB.tr0 hs;replace hb3:=hb3.tr0 hs;refine qz hb3 rfl rfl qk rfl qX (fun w5 hq hs=>?_);replace hB:=hB.tr1 hs lo3;replace hb4:=hb4.tr1 hs om;replace hb3:=hq;refine qz hb4 rfl rfl qk rfl qX (fun w6 hq hs=>?_);replace hB:=hB.tr1 hs lo4;replace hb3:=hb3.tr1 hs om;replace hb4:=hq;refine zq (e_S (zz (z4 (wl (zW U36 rfl rfl hb3.range0 qk) (wl (zW U36 rfl rfl hb4.range0 qk) ?_)))));refine qJ Y3 (Z0 [] (Ts.b false) (Ts.b true) _ _ _ _ _ _ _ (by simp) (Fz.triv _ _ TS (fun _=>SimsIn.nil)) (Fz.triv _ _ TS (fun _=>SimsIn.nil))) rfl (fun e' w7 hr=>?_);obtain⟨⟨_,rfl,A14,c14,n14,rfl,hz14⟩,hs⟩:=hr;replace hs:=sB hs;replace hB:=hB.tr0 hs;replace hb3:=hb3.tr0 hs;replace hb4:=hb4.tr0 hs;refine⟨_,rfl,?_⟩;refine yW (cs:=#[.string ⟨#[]⟩,.slice none 0 0]) j8 rfl (fun _=>rfl) (fun _=>rfl) qk rfl qX (fun b5 w9 hb5 hs hr=>?_);replace hB:=hB.tr0 hs;replace hb3:=hb3.tr0 hs;replace hb4:=hb4.tr0 hs;replace hz14:=hz14.tr0 hs;refine zq (e_S (zz (z4 (wl (zW U36 rfl rfl hb5.range0 qk) (wl (zW U36 rfl rfl hb4.range0 qk) ?_)))));refine qJ Y3 (Z0 [] mS5 (Ts.b true) _ _ _ _ _ _ _ (by simp) hz14 (Fz.triv _ _ TS (fun _=>SimsIn.nil))) rfl (fun e' w10 hr=>?_);obtain⟨⟨_,rfl,A17,c17,n17,rfl,hz17⟩,hs⟩:=hr;replace hs:=sB hs;replace hB:=hB.tr0 hs;replace hb3:=hb3.tr0 hs;replace hb4:=hb4.tr0 hs;replace hz14:=hz14.tr0 hs;replace hb5:=hb5.tr0 hs;refine⟨_,rfl,?_⟩;refine yW (cs:=#[.string ⟨#[]⟩,.slice none 0 0]) j8 rfl (fun _=>rfl) (fun _=>rfl) qk rfl qX (fun b6 w12 hb6 hs hr=>?_);replace hB:=hB.tr0 hs;replace hb3:=hb3.tr0 hs;replace hb4:=hb4.tr0 hs;replace hz14:=hz14.tr0 hs;replace hb5:=hb5.tr0 hs;replace hz17:=hz17.tr0 hs;refine zq (e_S (zz (z4 (wl (zW U36 rfl rfl hb3.range0 qk) (wl (zW U36 rfl rfl hb5.range0 qk) ?_)))));refine qJ Y3 (Z0 [] (Ts.b false) mS5 _ _ _ _ _ _ _ (by simp) (Fz.triv _ _ TS (fun _=>SimsIn.nil)) hz14) rfl (fun e' w13 hr=>?_)
 obtain⟨⟨_,rfl,A20,c20,n20,rfl,hz20⟩,hs⟩:=hr;replace hs:=sB hs;replace hB:=hB.tr0 hs;replace hb3:=hb3.tr0 hs;replace hb4:=hb4.tr0 hs;replace hz14:=hz14.tr0 hs;replace hb5:=hb5.tr0 hs;replace hz17:=hz17.tr0 hs;replace hb6:=hb6.tr0 hs;refine⟨_,rfl,?_⟩;refine yW (cs:=#[.string ⟨#[]⟩,.slice none 0 0]) j8 rfl (fun _=>rfl) (fun _=>rfl) qk rfl qX (fun b7 w15 hb7 hs hr=>?_);replace hB:=hB.tr0 hs;replace hb3:=hb3.tr0 hs;replace hb4:=hb4.tr0 hs;replace hz14:=hz14.tr0 hs;replace hb5:=hb5.tr0 hs;replace hz17:=hz17.tr0 hs;replace hb6:=hb6.tr0 hs;replace hz20:=hz20.tr0 hs;refine zq (e_S (zz (z4 (wl (zW U36 rfl rfl hb5.range0 qk) (wl (zW U36 rfl rfl hb6.range0 qk) ?_)))));refine qJ Y3 (Z0 [] mS5 mS6 _ _ _ _ _ _ _ (by simp) hz14 hz17) rfl (fun e' w16 hr=>?_);obtain⟨⟨_,rfl,A23,c23,n23,rfl,hz23⟩,hs⟩:=hr;replace hs:=sB hs;replace hB:=hB.tr0 hs;replace hb3:=hb3.tr0 hs;replace hb4:=hb4.tr0 hs;replace hz14:=hz14.tr0 hs;replace hb5:=hb5.tr0 hs;replace hz17:=hz17.tr0 hs;replace hb6:=hb6.tr0 hs;replace hz20:=hz20.tr0 hs;replace hb7:=hb7.tr0 hs;refine⟨_,rfl,?_⟩;refine yW (cs:=#[.string ⟨#[]⟩,.slice none 0 0]) j8 rfl (fun _=>rfl) (fun _=>rfl) qk rfl qX (fun b8 w18 hb8 hs hr=>?_);replace hB:=hB.tr0 hs;replace hb3:=hb3.tr0 hs;replace hb4:=hb4.tr0 hs;replace hz14:=hz14.tr0 hs;replace hb5:=hb5.tr0 hs;replace hz17:=hz17.tr0 hs;replace hb6:=hb6.tr0 hs;replace hz20:=hz20.tr0 hs;replace hb7:=hb7.tr0 hs;replace hz23:=hz23.tr0 hs;refine zq (e_S (zz ?_));refine yV [9,24,25,26,27,28,29,30,31,32,33,34,35,36,37,38,39,40,41,42,43,44,45,46,47,48,49,50,51,52,53,54,55,56,57,58,59,60,61,62,63,64,65,66,67,68,69,70,71,72,73,74,75,76,77,78,79,80,81,82,83,84,85,86,87,88,89,90] (fun g w'=>Same [] w18 w'∧MnR w18 (g 9) w') ?_ (fun g6 w19 hI=>?_)
 ·have hh:=fun f Q k0 k1 k2 k3 k4 k5=>mean_r6 hb3 hb4 hb5 hb6 hb7 hb8 hz14 hz17 hz20 hz23 f Q k0 k1 k2 k3 k4 k5
  exact hh _ _ (by rfl) (by rfl) (by rfl) (by rfl) (by rfl) (by rfl)
 obtain⟨hs,b90,S30,c30,B30,m30,S37,c37,B37,m37,S40,c40,B40,m40,S55,c55,B55,m55,S68,c68,B68,m68,S89,c89,B89,m89,e9,lo90,hb90,hz30,hz37,hz40,hz55,hz68,hz89⟩:=hI;replace hB:=hB.tr0 hs;refine u5 9 (.slice (some ⟨b90,0,none⟩) 6 6) e9 nu (e_S (zz (zz (z4 (wmB rfl (zq (e_S ?_)))))));refine kZ rfl (fun c91=>?_) (fun c91=>?_)
 ·exact absurd c91 dE
 refine zK (e_S (zz (z4 (wmS rfl (waS rfl (zq (e_S (q8 (qK (.inl rfl) rfl rfl ?_)))))))));exact⟨⟨b90,_,b90,rfl,hb90,(.cons hz30 (.cons hz37 (.cons hz40 (.cons hz55 (.cons hz68 (.cons hz89 .nil))))))⟩,hB⟩
end Go.Proofs.YtfkbjncidemcbaaDoor
