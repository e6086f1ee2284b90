/- What these functions of the program compute, at every world: glosswright/glosswrightequal.meanings, glosswright/glosswrightequal.meanings. -/
import Derived.Test.YtfkbjncidemcbaaDoorU
import Derived.Test.YtfkbjncidemcbaaDoorDQu
namespace Go.Proofs.YtfkbjncidemcbaaDoor
open Go.RowKit
def mS5:Ts:=(Ts.f (Ts.b false) (Ts.b true))
def mS6:Ts:=(Ts.f mS5 (Ts.b true))
def mS7:Ts:=(Ts.f (Ts.b false) mS5)
def mS8:Ts:=(Ts.f mS5 mS6)
def BX:Tv:=(Tv.var 1)
def BQ:Tv:=(Tv.var 0)
def BZ:Tv:=(Tv.app BX BQ)
def By:Tv:=(Tv.abs mS5 BZ)
def VJ:Tv:=(Tv.abs mS6 By)
def Bw:Tv:=(Tv.var 1)
def Bv:Tv:=(Tv.var 0)
def Bx:Tv:=(Tv.app Bw Bv)
def Bq:Tv:=(Tv.abs mS5 Bx)
def QY:Tv:=(Tv.abs mS8 Bq)
def Bz:Tv:=(Tv.var 0)
def uW:Tv:=(Tv.abs mS5 Bz)
def B8:Tv:=(Tv.var 1)
def B7:Tv:=(Tv.var 3)
def B6:Tv:=(Tv.var 1)
def B5:Tv:=(Tv.app B7 B6)
def B4:Tv:=(Tv.var 0)
def B3:Tv:=(Tv.app B5 B4)
def CY:Tv:=(Tv.abs (Ts.b false) B3)
def CW:Tv:=(Tv.app B8 CY)
def CV:Tv:=(Tv.abs (Ts.b false) CW)
def CK:Tv:=(Tv.abs mS6 CV)
def Z8:Tv:=(Tv.abs mS7 CK)
def mT58:Ts:=(Ts.f (Ts.b true) (Ts.b true))
def CJ:Tv:=(Tv.var 2)
def CX:Tv:=(Tv.var 1)
def CQ:Tv:=(Tv.var 0)
def CZ:Tv:=(Tv.app CX CQ)
def Cy:Tv:=(Tv.app CJ CZ)
def Cw:Tv:=(Tv.abs (Ts.b false) Cy)
def Cv:Tv:=(Tv.abs mS5 Cw)
def uV:Tv:=(Tv.abs mT58 Cv)
def mT73:Ts:=(Ts.f (Ts.b true) (Ts.b true))
def mT74:Ts:=(Ts.f (Ts.b true) mT73)
def Ck:Tv:=(Tv.var 2)
def Cj:Tv:=(Tv.var 3)
def Cx:Tv:=(Tv.var 0)
def Cq:Tv:=(Tv.app Cj Cx)
def Cz:Tv:=(Tv.app Ck Cq)
def C9:Tv:=(Tv.var 1)
def C8:Tv:=(Tv.var 0)
def C7:Tv:=(Tv.app C9 C8)
def C6:Tv:=(Tv.app Cz C7)
def C5:Tv:=(Tv.abs mS5 C6)
def C4:Tv:=(Tv.abs mS6 C5)
def C3:Tv:=(Tv.abs mT74 C4)
def uK:Tv:=(Tv.abs mS6 C3)
def C1:Tv:=(Tv.var 0)
def C0:Tv:=(Tv.var 1)
def DY:Tv:=(Tv.app C1 C0)
def DW:Tv:=(Tv.abs mS6 DY)
def Zv:Tv:=(Tv.abs mS5 DW)
def Iw:Tv:=(Tv.var 0)
def Iv:Tv:=(Tv.var 1)
def Ik:Tv:=(Tv.app Iw Iv)
def Ij:Tv:=(Tv.abs mS8 Ik)
def oW:Tv:=(Tv.abs mS5 Ij)
def Ix:Tv:=(Tv.var 2)
def Iq:Tv:=(Tv.var 2)
def Iz:Tv:=(Tv.var 1)
def I9:Tv:=(Tv.app Iq Iz)
def I8:Tv:=(Tv.var 0)
def I7:Tv:=(Tv.app I9 I8)
def I6:Tv:=(Tv.abs (Ts.b false) I7)
def I5:Tv:=(Tv.app Ix I6)
def I4:Tv:=(Tv.abs (Ts.b false) I5)
def I3:Tv:=(Tv.abs mS7 I4)
def X4:Tv:=(Tv.abs mS6 I3)
def vX:List Tv:=[VJ,QY,uW,Z8,uV,uK]
def vQ:List Tv:=[Zv,oW,uW,X4,uV,uK]
def MnR (wc:World) (v:Value) (w':World):Prop:=∃ b90 S30 c30 B30 m30 S37 c37 B37 m37 S40 c40 B40 m40 S55 c55 B55 m55 S68 c68 B68 m68 S89 c89 B89 m89,v= .slice (some ⟨b90,0,none⟩) 6 6∧wc.heap.size≤b90∧Blk w' b90 39 #[.int .i64 (VJ).tm.kind,.string (VJ).tm.name,.int .i64 (VJ).tm.index,.string (VJ).tm.type.base,.slice S30 (VJ).tm.type.args.length c30,.slice B30 (VJ).tm.args.length m30,.int .i64 (QY).tm.kind,.string (QY).tm.name,.int .i64 (QY).tm.index,.string (QY).tm.type.base,.slice S37 (QY).tm.type.args.length c37,.slice B37 (QY).tm.args.length m37,.int .i64 (uW).tm.kind,.string (uW).tm.name,.int .i64 (uW).tm.index,.string (uW).tm.type.base,.slice S40 (uW).tm.type.args.length c40,.slice B40 (uW).tm.args.length m40,.int .i64 (Z8).tm.kind,.string (Z8).tm.name,.int .i64 (Z8).tm.index,.string (Z8).tm.type.base,.slice S55 (Z8).tm.type.args.length c55,.slice B55 (Z8).tm.args.length m55,.int .i64 (uV).tm.kind,.string (uV).tm.name,.int .i64 (uV).tm.index,.string (uV).tm.type.base,.slice S68 (uV).tm.type.args.length c68,.slice B68 (uV).tm.args.length m68,.int .i64 (uK).tm.kind,.string (uK).tm.name,.int .i64 (uK).tm.index,.string (uK).tm.type.base,.slice S89 (uK).tm.type.args.length c89,.slice B89 (uK).tm.args.length m89]∧Fz [] b90 TS w' (fun w=>SimsIn w S30 (VJ).tm.type.args∧TmsIn w B30 (VJ).tm.args)∧Fz [] b90 TS w' (fun w=>SimsIn w S37 (QY).tm.type.args∧TmsIn w B37 (QY).tm.args)∧Fz [] b90 TS w' (fun w=>SimsIn w S40 (uW).tm.type.args∧TmsIn w B40 (uW).tm.args)∧Fz [] b90 TS w' (fun w=>SimsIn w S55 (Z8).tm.type.args∧TmsIn w B55 (Z8).tm.args)∧Fz [] b90 TS w' (fun w=>SimsIn w S68 (uV).tm.type.args∧TmsIn w B68 (uV).tm.args)∧Fz [] b90 TS w' (fun w=>SimsIn w S89 (uK).tm.type.args∧TmsIn w B89 (uK).tm.args)
theorem MnR.tr0 {wc w1 w2:World} {v:Value} (h:MnR wc v w1) (hs:Same [] w1 w2):MnR wc v w2:=by
  obtain⟨b90,S30,c30,B30,m30,S37,c37,B37,m37,S40,c40,B40,m40,S55,c55,B55,m55,S68,c68,B68,m68,S89,c89,B89,m89,e,lo,hb,hz30,hz37,hz40,hz55,hz68,hz89⟩:=h;exact⟨b90,S30,c30,B30,m30,S37,c37,B37,m37,S40,c40,B40,m40,S55,c55,B55,m55,S68,c68,B68,m68,S89,c89,B89,m89,e,lo,hb.tr0 hs,hz30.tr0 hs,hz37.tr0 hs,hz40.tr0 hs,hz55.tr0 hs,hz68.tr0 hs,hz89.tr0 hs⟩
set_option maxRecDepth 100000 in
set_option maxHeartbeats 8000000 in
theorem HX {wc:World} {b3 b4 b5 b6 b7 b8 c14 c17 c20 c23 n14 n17 n20 n23:Nat} {A14 A17 A20 A23:Option Addr} (hb3:Blk wc b3 36 #[.string ⟨#[101]⟩,.slice none 0 0]) (hb4:Blk wc b4 36 #[.string ⟨#[116]⟩,.slice none 0 0]) (hb5:Blk wc b5 36 #[.string (mS5).sm.base,.slice A14 (mS5).sm.args.length c14]) (hb6:Blk wc b6 36 #[.string (mS6).sm.base,.slice A17 (mS6).sm.args.length c17]) (hb7:Blk wc b7 36 #[.string (mS7).sm.base,.slice A20 (mS7).sm.args.length c20]) (hb8:Blk wc b8 36 #[.string (mS8).sm.base,.slice A23 (mS8).sm.args.length c23]) (hz14:Fz [] n14 TS wc (fun w=>SimsIn w A14 (mS5).sm.args)) (hz17:Fz [] n17 TS wc (fun w=>SimsIn w A17 (mS6).sm.args)) (hz20:Fz [] n20 TS wc (fun w=>SimsIn w A20 (mS7).sm.args)) (hz23:Fz [] n23 TS wc (fun w=>SimsIn w A23 (mS8).sm.args)) (f:Fr) (Q:Exit→Act→World→Prop) (k3:f 3= .pointer (some ⟨b3,0,none⟩)) (k4:f 4= .pointer (some ⟨b4,0,none⟩)) (k5:f 5= .pointer (some ⟨b5,0,none⟩)) (k6:f 6= .pointer (some ⟨b6,0,none⟩)) (k7:f 7= .pointer (some ⟨b7,0,none⟩)) (k8:f 8= .pointer (some ⟨b8,0,none⟩)):WC Tryd.prog (sl (sr (sr (sr (sr (sr (sr (ob Tryd.f26.body)))))))) (QRS 128 [9,24,25,26,27,28,29,30,31,32,33,34,35,36,37,38,39,40,41,42,43,44,45,46,47,48,49,50,51,52,53,54,55,56,57,58,59,60,61,62,63,64,65,66,67,68,69,70,71,72,73,74,75,76,77,78,79,80,81,82,83,84,85,86,87,88,89,90] f (fun g w'=>Same [] wc w'∧MnR wc (g 9) w') Q) 128 f wc:=by
 have hZ:Same [] wc wc:=Same.refl _ _;refine qx 3 (.pointer (some ⟨b3,0,none⟩)) k3 nu (qx 4 (.pointer (some ⟨b4,0,none⟩)) k4 nu (qx 5 (.pointer (some ⟨b5,0,none⟩)) k5 nu (qx 6 (.pointer (some ⟨b6,0,none⟩)) k6 nu (qx 7 (.pointer (some ⟨b7,0,none⟩)) k7 nu (qx 8 (.pointer (some ⟨b8,0,none⟩)) k8 nu ?_)))));refine vy 68 [24,25,26,27,28,29,30,31,32,33,34,35,36,37,38,39,40,41,42,43,44,45,46,47,48,49,50,51,52,53,54,55,56,57,58,59,60,61,62,63,64,65,66,67,68,69,70,71,72,73,74,75,76,77,78,79,80,81,82,83,84,85,86,87,88,89,90,9] (fun ix=>Nat.beq ix 66) (fun ix v wv=>match ix with | 0=>v= .agg #[.string (mS6).sm.base,.slice A17 (mS6).sm.args.length c17] | 1=>v= .agg #[.string (mS5).sm.base,.slice A14 (mS5).sm.args.length c14] | 2=>TmD [] BX wv (v) | 3=>TmD [] BQ wv (v) | 4=>TmD [] BZ wv (v) | 5=>TmD [] By wv (v) | 6=>TmD [] VJ wv (v) | 7=>v= .agg #[.string (mS8).sm.base,.slice A23 (mS8).sm.args.length c23] | 8=>v= .agg #[.string (mS5).sm.base,.slice A14 (mS5).sm.args.length c14] | 9=>TmD [] Bw wv (v) | 10=>TmD [] Bv wv (v) | 11=>TmD [] Bx wv (v) | 12=>TmD [] Bq wv (v) | 13=>TmD [] QY wv (v) | 14=>v= .agg #[.string (mS5).sm.base,.slice A14 (mS5).sm.args.length c14] | 15=>TmD [] Bz wv (v) | 16=>TmD [] uW wv (v) | 17=>v= .agg #[.string (mS7).sm.base,.slice A20 (mS7).sm.args.length c20] | 18=>v= .agg #[.string (mS6).sm.base,.slice A17 (mS6).sm.args.length c17] | 19=>v= .agg #[.string ((Ts.b false)).sm.base,.slice none ((Ts.b false)).sm.args.length 0] | 20=>TmD [] B8 wv (v) | 21=>v= .agg #[.string ((Ts.b false)).sm.base,.slice none ((Ts.b false)).sm.args.length 0] | 22=>TmD [] B7 wv (v) | 23=>TmD [] B6 wv (v) | 24=>TmD [] B5 wv (v) | 25=>TmD [] B4 wv (v) | 26=>TmD [] B3 wv (v) | 27=>TmD [] CY wv (v) | 28=>TmD [] CW wv (v) | 29=>TmD [] CV wv (v) | 30=>TmD [] CK wv (v) | 31=>TmD [] Z8 wv (v) | 32=>v= .agg #[.string ((Ts.b true)).sm.base,.slice none ((Ts.b true)).sm.args.length 0] | 33=>v= .agg #[.string ((Ts.b true)).sm.base,.slice none ((Ts.b true)).sm.args.length 0] | 34=>SmD [] mT58 wv (v) | 35=>v= .agg #[.string (mS5).sm.base,.slice A14 (mS5).sm.args.length c14] | 36=>v= .agg #[.string ((Ts.b false)).sm.base,.slice none ((Ts.b false)).sm.args.length 0] | 37=>TmD [] CJ wv (v) | 38=>TmD [] CX wv (v) | 39=>TmD [] CQ wv (v) | 40=>TmD [] CZ wv (v) | 41=>TmD [] Cy wv (v) | 42=>TmD [] Cw wv (v) | 43=>TmD [] Cv wv (v) | 44=>TmD [] uV wv (v) | 45=>v= .agg #[.string (mS6).sm.base,.slice A17 (mS6).sm.args.length c17] | 46=>v= .agg #[.string ((Ts.b true)).sm.base,.slice none ((Ts.b true)).sm.args.length 0] | 47=>v= .agg #[.string ((Ts.b true)).sm.base,.slice none ((Ts.b true)).sm.args.length 0] | 48=>v= .agg #[.string ((Ts.b true)).sm.base,.slice none ((Ts.b true)).sm.args.length 0] | 49=>SmD [] mT73 wv (v) | 50=>SmD [] mT74 wv (v) | 51=>v= .agg #[.string (mS6).sm.base,.slice A17 (mS6).sm.args.length c17] | 52=>v= .agg #[.string (mS5).sm.base,.slice A14 (mS5).sm.args.length c14] | 53=>TmD [] Ck wv (v) | 54=>TmD [] Cj wv (v) | 55=>TmD [] Cx wv (v) | 56=>TmD [] Cq wv (v) | 57=>TmD [] Cz wv (v) | 58=>TmD [] C9 wv (v) | 59=>TmD [] C8 wv (v) | 60=>TmD [] C7 wv (v) | 61=>TmD [] C6 wv (v) | 62=>TmD [] C5 wv (v) | 63=>TmD [] C4 wv (v) | 64=>TmD [] C3 wv (v) | 65=>TmD [] uK wv (v) | 66=>MnR wc (v) wv | 67=>MnR wc (v) wv | _=>True) kR kR ?_ ?_ ?_
 ·intro ix v wv wv2 h hs
  match ix,h with
  | 0,h=>exact h
  | 1,h=>exact h
  | 2,h=>
   obtain⟨S26,c26,B26,m26,n26,e26,hz26⟩:=h;exact⟨S26,c26,B26,m26,n26,e26,hz26.tr0 hs⟩
  | 3,h=>
   obtain⟨S27,c27,B27,m27,n27,e27,hz27⟩:=h;exact⟨S27,c27,B27,m27,n27,e27,hz27.tr0 hs⟩
  | 4,h=>
   obtain⟨S28,c28,B28,m28,n28,e28,hz28⟩:=h;exact⟨S28,c28,B28,m28,n28,e28,hz28.tr0 hs⟩
  | 5,h=>
   obtain⟨S29,c29,B29,m29,n29,e29,hz29⟩:=h;exact⟨S29,c29,B29,m29,n29,e29,hz29.tr0 hs⟩
  | 6,h=>
   obtain⟨S30,c30,B30,m30,n30,e30,hz30⟩:=h;exact⟨S30,c30,B30,m30,n30,e30,hz30.tr0 hs⟩
  | 7,h=>exact h
  | 8,h=>exact h
  | 9,h=>
   obtain⟨S33,c33,B33,m33,n33,e33,hz33⟩:=h;exact⟨S33,c33,B33,m33,n33,e33,hz33.tr0 hs⟩
  | 10,h=>
   obtain⟨S34,c34,B34,m34,n34,e34,hz34⟩:=h;exact⟨S34,c34,B34,m34,n34,e34,hz34.tr0 hs⟩
  | 11,h=>
   obtain⟨S35,c35,B35,m35,n35,e35,hz35⟩:=h;exact⟨S35,c35,B35,m35,n35,e35,hz35.tr0 hs⟩
  | 12,h=>
   obtain⟨S36,c36,B36,m36,n36,e36,hz36⟩:=h;exact⟨S36,c36,B36,m36,n36,e36,hz36.tr0 hs⟩
  | 13,h=>
   obtain⟨S37,c37,B37,m37,n37,e37,hz37⟩:=h;exact⟨S37,c37,B37,m37,n37,e37,hz37.tr0 hs⟩
  | 14,h=>exact h
  | 15,h=>
   obtain⟨S39,c39,B39,m39,n39,e39,hz39⟩:=h;exact⟨S39,c39,B39,m39,n39,e39,hz39.tr0 hs⟩
  | 16,h=>
   obtain⟨S40,c40,B40,m40,n40,e40,hz40⟩:=h;exact⟨S40,c40,B40,m40,n40,e40,hz40.tr0 hs⟩
  | 17,h=>exact h
  | 18,h=>exact h
  | 19,h=>exact h
  | 20,h=>
   obtain⟨S44,c44,B44,m44,n44,e44,hz44⟩:=h;exact⟨S44,c44,B44,m44,n44,e44,hz44.tr0 hs⟩
  | 21,h=>exact h
  | 22,h=>
   obtain⟨S46,c46,B46,m46,n46,e46,hz46⟩:=h;exact⟨S46,c46,B46,m46,n46,e46,hz46.tr0 hs⟩
  | 23,h=>
   obtain⟨S47,c47,B47,m47,n47,e47,hz47⟩:=h;exact⟨S47,c47,B47,m47,n47,e47,hz47.tr0 hs⟩
  | 24,h=>
   obtain⟨S48,c48,B48,m48,n48,e48,hz48⟩:=h;exact⟨S48,c48,B48,m48,n48,e48,hz48.tr0 hs⟩
  | 25,h=>
   obtain⟨S49,c49,B49,m49,n49,e49,hz49⟩:=h;exact⟨S49,c49,B49,m49,n49,e49,hz49.tr0 hs⟩
  | 26,h=>
   obtain⟨S50,c50,B50,m50,n50,e50,hz50⟩:=h;exact⟨S50,c50,B50,m50,n50,e50,hz50.tr0 hs⟩
  | 27,h=>
   obtain⟨S51,c51,B51,m51,n51,e51,hz51⟩:=h;exact⟨S51,c51,B51,m51,n51,e51,hz51.tr0 hs⟩
  | 28,h=>
   obtain⟨S52,c52,B52,m52,n52,e52,hz52⟩:=h;exact⟨S52,c52,B52,m52,n52,e52,hz52.tr0 hs⟩
  | 29,h=>
   obtain⟨S53,c53,B53,m53,n53,e53,hz53⟩:=h;exact⟨S53,c53,B53,m53,n53,e53,hz53.tr0 hs⟩
  | 30,h=>
   obtain⟨S54,c54,B54,m54,n54,e54,hz54⟩:=h;exact⟨S54,c54,B54,m54,n54,e54,hz54.tr0 hs⟩
  | 31,h=>
   obtain⟨S55,c55,B55,m55,n55,e55,hz55⟩:=h;exact⟨S55,c55,B55,m55,n55,e55,hz55.tr0 hs⟩
  | 32,h=>exact h
  | 33,h=>exact h
  | 34,h=>
   obtain⟨A58,c58,n58,e58,hz58⟩:=h;exact⟨A58,c58,n58,e58,hz58.tr0 hs⟩
  | 35,h=>exact h
  | 36,h=>exact h
  | 37,h=>
   obtain⟨S61,c61,B61,m61,n61,e61,hz61⟩:=h;exact⟨S61,c61,B61,m61,n61,e61,hz61.tr0 hs⟩
  | 38,h=>
   obtain⟨S62,c62,B62,m62,n62,e62,hz62⟩:=h;exact⟨S62,c62,B62,m62,n62,e62,hz62.tr0 hs⟩
  | 39,h=>
   obtain⟨S63,c63,B63,m63,n63,e63,hz63⟩:=h;exact⟨S63,c63,B63,m63,n63,e63,hz63.tr0 hs⟩
  | 40,h=>
   obtain⟨S64,c64,B64,m64,n64,e64,hz64⟩:=h;exact⟨S64,c64,B64,m64,n64,e64,hz64.tr0 hs⟩
  | 41,h=>
   obtain⟨S65,c65,B65,m65,n65,e65,hz65⟩:=h;exact⟨S65,c65,B65,m65,n65,e65,hz65.tr0 hs⟩
  | 42,h=>
   obtain⟨S66,c66,B66,m66,n66,e66,hz66⟩:=h;exact⟨S66,c66,B66,m66,n66,e66,hz66.tr0 hs⟩
  | 43,h=>
   obtain⟨S67,c67,B67,m67,n67,e67,hz67⟩:=h;exact⟨S67,c67,B67,m67,n67,e67,hz67.tr0 hs⟩
  | 44,h=>
   obtain⟨S68,c68,B68,m68,n68,e68,hz68⟩:=h;exact⟨S68,c68,B68,m68,n68,e68,hz68.tr0 hs⟩
  | 45,h=>exact h
  | 46,h=>exact h
  | 47,h=>exact h
  | 48,h=>exact h
  | 49,h=>
   obtain⟨A73,c73,n73,e73,hz73⟩:=h;exact⟨A73,c73,n73,e73,hz73.tr0 hs⟩
  | 50,h=>
   obtain⟨A74,c74,n74,e74,hz74⟩:=h;exact⟨A74,c74,n74,e74,hz74.tr0 hs⟩
  | 51,h=>exact h
  | 52,h=>exact h
  | 53,h=>
   obtain⟨S77,c77,B77,m77,n77,e77,hz77⟩:=h;exact⟨S77,c77,B77,m77,n77,e77,hz77.tr0 hs⟩
  | 54,h=>
   obtain⟨S78,c78,B78,m78,n78,e78,hz78⟩:=h;exact⟨S78,c78,B78,m78,n78,e78,hz78.tr0 hs⟩
  | 55,h=>
   obtain⟨S79,c79,B79,m79,n79,e79,hz79⟩:=h;exact⟨S79,c79,B79,m79,n79,e79,hz79.tr0 hs⟩
  | 56,h=>
   obtain⟨S80,c80,B80,m80,n80,e80,hz80⟩:=h;exact⟨S80,c80,B80,m80,n80,e80,hz80.tr0 hs⟩
  | 57,h=>
   obtain⟨S81,c81,B81,m81,n81,e81,hz81⟩:=h;exact⟨S81,c81,B81,m81,n81,e81,hz81.tr0 hs⟩
  | 58,h=>
   obtain⟨S82,c82,B82,m82,n82,e82,hz82⟩:=h;exact⟨S82,c82,B82,m82,n82,e82,hz82.tr0 hs⟩
  | 59,h=>
   obtain⟨S83,c83,B83,m83,n83,e83,hz83⟩:=h;exact⟨S83,c83,B83,m83,n83,e83,hz83.tr0 hs⟩
  | 60,h=>
   obtain⟨S84,c84,B84,m84,n84,e84,hz84⟩:=h;exact⟨S84,c84,B84,m84,n84,e84,hz84.tr0 hs⟩
  | 61,h=>
   obtain⟨S85,c85,B85,m85,n85,e85,hz85⟩:=h;exact⟨S85,c85,B85,m85,n85,e85,hz85.tr0 hs⟩
  | 62,h=>
   obtain⟨S86,c86,B86,m86,n86,e86,hz86⟩:=h;exact⟨S86,c86,B86,m86,n86,e86,hz86.tr0 hs⟩
  | 63,h=>
   obtain⟨S87,c87,B87,m87,n87,e87,hz87⟩:=h;exact⟨S87,c87,B87,m87,n87,e87,hz87.tr0 hs⟩
  | 64,h=>
   obtain⟨S88,c88,B88,m88,n88,e88,hz88⟩:=h;exact⟨S88,c88,B88,m88,n88,e88,hz88.tr0 hs⟩
  | 65,h=>
   obtain⟨S89,c89,B89,m89,n89,e89,hz89⟩:=h;exact⟨S89,c89,B89,m89,n89,e89,hz89.tr0 hs⟩
  | 66,h=>
   exact MnR.tr0 h hs
  | 67,h=>
   exact MnR.tr0 h hs
  | _ + 68,h=>exact trivial
 ·intro ix o hix hoq gg wx hs hd hdis
  match ix,hix,hoq with
  | 0,_,hoq=>
   cases sI hoq;replace hb6:=hb6.tr0 hs;exact oV (zV U36 rfl rfl hb6.range0 zW) rfl
  | 1,_,hoq=>
   cases sI hoq;replace hb5:=hb5.tr0 hs;exact oV (zV U36 rfl rfl hb5.range0 zW) rfl
  | 2,_,hoq=>
   cases sI hoq;refine x5 oq (yY [] 1 wx) rfl (fun e' w2 hr=>?_);obtain⟨⟨_,rfl,hd⟩,hs⟩:=hr;exact⟨_,rfl,sB hs,hd,zY⟩
  | 3,_,hoq=>
   cases sI hoq;refine x5 oq (yY [] 0 wx) rfl (fun e' w2 hr=>?_);obtain⟨⟨_,rfl,hd⟩,hs⟩:=hr;exact⟨_,rfl,sB hs,hd,zY⟩
  | 4,_,hoq=>
   cases sI hoq;obtain⟨S26,c26,B26,m26,n26,e26,hz26⟩:=hd 2 (zj kR);obtain⟨S27,c27,B27,m27,n27,e27,hz27⟩:=hd 3 (zj kR);refine zq 26 (.agg #[.int .i64 (BX).tm.kind,.string (BX).tm.name,.int .i64 (BX).tm.index,.string (BX).tm.type.base,.slice S26 (BX).tm.type.args.length c26,.slice B26 (BX).tm.args.length m26]) e26 nu (zq 27 (.agg #[.int .i64 (BQ).tm.kind,.string (BQ).tm.name,.int .i64 (BQ).tm.index,.string (BQ).tm.type.base,.slice S27 (BQ).tm.type.args.length c27,.slice B27 (BQ).tm.args.length m27]) e27 nu ?_);refine x5 Q0 (uk [] BX BQ _ _ _ _ _ _ _ _ _ _ wx (by simp) hz26 hz27) rfl (fun e' w2 hr=>?_);obtain⟨⟨_,rfl,hd⟩,hs⟩:=hr;exact⟨_,rfl,sB hs,hd,zY⟩
  | 5,_,hoq=>
   cases sI hoq;replace hz14:=hz14.tr0 hs;obtain⟨S28,c28,B28,m28,n28,e28,hz28⟩:=hd 4 (zj kR);refine zq 25 (.agg #[.string (mS5).sm.base,.slice A14 (mS5).sm.args.length c14]) (hd 1 (zj kR)) nu (zq 28 (.agg #[.int .i64 (BZ).tm.kind,.string (BZ).tm.name,.int .i64 (BZ).tm.index,.string (BZ).tm.type.base,.slice S28 (BZ).tm.type.args.length c28,.slice B28 (BZ).tm.args.length m28]) e28 nu ?_);refine x5 oj (kq [] mS5 BZ _ _ _ _ _ _ _ _ wx (by simp) hz14 hz28) rfl (fun e' w2 hr=>?_);obtain⟨⟨_,rfl,hd⟩,hs⟩:=hr;exact⟨_,rfl,sB hs,hd,zY⟩
  | 6,_,hoq=>
   cases sI hoq;replace hz17:=hz17.tr0 hs;obtain⟨S29,c29,B29,m29,n29,e29,hz29⟩:=hd 5 (zj kR);refine zq 24 (.agg #[.string (mS6).sm.base,.slice A17 (mS6).sm.args.length c17]) (hd 0 (zj kR)) nu (zq 29 (.agg #[.int .i64 (By).tm.kind,.string (By).tm.name,.int .i64 (By).tm.index,.string (By).tm.type.base,.slice S29 (By).tm.type.args.length c29,.slice B29 (By).tm.args.length m29]) e29 nu ?_);refine x5 oj (kq [] mS6 By _ _ _ _ _ _ _ _ wx (by simp) hz17 hz29) rfl (fun e' w2 hr=>?_);obtain⟨⟨_,rfl,hd⟩,hs⟩:=hr;exact⟨_,rfl,sB hs,hd,zY⟩
  | 7,_,hoq=>
   cases sI hoq;replace hb8:=hb8.tr0 hs;exact oV (zV U36 rfl rfl hb8.range0 zW) rfl
  | 8,_,hoq=>
   cases sI hoq;replace hb5:=hb5.tr0 hs;exact oV (zV U36 rfl rfl hb5.range0 zW) rfl
  | 9,_,hoq=>
   cases sI hoq;refine x5 oq (yY [] 1 wx) rfl (fun e' w2 hr=>?_);obtain⟨⟨_,rfl,hd⟩,hs⟩:=hr;exact⟨_,rfl,sB hs,hd,zY⟩
  | 10,_,hoq=>
   cases sI hoq;refine x5 oq (yY [] 0 wx) rfl (fun e' w2 hr=>?_);obtain⟨⟨_,rfl,hd⟩,hs⟩:=hr;exact⟨_,rfl,sB hs,hd,zY⟩
  | 11,_,hoq=>
   cases sI hoq;obtain⟨S33,c33,B33,m33,n33,e33,hz33⟩:=hd 9 (zj kR);obtain⟨S34,c34,B34,m34,n34,e34,hz34⟩:=hd 10 (zj kR);refine zq 33 (.agg #[.int .i64 (Bw).tm.kind,.string (Bw).tm.name,.int .i64 (Bw).tm.index,.string (Bw).tm.type.base,.slice S33 (Bw).tm.type.args.length c33,.slice B33 (Bw).tm.args.length m33]) e33 nu (zq 34 (.agg #[.int .i64 (Bv).tm.kind,.string (Bv).tm.name,.int .i64 (Bv).tm.index,.string (Bv).tm.type.base,.slice S34 (Bv).tm.type.args.length c34,.slice B34 (Bv).tm.args.length m34]) e34 nu ?_);refine x5 Q0 (uk [] Bw Bv _ _ _ _ _ _ _ _ _ _ wx (by simp) hz33 hz34) rfl (fun e' w2 hr=>?_);obtain⟨⟨_,rfl,hd⟩,hs⟩:=hr;exact⟨_,rfl,sB hs,hd,zY⟩
  | 12,_,hoq=>
   cases sI hoq;replace hz14:=hz14.tr0 hs;obtain⟨S35,c35,B35,m35,n35,e35,hz35⟩:=hd 11 (zj kR);refine zq 32 (.agg #[.string (mS5).sm.base,.slice A14 (mS5).sm.args.length c14]) (hd 8 (zj kR)) nu (zq 35 (.agg #[.int .i64 (Bx).tm.kind,.string (Bx).tm.name,.int .i64 (Bx).tm.index,.string (Bx).tm.type.base,.slice S35 (Bx).tm.type.args.length c35,.slice B35 (Bx).tm.args.length m35]) e35 nu ?_);refine x5 oj (kq [] mS5 Bx _ _ _ _ _ _ _ _ wx (by simp) hz14 hz35) rfl (fun e' w2 hr=>?_);obtain⟨⟨_,rfl,hd⟩,hs⟩:=hr;exact⟨_,rfl,sB hs,hd,zY⟩
  | 13,_,hoq=>
   cases sI hoq;replace hz23:=hz23.tr0 hs;obtain⟨S36,c36,B36,m36,n36,e36,hz36⟩:=hd 12 (zj kR);refine zq 31 (.agg #[.string (mS8).sm.base,.slice A23 (mS8).sm.args.length c23]) (hd 7 (zj kR)) nu (zq 36 (.agg #[.int .i64 (Bq).tm.kind,.string (Bq).tm.name,.int .i64 (Bq).tm.index,.string (Bq).tm.type.base,.slice S36 (Bq).tm.type.args.length c36,.slice B36 (Bq).tm.args.length m36]) e36 nu ?_);refine x5 oj (kq [] mS8 Bq _ _ _ _ _ _ _ _ wx (by simp) hz23 hz36) rfl (fun e' w2 hr=>?_);obtain⟨⟨_,rfl,hd⟩,hs⟩:=hr;exact⟨_,rfl,sB hs,hd,zY⟩
  | 14,_,hoq=>
   cases sI hoq;replace hb5:=hb5.tr0 hs;exact oV (zV U36 rfl rfl hb5.range0 zW) rfl
  | 15,_,hoq=>
   cases sI hoq;refine x5 oq (yY [] 0 wx) rfl (fun e' w2 hr=>?_);obtain⟨⟨_,rfl,hd⟩,hs⟩:=hr;exact⟨_,rfl,sB hs,hd,zY⟩
  | 16,_,hoq=>
   cases sI hoq;replace hz14:=hz14.tr0 hs;obtain⟨S39,c39,B39,m39,n39,e39,hz39⟩:=hd 15 (zj kR);refine zq 38 (.agg #[.string (mS5).sm.base,.slice A14 (mS5).sm.args.length c14]) (hd 14 (zj kR)) nu (zq 39 (.agg #[.int .i64 (Bz).tm.kind,.string (Bz).tm.name,.int .i64 (Bz).tm.index,.string (Bz).tm.type.base,.slice S39 (Bz).tm.type.args.length c39,.slice B39 (Bz).tm.args.length m39]) e39 nu ?_);refine x5 oj (kq [] mS5 Bz _ _ _ _ _ _ _ _ wx (by simp) hz14 hz39) rfl (fun e' w2 hr=>?_);obtain⟨⟨_,rfl,hd⟩,hs⟩:=hr;exact⟨_,rfl,sB hs,hd,zY⟩
  | 17,_,hoq=>
   cases sI hoq;replace hb7:=hb7.tr0 hs;exact oV (zV U36 rfl rfl hb7.range0 zW) rfl
  | 18,_,hoq=>
   cases sI hoq;replace hb6:=hb6.tr0 hs;exact oV (zV U36 rfl rfl hb6.range0 zW) rfl
  | 19,_,hoq=>
   cases sI hoq;replace hb3:=hb3.tr0 hs;exact oV (zV U36 rfl rfl hb3.range0 zW) rfl
  | 20,_,hoq=>
   cases sI hoq;refine x5 oq (yY [] 1 wx) rfl (fun e' w2 hr=>?_);obtain⟨⟨_,rfl,hd⟩,hs⟩:=hr;exact⟨_,rfl,sB hs,hd,zY⟩
  | 21,_,hoq=>
   cases sI hoq;replace hb3:=hb3.tr0 hs;exact oV (zV U36 rfl rfl hb3.range0 zW) rfl
  | 22,_,hoq=>
   cases sI hoq;refine x5 oq (yY [] 3 wx) rfl (fun e' w2 hr=>?_);obtain⟨⟨_,rfl,hd⟩,hs⟩:=hr;exact⟨_,rfl,sB hs,hd,zY⟩
  | 23,_,hoq=>
   cases sI hoq;refine x5 oq (yY [] 1 wx) rfl (fun e' w2 hr=>?_);obtain⟨⟨_,rfl,hd⟩,hs⟩:=hr;exact⟨_,rfl,sB hs,hd,zY⟩
  | 24,_,hoq=>
   cases sI hoq;obtain⟨S46,c46,B46,m46,n46,e46,hz46⟩:=hd 22 (zj kR);obtain⟨S47,c47,B47,m47,n47,e47,hz47⟩:=hd 23 (zj kR);refine zq 46 (.agg #[.int .i64 (B7).tm.kind,.string (B7).tm.name,.int .i64 (B7).tm.index,.string (B7).tm.type.base,.slice S46 (B7).tm.type.args.length c46,.slice B46 (B7).tm.args.length m46]) e46 nu (zq 47 (.agg #[.int .i64 (B6).tm.kind,.string (B6).tm.name,.int .i64 (B6).tm.index,.string (B6).tm.type.base,.slice S47 (B6).tm.type.args.length c47,.slice B47 (B6).tm.args.length m47]) e47 nu ?_);refine x5 Q0 (uk [] B7 B6 _ _ _ _ _ _ _ _ _ _ wx (by simp) hz46 hz47) rfl (fun e' w2 hr=>?_);obtain⟨⟨_,rfl,hd⟩,hs⟩:=hr;exact⟨_,rfl,sB hs,hd,zY⟩
  | 25,_,hoq=>
   cases sI hoq;refine x5 oq (yY [] 0 wx) rfl (fun e' w2 hr=>?_);obtain⟨⟨_,rfl,hd⟩,hs⟩:=hr;exact⟨_,rfl,sB hs,hd,zY⟩
  | 26,_,hoq=>
   cases sI hoq;obtain⟨S48,c48,B48,m48,n48,e48,hz48⟩:=hd 24 (zj kR);obtain⟨S49,c49,B49,m49,n49,e49,hz49⟩:=hd 25 (zj kR);refine zq 48 (.agg #[.int .i64 (B5).tm.kind,.string (B5).tm.name,.int .i64 (B5).tm.index,.string (B5).tm.type.base,.slice S48 (B5).tm.type.args.length c48,.slice B48 (B5).tm.args.length m48]) e48 nu (zq 49 (.agg #[.int .i64 (B4).tm.kind,.string (B4).tm.name,.int .i64 (B4).tm.index,.string (B4).tm.type.base,.slice S49 (B4).tm.type.args.length c49,.slice B49 (B4).tm.args.length m49]) e49 nu ?_);refine x5 Q0 (uk [] B5 B4 _ _ _ _ _ _ _ _ _ _ wx (by simp) hz48 hz49) rfl (fun e' w2 hr=>?_);obtain⟨⟨_,rfl,hd⟩,hs⟩:=hr;exact⟨_,rfl,sB hs,hd,zY⟩
  | 27,_,hoq=>
   cases sI hoq;obtain⟨S50,c50,B50,m50,n50,e50,hz50⟩:=hd 26 (zj kR);refine zq 45 (.agg #[.string ((Ts.b false)).sm.base,.slice none ((Ts.b false)).sm.args.length 0]) (hd 21 (zj kR)) nu (zq 50 (.agg #[.int .i64 (B3).tm.kind,.string (B3).tm.name,.int .i64 (B3).tm.index,.string (B3).tm.type.base,.slice S50 (B3).tm.type.args.length c50,.slice B50 (B3).tm.args.length m50]) e50 nu ?_);refine x5 oj (kq [] (Ts.b false) B3 _ _ _ _ _ _ _ _ wx (by simp) (Fz.triv _ _ TS (fun _=>SimsIn.nil)) hz50) rfl (fun e' w2 hr=>?_);obtain⟨⟨_,rfl,hd⟩,hs⟩:=hr;exact⟨_,rfl,sB hs,hd,zY⟩
  | 28,_,hoq=>
   cases sI hoq;obtain⟨S44,c44,B44,m44,n44,e44,hz44⟩:=hd 20 (zj kR);obtain⟨S51,c51,B51,m51,n51,e51,hz51⟩:=hd 27 (zj kR);refine zq 44 (.agg #[.int .i64 (B8).tm.kind,.string (B8).tm.name,.int .i64 (B8).tm.index,.string (B8).tm.type.base,.slice S44 (B8).tm.type.args.length c44,.slice B44 (B8).tm.args.length m44]) e44 nu (zq 51 (.agg #[.int .i64 (CY).tm.kind,.string (CY).tm.name,.int .i64 (CY).tm.index,.string (CY).tm.type.base,.slice S51 (CY).tm.type.args.length c51,.slice B51 (CY).tm.args.length m51]) e51 nu ?_);refine x5 Q0 (uk [] B8 CY _ _ _ _ _ _ _ _ _ _ wx (by simp) hz44 hz51) rfl (fun e' w2 hr=>?_);obtain⟨⟨_,rfl,hd⟩,hs⟩:=hr;exact⟨_,rfl,sB hs,hd,zY⟩
  | 29,_,hoq=>
   cases sI hoq;obtain⟨S52,c52,B52,m52,n52,e52,hz52⟩:=hd 28 (zj kR);refine zq 43 (.agg #[.string ((Ts.b false)).sm.base,.slice none ((Ts.b false)).sm.args.length 0]) (hd 19 (zj kR)) nu (zq 52 (.agg #[.int .i64 (CW).tm.kind,.string (CW).tm.name,.int .i64 (CW).tm.index,.string (CW).tm.type.base,.slice S52 (CW).tm.type.args.length c52,.slice B52 (CW).tm.args.length m52]) e52 nu ?_);refine x5 oj (kq [] (Ts.b false) CW _ _ _ _ _ _ _ _ wx (by simp) (Fz.triv _ _ TS (fun _=>SimsIn.nil)) hz52) rfl (fun e' w2 hr=>?_);obtain⟨⟨_,rfl,hd⟩,hs⟩:=hr;exact⟨_,rfl,sB hs,hd,zY⟩
  | 30,_,hoq=>
   cases sI hoq;replace hz17:=hz17.tr0 hs;obtain⟨S53,c53,B53,m53,n53,e53,hz53⟩:=hd 29 (zj kR);refine zq 42 (.agg #[.string (mS6).sm.base,.slice A17 (mS6).sm.args.length c17]) (hd 18 (zj kR)) nu (zq 53 (.agg #[.int .i64 (CV).tm.kind,.string (CV).tm.name,.int .i64 (CV).tm.index,.string (CV).tm.type.base,.slice S53 (CV).tm.type.args.length c53,.slice B53 (CV).tm.args.length m53]) e53 nu ?_);refine x5 oj (kq [] mS6 CV _ _ _ _ _ _ _ _ wx (by simp) hz17 hz53) rfl (fun e' w2 hr=>?_);obtain⟨⟨_,rfl,hd⟩,hs⟩:=hr;exact⟨_,rfl,sB hs,hd,zY⟩
  | 31,_,hoq=>
   cases sI hoq;replace hz20:=hz20.tr0 hs;obtain⟨S54,c54,B54,m54,n54,e54,hz54⟩:=hd 30 (zj kR);refine zq 41 (.agg #[.string (mS7).sm.base,.slice A20 (mS7).sm.args.length c20]) (hd 17 (zj kR)) nu (zq 54 (.agg #[.int .i64 (CK).tm.kind,.string (CK).tm.name,.int .i64 (CK).tm.index,.string (CK).tm.type.base,.slice S54 (CK).tm.type.args.length c54,.slice B54 (CK).tm.args.length m54]) e54 nu ?_);refine x5 oj (kq [] mS7 CK _ _ _ _ _ _ _ _ wx (by simp) hz20 hz54) rfl (fun e' w2 hr=>?_);obtain⟨⟨_,rfl,hd⟩,hs⟩:=hr;exact⟨_,rfl,sB hs,hd,zY⟩
  | 32,_,hoq=>
   cases sI hoq;replace hb4:=hb4.tr0 hs;exact oV (zV U36 rfl rfl hb4.range0 zW) rfl
  | 33,_,hoq=>
   cases sI hoq;replace hb4:=hb4.tr0 hs;exact oV (zV U36 rfl rfl hb4.range0 zW) rfl
  | 34,_,hoq=>
   cases sI hoq;refine zq 56 (.agg #[.string ((Ts.b true)).sm.base,.slice none ((Ts.b true)).sm.args.length 0]) (hd 32 (zj kR)) nu (zq 57 (.agg #[.string ((Ts.b true)).sm.base,.slice none ((Ts.b true)).sm.args.length 0]) (hd 33 (zj kR)) nu ?_);refine x5 Zy (u9 [] (Ts.b true) (Ts.b true) _ _ _ _ _ _ wx (by simp) (Fz.triv _ _ TS (fun _=>SimsIn.nil)) (Fz.triv _ _ TS (fun _=>SimsIn.nil))) rfl (fun e' w2 hr=>?_);obtain⟨⟨_,rfl,hd⟩,hs⟩:=hr;exact⟨_,rfl,sB hs,hd,zY⟩
  | 35,_,hoq=>
   cases sI hoq;replace hb5:=hb5.tr0 hs;exact oV (zV U36 rfl rfl hb5.range0 zW) rfl
  | 36,_,hoq=>
   cases sI hoq;replace hb3:=hb3.tr0 hs;exact oV (zV U36 rfl rfl hb3.range0 zW) rfl
  | 37,_,hoq=>
   cases sI hoq;refine x5 oq (yY [] 2 wx) rfl (fun e' w2 hr=>?_);obtain⟨⟨_,rfl,hd⟩,hs⟩:=hr;exact⟨_,rfl,sB hs,hd,zY⟩
  | 38,_,hoq=>
   cases sI hoq;refine x5 oq (yY [] 1 wx) rfl (fun e' w2 hr=>?_);obtain⟨⟨_,rfl,hd⟩,hs⟩:=hr;exact⟨_,rfl,sB hs,hd,zY⟩
  | 39,_,hoq=>
   cases sI hoq;refine x5 oq (yY [] 0 wx) rfl (fun e' w2 hr=>?_);obtain⟨⟨_,rfl,hd⟩,hs⟩:=hr;exact⟨_,rfl,sB hs,hd,zY⟩
  | 40,_,hoq=>
   cases sI hoq;obtain⟨S62,c62,B62,m62,n62,e62,hz62⟩:=hd 38 (zj kR);obtain⟨S63,c63,B63,m63,n63,e63,hz63⟩:=hd 39 (zj kR);refine zq 62 (.agg #[.int .i64 (CX).tm.kind,.string (CX).tm.name,.int .i64 (CX).tm.index,.string (CX).tm.type.base,.slice S62 (CX).tm.type.args.length c62,.slice B62 (CX).tm.args.length m62]) e62 nu (zq 63 (.agg #[.int .i64 (CQ).tm.kind,.string (CQ).tm.name,.int .i64 (CQ).tm.index,.string (CQ).tm.type.base,.slice S63 (CQ).tm.type.args.length c63,.slice B63 (CQ).tm.args.length m63]) e63 nu ?_);refine x5 Q0 (uk [] CX CQ _ _ _ _ _ _ _ _ _ _ wx (by simp) hz62 hz63) rfl (fun e' w2 hr=>?_);obtain⟨⟨_,rfl,hd⟩,hs⟩:=hr;exact⟨_,rfl,sB hs,hd,zY⟩
  | 41,_,hoq=>
   cases sI hoq;obtain⟨S61,c61,B61,m61,n61,e61,hz61⟩:=hd 37 (zj kR);obtain⟨S64,c64,B64,m64,n64,e64,hz64⟩:=hd 40 (zj kR);refine zq 61 (.agg #[.int .i64 (CJ).tm.kind,.string (CJ).tm.name,.int .i64 (CJ).tm.index,.string (CJ).tm.type.base,.slice S61 (CJ).tm.type.args.length c61,.slice B61 (CJ).tm.args.length m61]) e61 nu (zq 64 (.agg #[.int .i64 (CZ).tm.kind,.string (CZ).tm.name,.int .i64 (CZ).tm.index,.string (CZ).tm.type.base,.slice S64 (CZ).tm.type.args.length c64,.slice B64 (CZ).tm.args.length m64]) e64 nu ?_);refine x5 Q0 (uk [] CJ CZ _ _ _ _ _ _ _ _ _ _ wx (by simp) hz61 hz64) rfl (fun e' w2 hr=>?_);obtain⟨⟨_,rfl,hd⟩,hs⟩:=hr;exact⟨_,rfl,sB hs,hd,zY⟩
  | 42,_,hoq=>
   cases sI hoq;obtain⟨S65,c65,B65,m65,n65,e65,hz65⟩:=hd 41 (zj kR);refine zq 60 (.agg #[.string ((Ts.b false)).sm.base,.slice none ((Ts.b false)).sm.args.length 0]) (hd 36 (zj kR)) nu (zq 65 (.agg #[.int .i64 (Cy).tm.kind,.string (Cy).tm.name,.int .i64 (Cy).tm.index,.string (Cy).tm.type.base,.slice S65 (Cy).tm.type.args.length c65,.slice B65 (Cy).tm.args.length m65]) e65 nu ?_);refine x5 oj (kq [] (Ts.b false) Cy _ _ _ _ _ _ _ _ wx (by simp) (Fz.triv _ _ TS (fun _=>SimsIn.nil)) hz65) rfl (fun e' w2 hr=>?_);obtain⟨⟨_,rfl,hd⟩,hs⟩:=hr;exact⟨_,rfl,sB hs,hd,zY⟩
  | 43,_,hoq=>
   cases sI hoq;replace hz14:=hz14.tr0 hs;obtain⟨S66,c66,B66,m66,n66,e66,hz66⟩:=hd 42 (zj kR);refine zq 59 (.agg #[.string (mS5).sm.base,.slice A14 (mS5).sm.args.length c14]) (hd 35 (zj kR)) nu (zq 66 (.agg #[.int .i64 (Cw).tm.kind,.string (Cw).tm.name,.int .i64 (Cw).tm.index,.string (Cw).tm.type.base,.slice S66 (Cw).tm.type.args.length c66,.slice B66 (Cw).tm.args.length m66]) e66 nu ?_);refine x5 oj (kq [] mS5 Cw _ _ _ _ _ _ _ _ wx (by simp) hz14 hz66) rfl (fun e' w2 hr=>?_);obtain⟨⟨_,rfl,hd⟩,hs⟩:=hr;exact⟨_,rfl,sB hs,hd,zY⟩
  | 44,_,hoq=>
   cases sI hoq;obtain⟨A58,c58,n58,e58,hz58⟩:=hd 34 (zj kR);obtain⟨S67,c67,B67,m67,n67,e67,hz67⟩:=hd 43 (zj kR);refine zq 58 (.agg #[.string (mT58).sm.base,.slice A58 (mT58).sm.args.length c58]) e58 nu (zq 67 (.agg #[.int .i64 (Cv).tm.kind,.string (Cv).tm.name,.int .i64 (Cv).tm.index,.string (Cv).tm.type.base,.slice S67 (Cv).tm.type.args.length c67,.slice B67 (Cv).tm.args.length m67]) e67 nu ?_);refine x5 oj (kq [] mT58 Cv _ _ _ _ _ _ _ _ wx (by simp) hz58 hz67) rfl (fun e' w2 hr=>?_);obtain⟨⟨_,rfl,hd⟩,hs⟩:=hr;exact⟨_,rfl,sB hs,hd,zY⟩
  | 45,_,hoq=>
   cases sI hoq;replace hb6:=hb6.tr0 hs;exact oV (zV U36 rfl rfl hb6.range0 zW) rfl
  | 46,_,hoq=>
   cases sI hoq;replace hb4:=hb4.tr0 hs;exact oV (zV U36 rfl rfl hb4.range0 zW) rfl
  | 47,_,hoq=>
   cases sI hoq;replace hb4:=hb4.tr0 hs;exact oV (zV U36 rfl rfl hb4.range0 zW) rfl
  | 48,_,hoq=>
   cases sI hoq;replace hb4:=hb4.tr0 hs;exact oV (zV U36 rfl rfl hb4.range0 zW) rfl
  | 49,_,hoq=>
   cases sI hoq;refine zq 71 (.agg #[.string ((Ts.b true)).sm.base,.slice none ((Ts.b true)).sm.args.length 0]) (hd 47 (zj kR)) nu (zq 72 (.agg #[.string ((Ts.b true)).sm.base,.slice none ((Ts.b true)).sm.args.length 0]) (hd 48 (zj kR)) nu ?_);refine x5 Zy (u9 [] (Ts.b true) (Ts.b true) _ _ _ _ _ _ wx (by simp) (Fz.triv _ _ TS (fun _=>SimsIn.nil)) (Fz.triv _ _ TS (fun _=>SimsIn.nil))) rfl (fun e' w2 hr=>?_);obtain⟨⟨_,rfl,hd⟩,hs⟩:=hr;exact⟨_,rfl,sB hs,hd,zY⟩
  | 50,_,hoq=>
   cases sI hoq;obtain⟨A73,c73,n73,e73,hz73⟩:=hd 49 (zj kR);refine zq 70 (.agg #[.string ((Ts.b true)).sm.base,.slice none ((Ts.b true)).sm.args.length 0]) (hd 46 (zj kR)) nu (zq 73 (.agg #[.string (mT73).sm.base,.slice A73 (mT73).sm.args.length c73]) e73 nu ?_);refine x5 Zy (u9 [] (Ts.b true) mT73 _ _ _ _ _ _ wx (by simp) (Fz.triv _ _ TS (fun _=>SimsIn.nil)) hz73) rfl (fun e' w2 hr=>?_);obtain⟨⟨_,rfl,hd⟩,hs⟩:=hr;exact⟨_,rfl,sB hs,hd,zY⟩
  | 51,_,hoq=>
   cases sI hoq;replace hb6:=hb6.tr0 hs;exact oV (zV U36 rfl rfl hb6.range0 zW) rfl
  | 52,_,hoq=>
   cases sI hoq;replace hb5:=hb5.tr0 hs;exact oV (zV U36 rfl rfl hb5.range0 zW) rfl
  | 53,_,hoq=>
   cases sI hoq;refine x5 oq (yY [] 2 wx) rfl (fun e' w2 hr=>?_);obtain⟨⟨_,rfl,hd⟩,hs⟩:=hr;exact⟨_,rfl,sB hs,hd,zY⟩
  | 54,_,hoq=>
   cases sI hoq;refine x5 oq (yY [] 3 wx) rfl (fun e' w2 hr=>?_);obtain⟨⟨_,rfl,hd⟩,hs⟩:=hr;exact⟨_,rfl,sB hs,hd,zY⟩
  | 55,_,hoq=>
   cases sI hoq;refine x5 oq (yY [] 0 wx) rfl (fun e' w2 hr=>?_);obtain⟨⟨_,rfl,hd⟩,hs⟩:=hr;exact⟨_,rfl,sB hs,hd,zY⟩
  | 56,_,hoq=>
   cases sI hoq;obtain⟨S78,c78,B78,m78,n78,e78,hz78⟩:=hd 54 (zj kR);obtain⟨S79,c79,B79,m79,n79,e79,hz79⟩:=hd 55 (zj kR);refine zq 78 (.agg #[.int .i64 (Cj).tm.kind,.string (Cj).tm.name,.int .i64 (Cj).tm.index,.string (Cj).tm.type.base,.slice S78 (Cj).tm.type.args.length c78,.slice B78 (Cj).tm.args.length m78]) e78 nu (zq 79 (.agg #[.int .i64 (Cx).tm.kind,.string (Cx).tm.name,.int .i64 (Cx).tm.index,.string (Cx).tm.type.base,.slice S79 (Cx).tm.type.args.length c79,.slice B79 (Cx).tm.args.length m79]) e79 nu ?_);refine x5 Q0 (uk [] Cj Cx _ _ _ _ _ _ _ _ _ _ wx (by simp) hz78 hz79) rfl (fun e' w2 hr=>?_);obtain⟨⟨_,rfl,hd⟩,hs⟩:=hr;exact⟨_,rfl,sB hs,hd,zY⟩
  | 57,_,hoq=>
   cases sI hoq;obtain⟨S77,c77,B77,m77,n77,e77,hz77⟩:=hd 53 (zj kR);obtain⟨S80,c80,B80,m80,n80,e80,hz80⟩:=hd 56 (zj kR);refine zq 77 (.agg #[.int .i64 (Ck).tm.kind,.string (Ck).tm.name,.int .i64 (Ck).tm.index,.string (Ck).tm.type.base,.slice S77 (Ck).tm.type.args.length c77,.slice B77 (Ck).tm.args.length m77]) e77 nu (zq 80 (.agg #[.int .i64 (Cq).tm.kind,.string (Cq).tm.name,.int .i64 (Cq).tm.index,.string (Cq).tm.type.base,.slice S80 (Cq).tm.type.args.length c80,.slice B80 (Cq).tm.args.length m80]) e80 nu ?_);refine x5 Q0 (uk [] Ck Cq _ _ _ _ _ _ _ _ _ _ wx (by simp) hz77 hz80) rfl (fun e' w2 hr=>?_);obtain⟨⟨_,rfl,hd⟩,hs⟩:=hr;exact⟨_,rfl,sB hs,hd,zY⟩
  | 58,_,hoq=>
   cases sI hoq;refine x5 oq (yY [] 1 wx) rfl (fun e' w2 hr=>?_);obtain⟨⟨_,rfl,hd⟩,hs⟩:=hr;exact⟨_,rfl,sB hs,hd,zY⟩
  | 59,_,hoq=>
   cases sI hoq;refine x5 oq (yY [] 0 wx) rfl (fun e' w2 hr=>?_);obtain⟨⟨_,rfl,hd⟩,hs⟩:=hr;exact⟨_,rfl,sB hs,hd,zY⟩
  | 60,_,hoq=>
   cases sI hoq;obtain⟨S82,c82,B82,m82,n82,e82,hz82⟩:=hd 58 (zj kR);obtain⟨S83,c83,B83,m83,n83,e83,hz83⟩:=hd 59 (zj kR);refine zq 82 (.agg #[.int .i64 (C9).tm.kind,.string (C9).tm.name,.int .i64 (C9).tm.index,.string (C9).tm.type.base,.slice S82 (C9).tm.type.args.length c82,.slice B82 (C9).tm.args.length m82]) e82 nu (zq 83 (.agg #[.int .i64 (C8).tm.kind,.string (C8).tm.name,.int .i64 (C8).tm.index,.string (C8).tm.type.base,.slice S83 (C8).tm.type.args.length c83,.slice B83 (C8).tm.args.length m83]) e83 nu ?_);refine x5 Q0 (uk [] C9 C8 _ _ _ _ _ _ _ _ _ _ wx (by simp) hz82 hz83) rfl (fun e' w2 hr=>?_);obtain⟨⟨_,rfl,hd⟩,hs⟩:=hr;exact⟨_,rfl,sB hs,hd,zY⟩
  | 61,_,hoq=>
   cases sI hoq;obtain⟨S81,c81,B81,m81,n81,e81,hz81⟩:=hd 57 (zj kR);obtain⟨S84,c84,B84,m84,n84,e84,hz84⟩:=hd 60 (zj kR);refine zq 81 (.agg #[.int .i64 (Cz).tm.kind,.string (Cz).tm.name,.int .i64 (Cz).tm.index,.string (Cz).tm.type.base,.slice S81 (Cz).tm.type.args.length c81,.slice B81 (Cz).tm.args.length m81]) e81 nu (zq 84 (.agg #[.int .i64 (C7).tm.kind,.string (C7).tm.name,.int .i64 (C7).tm.index,.string (C7).tm.type.base,.slice S84 (C7).tm.type.args.length c84,.slice B84 (C7).tm.args.length m84]) e84 nu ?_);refine x5 Q0 (uk [] Cz C7 _ _ _ _ _ _ _ _ _ _ wx (by simp) hz81 hz84) rfl (fun e' w2 hr=>?_);obtain⟨⟨_,rfl,hd⟩,hs⟩:=hr;exact⟨_,rfl,sB hs,hd,zY⟩
  | 62,_,hoq=>
   cases sI hoq;replace hz14:=hz14.tr0 hs;obtain⟨S85,c85,B85,m85,n85,e85,hz85⟩:=hd 61 (zj kR);refine zq 76 (.agg #[.string (mS5).sm.base,.slice A14 (mS5).sm.args.length c14]) (hd 52 (zj kR)) nu (zq 85 (.agg #[.int .i64 (C6).tm.kind,.string (C6).tm.name,.int .i64 (C6).tm.index,.string (C6).tm.type.base,.slice S85 (C6).tm.type.args.length c85,.slice B85 (C6).tm.args.length m85]) e85 nu ?_);refine x5 oj (kq [] mS5 C6 _ _ _ _ _ _ _ _ wx (by simp) hz14 hz85) rfl (fun e' w2 hr=>?_);obtain⟨⟨_,rfl,hd⟩,hs⟩:=hr;exact⟨_,rfl,sB hs,hd,zY⟩
  | 63,_,hoq=>
   cases sI hoq;replace hz17:=hz17.tr0 hs;obtain⟨S86,c86,B86,m86,n86,e86,hz86⟩:=hd 62 (zj kR);refine zq 75 (.agg #[.string (mS6).sm.base,.slice A17 (mS6).sm.args.length c17]) (hd 51 (zj kR)) nu (zq 86 (.agg #[.int .i64 (C5).tm.kind,.string (C5).tm.name,.int .i64 (C5).tm.index,.string (C5).tm.type.base,.slice S86 (C5).tm.type.args.length c86,.slice B86 (C5).tm.args.length m86]) e86 nu ?_);refine x5 oj (kq [] mS6 C5 _ _ _ _ _ _ _ _ wx (by simp) hz17 hz86) rfl (fun e' w2 hr=>?_);obtain⟨⟨_,rfl,hd⟩,hs⟩:=hr;exact⟨_,rfl,sB hs,hd,zY⟩
  | 64,_,hoq=>
   cases sI hoq;obtain⟨A74,c74,n74,e74,hz74⟩:=hd 50 (zj kR);obtain⟨S87,c87,B87,m87,n87,e87,hz87⟩:=hd 63 (zj kR);refine zq 74 (.agg #[.string (mT74).sm.base,.slice A74 (mT74).sm.args.length c74]) e74 nu (zq 87 (.agg #[.int .i64 (C4).tm.kind,.string (C4).tm.name,.int .i64 (C4).tm.index,.string (C4).tm.type.base,.slice S87 (C4).tm.type.args.length c87,.slice B87 (C4).tm.args.length m87]) e87 nu ?_);refine x5 oj (kq [] mT74 C4 _ _ _ _ _ _ _ _ wx (by simp) hz74 hz87) rfl (fun e' w2 hr=>?_);obtain⟨⟨_,rfl,hd⟩,hs⟩:=hr;exact⟨_,rfl,sB hs,hd,zY⟩
  | 65,_,hoq=>
   cases sI hoq;replace hz17:=hz17.tr0 hs;obtain⟨S88,c88,B88,m88,n88,e88,hz88⟩:=hd 64 (zj kR);refine zq 69 (.agg #[.string (mS6).sm.base,.slice A17 (mS6).sm.args.length c17]) (hd 45 (zj kR)) nu (zq 88 (.agg #[.int .i64 (C3).tm.kind,.string (C3).tm.name,.int .i64 (C3).tm.index,.string (C3).tm.type.base,.slice S88 (C3).tm.type.args.length c88,.slice B88 (C3).tm.args.length m88]) e88 nu ?_);refine x5 oj (kq [] mS6 C3 _ _ _ _ _ _ _ _ wx (by simp) hz17 hz88) rfl (fun e' w2 hr=>?_);obtain⟨⟨_,rfl,hd⟩,hs⟩:=hr;exact⟨_,rfl,sB hs,hd,zY⟩
  | 66,_,hoq=>
   cases sI hoq;have hs0:=hs;obtain⟨S30,c30,B30,m30,n30,e30,hz30⟩:=hd 6 (zj kR);obtain⟨S37,c37,B37,m37,n37,e37,hz37⟩:=hd 13 (zj kR);obtain⟨S40,c40,B40,m40,n40,e40,hz40⟩:=hd 16 (zj kR);obtain⟨S55,c55,B55,m55,n55,e55,hz55⟩:=hd 31 (zj kR);obtain⟨S68,c68,B68,m68,n68,e68,hz68⟩:=hd 44 (zj kR);obtain⟨S89,c89,B89,m89,n89,e89,hz89⟩:=hd 65 (zj kR);refine zq 30 (.agg #[.int .i64 (VJ).tm.kind,.string (VJ).tm.name,.int .i64 (VJ).tm.index,.string (VJ).tm.type.base,.slice S30 (VJ).tm.type.args.length c30,.slice B30 (VJ).tm.args.length m30]) e30 nu (zq 37 (.agg #[.int .i64 (QY).tm.kind,.string (QY).tm.name,.int .i64 (QY).tm.index,.string (QY).tm.type.base,.slice S37 (QY).tm.type.args.length c37,.slice B37 (QY).tm.args.length m37]) e37 nu (zq 40 (.agg #[.int .i64 (uW).tm.kind,.string (uW).tm.name,.int .i64 (uW).tm.index,.string (uW).tm.type.base,.slice S40 (uW).tm.type.args.length c40,.slice B40 (uW).tm.args.length m40]) e40 nu (zq 55 (.agg #[.int .i64 (Z8).tm.kind,.string (Z8).tm.name,.int .i64 (Z8).tm.index,.string (Z8).tm.type.base,.slice S55 (Z8).tm.type.args.length c55,.slice B55 (Z8).tm.args.length m55]) e55 nu (zq 68 (.agg #[.int .i64 (uV).tm.kind,.string (uV).tm.name,.int .i64 (uV).tm.index,.string (uV).tm.type.base,.slice S68 (uV).tm.type.args.length c68,.slice B68 (uV).tm.args.length m68]) e68 nu (zq 89 (.agg #[.int .i64 (uK).tm.kind,.string (uK).tm.name,.int .i64 (uK).tm.index,.string (uK).tm.type.base,.slice S89 (uK).tm.type.args.length c89,.slice B89 (uK).tm.args.length m89]) e89 nu ?_)))));refine jv (fun ops Q K=>?_);refine x6 (cs:=#[_,_,_,_,_,_,_,_,_,_,_,_,_,_,_,_,_,_,_,_,_,_,_,_,_,_,_,_,_,_,_,_,_,_,_,_]) [(0,.agg _),(1,.agg _),(2,.agg _),(3,.agg _),(4,.agg _),(5,.agg _)] rfl U37 yK oZ dE dE kR rfl (fun b90 w1 hb90 hs hr=>?_);exact K _ _ ⟨hs,⟨_,_,_,_,_,_,_,_,_,_,_,_,_,_,_,_,_,_,_,_,_,_,_,_,_,rfl,nLT hs0.size hr,hb90,(hz30.tr0 hs).mono (nLT hz30.le hr) (Nat.le_of_lt hb90.lt),(hz37.tr0 hs).mono (nLT hz37.le hr) (Nat.le_of_lt hb90.lt),(hz40.tr0 hs).mono (nLT hz40.le hr) (Nat.le_of_lt hb90.lt),(hz55.tr0 hs).mono (nLT hz55.le hr) (Nat.le_of_lt hb90.lt),(hz68.tr0 hs).mono (nLT hz68.le hr) (Nat.le_of_lt hb90.lt),(hz89.tr0 hs).mono (nLT hz89.le hr) (Nat.le_of_lt hb90.lt)⟩,fR hr hb90.lt⟩
  | 67,_,hoq=>
   cases sI hoq;obtain⟨b90,S30,c30,B30,m30,S37,c37,B37,m37,S40,c40,B40,m40,S55,c55,B55,m55,S68,c68,B68,m68,S89,c89,B89,m89,e90,lo90,hb90,hz30,hz37,hz40,hz55,hz68,hz89⟩:=hd 66 (zj kR);refine zq 90 (.slice (some ⟨b90,0,none⟩) 6 6) e90 nu ?_;exact oV (oK (v:= .slice _ _ _) rfl) ⟨_,_,_,_,_,_,_,_,_,_,_,_,_,_,_,_,_,_,_,_,_,_,_,_,_,rfl,lo90,hb90,hz30,hz37,hz40,hz55,hz68,hz89⟩
  | _ + 68,hix,_=>exact absurd hix om
 intro gg w2 hs hR hdis;replace hZ:=hZ.trans hs;obtain⟨b90,S30,c30,B30,m30,S37,c37,B37,m37,S40,c40,B40,m40,S55,c55,B55,m55,S68,c68,B68,m68,S89,c89,B89,m89,e9,lo90,hb90,hz30,hz37,hz40,hz55,hz68,hz89⟩:=hR 67 dE;refine xx 9 (.slice (some ⟨b90,0,none⟩) 6 6) e9 nu (zx ?_);refine e_R ⟨agA,?_⟩;exact⟨hZ,b90,S30,c30,B30,m30,S37,c37,B37,m37,S40,c40,B40,m40,S55,c55,B55,m55,S68,c68,B68,m68,S89,c89,B89,m89,rfl,lo90,hb90,hz30,hz37,hz40,hz55,hz68,hz89⟩
set_option maxRecDepth 100000 in
set_option maxHeartbeats 8000000 in
theorem W2 (w:World):Calls Tryd.prog 26 #[.bool false] w fun e w'=>(∃ b vs n,e= .returned (.slice (some ⟨b,0,none⟩) 6 6)∧Blk w' b 39 vs.toArray∧TmCs n w' vX vs)∧Bel w w':=by
 refine enter Tryd.func26 Tryd.ntmps26 rfl (Nat.le_of_ble_eq_true rfl) ?_;have hB:Bel w w:=Below.refl _ _;refine zz (z4 (waS rfl (zx (e_S (zz (z4 ?_))))));refine qJ Nz (kW _ _) rfl (fun e' w1 hr=>?_);obtain⟨rfl,hs⟩:=hr;replace hs:=sB hs;replace hB:=hB.tr0 hs;refine⟨_,rfl,?_⟩;refine qJ Nz (kW _ _) rfl (fun e' w2 hr=>?_);obtain⟨rfl,hs⟩:=hr;replace hs:=sB hs;replace hB:=hB.tr0 hs;refine⟨_,rfl,?_⟩;refine y8 (cs:=#[.string ⟨#[]⟩,.slice none 0 0]) yJ rfl (fun b3 w3 hb3 hs hr=>?_);have lo3:=nLT (Bel.size hB) hr;replace hB:=hB.tr0 hs;refine y8 (cs:=#[.string ⟨#[]⟩,.slice none 0 0]) yJ rfl (fun b4 w4 hb4 hs hr=>?_);have:=nLL hb3.lt hr;have lo4:=nLT (Bel.size hB) hr;replace hB:=hB.tr0 hs;replace hb3:=hb3.tr0 hs;refine qk hb3 rfl rfl zW rfl qY (fun w5 hq hs=>?_);replace hB:=hB.tr1 hs lo3;replace hb4:=hb4.tr1 hs om;replace hb3:=hq;refine qk hb4 rfl rfl zW rfl qY (fun w6 hq hs=>?_);replace hB:=hB.tr1 hs lo4;replace hb3:=hb3.tr1 hs om;replace hb4:=hq;refine zx (e_S (zz (z4 (wl (zV U36 rfl rfl hb3.range0 zW) (wl (zV U36 rfl rfl hb4.range0 zW) ?_)))));refine qJ Zy (u9 [] (Ts.b false) (Ts.b true) _ _ _ _ _ _ _ (by simp) (Fz.triv _ _ TS (fun _=>SimsIn.nil)) (Fz.triv _ _ TS (fun _=>SimsIn.nil))) rfl (fun e' w7 hr=>?_);obtain⟨⟨_,rfl,A14,c14,n14,rfl,hz14⟩,hs⟩:=hr;replace hs:=sB hs;replace hB:=hB.tr0 hs;replace hb3:=hb3.tr0 hs;replace hb4:=hb4.tr0 hs;refine⟨_,rfl,?_⟩;refine vx (cs:=#[.string ⟨#[]⟩,.slice none 0 0]) yJ rfl (fun _=>rfl) (fun _=>rfl) zW rfl qY (fun b5 w9 hb5 hs hr=>?_);replace hB:=hB.tr0 hs;replace hb3:=hb3.tr0 hs;replace hb4:=hb4.tr0 hs;replace hz14:=hz14.tr0 hs;refine zx (e_S (zz (z4 (wl (zV U36 rfl rfl hb5.range0 zW) (wl (zV U36 rfl rfl hb4.range0 zW) ?_)))));refine qJ Zy (u9 [] mS5 (Ts.b true) _ _ _ _ _ _ _ (by simp) hz14 (Fz.triv _ _ TS (fun _=>SimsIn.nil))) rfl (fun e' w10 hr=>?_);obtain⟨⟨_,rfl,A17,c17,n17,rfl,hz17⟩,hs⟩:=hr;replace hs:=sB hs;replace hB:=hB.tr0 hs;replace hb3:=hb3.tr0 hs;replace hb4:=hb4.tr0 hs;replace hz14:=hz14.tr0 hs;replace hb5:=hb5.tr0 hs;refine⟨_,rfl,?_⟩;refine vx (cs:=#[.string ⟨#[]⟩,.slice none 0 0]) yJ rfl (fun _=>rfl) (fun _=>rfl) zW rfl qY (fun b6 w12 hb6 hs hr=>?_);replace hB:=hB.tr0 hs;replace hb3:=hb3.tr0 hs;replace hb4:=hb4.tr0 hs;replace hz14:=hz14.tr0 hs;replace hb5:=hb5.tr0 hs;replace hz17:=hz17.tr0 hs;refine zx (e_S (zz (z4 (wl (zV U36 rfl rfl hb3.range0 zW) (wl (zV U36 rfl rfl hb5.range0 zW) ?_)))));refine qJ Zy (u9 [] (Ts.b false) mS5 _ _ _ _ _ _ _ (by simp) (Fz.triv _ _ TS (fun _=>SimsIn.nil)) hz14) rfl (fun e' w13 hr=>?_)
 obtain⟨⟨_,rfl,A20,c20,n20,rfl,hz20⟩,hs⟩:=hr;replace hs:=sB hs;replace hB:=hB.tr0 hs;replace hb3:=hb3.tr0 hs;replace hb4:=hb4.tr0 hs;replace hz14:=hz14.tr0 hs;replace hb5:=hb5.tr0 hs;replace hz17:=hz17.tr0 hs;replace hb6:=hb6.tr0 hs;refine⟨_,rfl,?_⟩;refine vx (cs:=#[.string ⟨#[]⟩,.slice none 0 0]) yJ rfl (fun _=>rfl) (fun _=>rfl) zW rfl qY (fun b7 w15 hb7 hs hr=>?_);replace hB:=hB.tr0 hs;replace hb3:=hb3.tr0 hs;replace hb4:=hb4.tr0 hs;replace hz14:=hz14.tr0 hs;replace hb5:=hb5.tr0 hs;replace hz17:=hz17.tr0 hs;replace hb6:=hb6.tr0 hs;replace hz20:=hz20.tr0 hs;refine zx (e_S (zz (z4 (wl (zV U36 rfl rfl hb5.range0 zW) (wl (zV U36 rfl rfl hb6.range0 zW) ?_)))));refine qJ Zy (u9 [] mS5 mS6 _ _ _ _ _ _ _ (by simp) hz14 hz17) rfl (fun e' w16 hr=>?_);obtain⟨⟨_,rfl,A23,c23,n23,rfl,hz23⟩,hs⟩:=hr;replace hs:=sB hs;replace hB:=hB.tr0 hs;replace hb3:=hb3.tr0 hs;replace hb4:=hb4.tr0 hs;replace hz14:=hz14.tr0 hs;replace hb5:=hb5.tr0 hs;replace hz17:=hz17.tr0 hs;replace hb6:=hb6.tr0 hs;replace hz20:=hz20.tr0 hs;replace hb7:=hb7.tr0 hs;refine⟨_,rfl,?_⟩;refine vx (cs:=#[.string ⟨#[]⟩,.slice none 0 0]) yJ rfl (fun _=>rfl) (fun _=>rfl) zW rfl qY (fun b8 w18 hb8 hs hr=>?_);replace hB:=hB.tr0 hs;replace hb3:=hb3.tr0 hs;replace hb4:=hb4.tr0 hs;replace hz14:=hz14.tr0 hs;replace hb5:=hb5.tr0 hs;replace hz17:=hz17.tr0 hs;replace hb6:=hb6.tr0 hs;replace hz20:=hz20.tr0 hs;replace hb7:=hb7.tr0 hs;replace hz23:=hz23.tr0 hs;refine zx (e_S (zz ?_));refine yk [9,24,25,26,27,28,29,30,31,32,33,34,35,36,37,38,39,40,41,42,43,44,45,46,47,48,49,50,51,52,53,54,55,56,57,58,59,60,61,62,63,64,65,66,67,68,69,70,71,72,73,74,75,76,77,78,79,80,81,82,83,84,85,86,87,88,89,90] (fun g w'=>Same [] w18 w'∧MnR w18 (g 9) w') ?_ (fun g6 w19 hI=>?_)
 ·have hh:=fun f Q k0 k1 k2 k3 k4 k5=>HX hb3 hb4 hb5 hb6 hb7 hb8 hz14 hz17 hz20 hz23 f Q k0 k1 k2 k3 k4 k5
  exact hh _ _ (by rfl) (by rfl) (by rfl) (by rfl) (by rfl) (by rfl)
 obtain⟨hs,b90,S30,c30,B30,m30,S37,c37,B37,m37,S40,c40,B40,m40,S55,c55,B55,m55,S68,c68,B68,m68,S89,c89,B89,m89,e9,lo90,hb90,hz30,hz37,hz40,hz55,hz68,hz89⟩:=hI;replace hB:=hB.tr0 hs;refine o5 9 (.slice (some ⟨b90,0,none⟩) 6 6) e9 nu (e_S (zz (zz (z4 (wmB rfl (zx (e_S ?_)))))));refine kK rfl (fun c91=>?_) (fun c91=>?_)
 ·exact absurd c91 dE
 refine zK (e_S (zz (z4 (wmS rfl (waS rfl (zx (e_S (qq (x7 (.inl rfl) rfl rfl ?_)))))))));exact⟨⟨b90,_,b90,rfl,hb90,(.cons hz30 (.cons hz37 (.cons hz40 (.cons hz55 (.cons hz68 (.cons hz89 .nil))))))⟩,hB⟩
set_option maxRecDepth 100000 in
set_option maxHeartbeats 16000000 in
theorem W1 (w:World):Calls Tryd.prog 26 #[.bool true] w fun e w'=>(∃ b vs n,e= .returned (.slice (some ⟨b,0,none⟩) 6 6)∧Blk w' b 39 vs.toArray∧TmCs n w' vQ vs)∧Bel w w':=by
 refine enter Tryd.func26 Tryd.ntmps26 rfl (Nat.le_of_ble_eq_true rfl) ?_;have hB:Bel w w:=Below.refl _ _;refine zz (z4 (waS rfl (zx (e_S (zz (z4 ?_))))));refine qJ Nz (kW _ _) rfl (fun e' w1 hr=>?_);obtain⟨rfl,hs⟩:=hr;replace hs:=sB hs;replace hB:=hB.tr0 hs;refine⟨_,rfl,?_⟩;refine qJ Nz (kW _ _) rfl (fun e' w2 hr=>?_);obtain⟨rfl,hs⟩:=hr;replace hs:=sB hs;replace hB:=hB.tr0 hs;refine⟨_,rfl,?_⟩;refine y8 (cs:=#[.string ⟨#[]⟩,.slice none 0 0]) yJ rfl (fun b3 w3 hb3 hs hr=>?_);have lo3:=nLT (Bel.size hB) hr;replace hB:=hB.tr0 hs;refine y8 (cs:=#[.string ⟨#[]⟩,.slice none 0 0]) yJ rfl (fun b4 w4 hb4 hs hr=>?_);have:=nLL hb3.lt hr;have lo4:=nLT (Bel.size hB) hr;replace hB:=hB.tr0 hs;replace hb3:=hb3.tr0 hs;refine qk hb3 rfl rfl zW rfl qY (fun w5 hq hs=>?_);replace hB:=hB.tr1 hs lo3;replace hb4:=hb4.tr1 hs om;replace hb3:=hq;refine qk hb4 rfl rfl zW rfl qY (fun w6 hq hs=>?_);replace hB:=hB.tr1 hs lo4;replace hb3:=hb3.tr1 hs om;replace hb4:=hq;refine zx (e_S (zz (z4 (wl (zV U36 rfl rfl hb3.range0 zW) (wl (zV U36 rfl rfl hb4.range0 zW) ?_)))));refine qJ Zy (u9 [] (Ts.b false) (Ts.b true) _ _ _ _ _ _ _ (by simp) (Fz.triv _ _ TS (fun _=>SimsIn.nil)) (Fz.triv _ _ TS (fun _=>SimsIn.nil))) rfl (fun e' w7 hr=>?_);obtain⟨⟨_,rfl,A14,c14,n14,rfl,hz14⟩,hs⟩:=hr;replace hs:=sB hs;replace hB:=hB.tr0 hs;replace hb3:=hb3.tr0 hs;replace hb4:=hb4.tr0 hs;refine⟨_,rfl,?_⟩;refine vx (cs:=#[.string ⟨#[]⟩,.slice none 0 0]) yJ rfl (fun _=>rfl) (fun _=>rfl) zW rfl qY (fun b5 w9 hb5 hs hr=>?_);replace hB:=hB.tr0 hs;replace hb3:=hb3.tr0 hs;replace hb4:=hb4.tr0 hs;replace hz14:=hz14.tr0 hs;refine zx (e_S (zz (z4 (wl (zV U36 rfl rfl hb5.range0 zW) (wl (zV U36 rfl rfl hb4.range0 zW) ?_)))));refine qJ Zy (u9 [] mS5 (Ts.b true) _ _ _ _ _ _ _ (by simp) hz14 (Fz.triv _ _ TS (fun _=>SimsIn.nil))) rfl (fun e' w10 hr=>?_);obtain⟨⟨_,rfl,A17,c17,n17,rfl,hz17⟩,hs⟩:=hr;replace hs:=sB hs;replace hB:=hB.tr0 hs;replace hb3:=hb3.tr0 hs;replace hb4:=hb4.tr0 hs;replace hz14:=hz14.tr0 hs;replace hb5:=hb5.tr0 hs;refine⟨_,rfl,?_⟩;refine vx (cs:=#[.string ⟨#[]⟩,.slice none 0 0]) yJ rfl (fun _=>rfl) (fun _=>rfl) zW rfl qY (fun b6 w12 hb6 hs hr=>?_);replace hB:=hB.tr0 hs;replace hb3:=hb3.tr0 hs;replace hb4:=hb4.tr0 hs;replace hz14:=hz14.tr0 hs;replace hb5:=hb5.tr0 hs;replace hz17:=hz17.tr0 hs;refine zx (e_S (zz (z4 (wl (zV U36 rfl rfl hb3.range0 zW) (wl (zV U36 rfl rfl hb5.range0 zW) ?_)))));refine qJ Zy (u9 [] (Ts.b false) mS5 _ _ _ _ _ _ _ (by simp) (Fz.triv _ _ TS (fun _=>SimsIn.nil)) hz14) rfl (fun e' w13 hr=>?_)
 obtain⟨⟨_,rfl,A20,c20,n20,rfl,hz20⟩,hs⟩:=hr;replace hs:=sB hs;replace hB:=hB.tr0 hs;replace hb3:=hb3.tr0 hs;replace hb4:=hb4.tr0 hs;replace hz14:=hz14.tr0 hs;replace hb5:=hb5.tr0 hs;replace hz17:=hz17.tr0 hs;replace hb6:=hb6.tr0 hs;refine⟨_,rfl,?_⟩;refine vx (cs:=#[.string ⟨#[]⟩,.slice none 0 0]) yJ rfl (fun _=>rfl) (fun _=>rfl) zW rfl qY (fun b7 w15 hb7 hs hr=>?_);replace hB:=hB.tr0 hs;replace hb3:=hb3.tr0 hs;replace hb4:=hb4.tr0 hs;replace hz14:=hz14.tr0 hs;replace hb5:=hb5.tr0 hs;replace hz17:=hz17.tr0 hs;replace hb6:=hb6.tr0 hs;replace hz20:=hz20.tr0 hs;refine zx (e_S (zz (z4 (wl (zV U36 rfl rfl hb5.range0 zW) (wl (zV U36 rfl rfl hb6.range0 zW) ?_)))));refine qJ Zy (u9 [] mS5 mS6 _ _ _ _ _ _ _ (by simp) hz14 hz17) rfl (fun e' w16 hr=>?_);obtain⟨⟨_,rfl,A23,c23,n23,rfl,hz23⟩,hs⟩:=hr;replace hs:=sB hs;replace hB:=hB.tr0 hs;replace hb3:=hb3.tr0 hs;replace hb4:=hb4.tr0 hs;replace hz14:=hz14.tr0 hs;replace hb5:=hb5.tr0 hs;replace hz17:=hz17.tr0 hs;replace hb6:=hb6.tr0 hs;replace hz20:=hz20.tr0 hs;replace hb7:=hb7.tr0 hs;refine⟨_,rfl,?_⟩;refine vx (cs:=#[.string ⟨#[]⟩,.slice none 0 0]) yJ rfl (fun _=>rfl) (fun _=>rfl) zW rfl qY (fun b8 w18 hb8 hs hr=>?_);replace hB:=hB.tr0 hs;replace hb3:=hb3.tr0 hs;replace hb4:=hb4.tr0 hs;replace hz14:=hz14.tr0 hs;replace hb5:=hb5.tr0 hs;replace hz17:=hz17.tr0 hs;replace hb6:=hb6.tr0 hs;replace hz20:=hz20.tr0 hs;replace hb7:=hb7.tr0 hs;replace hz23:=hz23.tr0 hs;refine zx (e_S (zz ?_));refine yk [9,24,25,26,27,28,29,30,31,32,33,34,35,36,37,38,39,40,41,42,43,44,45,46,47,48,49,50,51,52,53,54,55,56,57,58,59,60,61,62,63,64,65,66,67,68,69,70,71,72,73,74,75,76,77,78,79,80,81,82,83,84,85,86,87,88,89,90] (fun g w'=>Same [] w18 w'∧MnR w18 (g 9) w') ?_ (fun g6 w19 hI=>?_)
 ·have hh:=fun f Q k0 k1 k2 k3 k4 k5=>HX hb3 hb4 hb5 hb6 hb7 hb8 hz14 hz17 hz20 hz23 f Q k0 k1 k2 k3 k4 k5
  exact hh _ _ (by rfl) (by rfl) (by rfl) (by rfl) (by rfl) (by rfl)
 obtain⟨hs,b90,S30,c30,B30,m30,S37,c37,B37,m37,S40,c40,B40,m40,S55,c55,B55,m55,S68,c68,B68,m68,S89,c89,B89,m89,e9,lo90,hb90,hz30,hz37,hz40,hz55,hz68,hz89⟩:=hI;have:=nLL hb3.lt lo90;have:=nLL hb5.lt lo90;have:=nLL hb6.lt lo90;have:=nLL hb7.lt lo90;have:=nLL hb8.lt lo90;have q14:=hz14.le;have q17:=hz17.le;have q20:=hz20.le;have q23:=hz23.le;have lo90n:=nLT (Bel.size hB) lo90;replace hB:=hB.tr0 hs;replace hb3:=hb3.tr0 hs;replace hb5:=hb5.tr0 hs;replace hb6:=hb6.tr0 hs;replace hb7:=hb7.tr0 hs;replace hb8:=hb8.tr0 hs;replace hz14:=hz14.tr0 hs;replace hz17:=hz17.tr0 hs;replace hz20:=hz20.tr0 hs;replace hz23:=hz23.tr0 hs;replace hz14:=hz14.addX (Y:=[b90]) (fun y hy=> .inr (by rw [List.mem_singleton.1 hy];exact nLT q14 lo90));replace hz17:=hz17.addX (Y:=[b90]) (fun y hy=> .inr (by rw [List.mem_singleton.1 hy];exact nLT q17 lo90));replace hz20:=hz20.addX (Y:=[b90]) (fun y hy=> .inr (by rw [List.mem_singleton.1 hy];exact nLT q20 lo90));replace hz23:=hz23.addX (Y:=[b90]) (fun y hy=> .inr (by rw [List.mem_singleton.1 hy];exact nLT q23 lo90));replace hz30:=hz30.addX (Y:=[b90]) (fun y hy=> .inr (by rw [List.mem_singleton.1 hy];exact Nat.le_refl _));replace hz37:=hz37.addX (Y:=[b90]) (fun y hy=> .inr (by rw [List.mem_singleton.1 hy];exact Nat.le_refl _));replace hz40:=hz40.addX (Y:=[b90]) (fun y hy=> .inr (by rw [List.mem_singleton.1 hy];exact Nat.le_refl _));replace hz55:=hz55.addX (Y:=[b90]) (fun y hy=> .inr (by rw [List.mem_singleton.1 hy];exact Nat.le_refl _));replace hz68:=hz68.addX (Y:=[b90]) (fun y hy=> .inr (by rw [List.mem_singleton.1 hy];exact Nat.le_refl _));replace hz89:=hz89.addX (Y:=[b90]) (fun y hy=> .inr (by rw [List.mem_singleton.1 hy];exact Nat.le_refl _));replace lo90:=lo90n;refine o5 9 (.slice (some ⟨b90,0,none⟩) 6 6) e9 nu (e_S (zz (zz (z4 (wmB rfl (zx (e_S ?_)))))));refine kK rfl (fun c91=>?_) (fun c91=>?_)
 ·refine zz ?_;refine vy 9 [92,93,94,95,96,97,98,99,100] (fun _=>false) (fun ix v wv=>match ix with | 0=>v= .slice (some ⟨b90,0,none⟩) 6 6 | 1=>v= .agg #[.string (mS5).sm.base,.slice A14 (mS5).sm.args.length c14] | 2=>v= .agg #[.string (mS6).sm.base,.slice A17 (mS6).sm.args.length c17] | 3=>TmD [b90] C1 wv (v) | 4=>TmD [b90] C0 wv (v) | 5=>TmD [b90] DY wv (v) | 6=>TmD [b90] DW wv (v) | 7=>TmD [b90] Zv wv (v) | 8=>v= .pointer (some ⟨b90,0 + 0 * 6,none⟩) | _=>True) kR kR ?_ ?_ ?_
  ·intro ix v wv wv2 h hs
   match ix,h with
   | 0,h=>exact h
   | 1,h=>exact h
   | 2,h=>exact h
   | 3,h=>
    obtain⟨S95,c95,B95,m95,n95,e95,hz95⟩:=h;exact⟨S95,c95,B95,m95,n95,e95,hz95.tr0 hs⟩
   | 4,h=>
    obtain⟨S96,c96,B96,m96,n96,e96,hz96⟩:=h;exact⟨S96,c96,B96,m96,n96,e96,hz96.tr0 hs⟩
   | 5,h=>
    obtain⟨S97,c97,B97,m97,n97,e97,hz97⟩:=h;exact⟨S97,c97,B97,m97,n97,e97,hz97.tr0 hs⟩
   | 6,h=>
    obtain⟨S98,c98,B98,m98,n98,e98,hz98⟩:=h;exact⟨S98,c98,B98,m98,n98,e98,hz98.tr0 hs⟩
   | 7,h=>
    obtain⟨S99,c99,B99,m99,n99,e99,hz99⟩:=h;exact⟨S99,c99,B99,m99,n99,e99,hz99.tr0 hs⟩
   | 8,h=>exact h
   | _ + 9,h=>exact trivial
  ·intro ix o hix hoq gg wx hs hd hdis
   match ix,hix,hoq with
   | 0,_,hoq=>
    cases sI hoq;exact oV (qw (v:= .slice _ _ _) rfl) rfl
   | 1,_,hoq=>
    cases sI hoq;replace hb5:=hb5.tr0 hs;exact oV (zV U36 rfl rfl hb5.range0 zW) rfl
   | 2,_,hoq=>
    cases sI hoq;replace hb6:=hb6.tr0 hs;exact oV (zV U36 rfl rfl hb6.range0 zW) rfl
   | 3,_,hoq=>
    cases sI hoq;refine x5 oq (yY [b90] 0 wx) rfl (fun e' w2 hr=>?_);obtain⟨⟨_,rfl,hd⟩,hs⟩:=hr;exact⟨_,rfl,sB hs,hd,zY⟩
   | 4,_,hoq=>
    cases sI hoq;refine x5 oq (yY [b90] 1 wx) rfl (fun e' w2 hr=>?_);obtain⟨⟨_,rfl,hd⟩,hs⟩:=hr;exact⟨_,rfl,sB hs,hd,zY⟩
   | 5,_,hoq=>
    cases sI hoq;replace hb90:=hb90.tr0 hs;obtain⟨S95,c95,B95,m95,n95,e95,hz95⟩:=hd 3 (zj kR);obtain⟨S96,c96,B96,m96,n96,e96,hz96⟩:=hd 4 (zj kR);refine zq 95 (.agg #[.int .i64 (C1).tm.kind,.string (C1).tm.name,.int .i64 (C1).tm.index,.string (C1).tm.type.base,.slice S95 (C1).tm.type.args.length c95,.slice B95 (C1).tm.args.length m95]) e95 nu (zq 96 (.agg #[.int .i64 (C0).tm.kind,.string (C0).tm.name,.int .i64 (C0).tm.index,.string (C0).tm.type.base,.slice S96 (C0).tm.type.args.length c96,.slice B96 (C0).tm.args.length m96]) e96 nu ?_);refine x5 Q0 (uk [b90] C1 C0 _ _ _ _ _ _ _ _ _ _ wx (fun x hx=>by rw [List.mem_singleton.1 hx];exact hb90.lt) hz95 hz96) rfl (fun e' w2 hr=>?_);obtain⟨⟨_,rfl,hd⟩,hs⟩:=hr;exact⟨_,rfl,sB hs,hd,zY⟩
   | 6,_,hoq=>
    cases sI hoq;replace hz17:=hz17.tr0 hs;replace hb90:=hb90.tr0 hs;obtain⟨S97,c97,B97,m97,n97,e97,hz97⟩:=hd 5 (zj kR);refine zq 94 (.agg #[.string (mS6).sm.base,.slice A17 (mS6).sm.args.length c17]) (hd 2 (zj kR)) nu (zq 97 (.agg #[.int .i64 (DY).tm.kind,.string (DY).tm.name,.int .i64 (DY).tm.index,.string (DY).tm.type.base,.slice S97 (DY).tm.type.args.length c97,.slice B97 (DY).tm.args.length m97]) e97 nu ?_);refine x5 oj (kq [b90] mS6 DY _ _ _ _ _ _ _ _ wx (fun x hx=>by rw [List.mem_singleton.1 hx];exact hb90.lt) hz17 hz97) rfl (fun e' w2 hr=>?_);obtain⟨⟨_,rfl,hd⟩,hs⟩:=hr;exact⟨_,rfl,sB hs,hd,zY⟩
   | 7,_,hoq=>
    cases sI hoq;replace hz14:=hz14.tr0 hs;replace hb90:=hb90.tr0 hs;obtain⟨S98,c98,B98,m98,n98,e98,hz98⟩:=hd 6 (zj kR);refine zq 93 (.agg #[.string (mS5).sm.base,.slice A14 (mS5).sm.args.length c14]) (hd 1 (zj kR)) nu (zq 98 (.agg #[.int .i64 (DW).tm.kind,.string (DW).tm.name,.int .i64 (DW).tm.index,.string (DW).tm.type.base,.slice S98 (DW).tm.type.args.length c98,.slice B98 (DW).tm.args.length m98]) e98 nu ?_);refine x5 oj (kq [b90] mS5 DW _ _ _ _ _ _ _ _ wx (fun x hx=>by rw [List.mem_singleton.1 hx];exact hb90.lt) hz14 hz98) rfl (fun e' w2 hr=>?_);obtain⟨⟨_,rfl,hd⟩,hs⟩:=hr;exact⟨_,rfl,sB hs,hd,zY⟩
   | 8,_,hoq=>
    cases sI hoq;refine zq 92 (.slice (some ⟨b90,0,none⟩) 6 6) (hd 0 (zj kR)) nu ?_;exact oV (xQ (i:=0) U37 yK rfl rfl dE rfl) rfl
   | _ + 9,hix,_=>exact absurd hix om
  intro gg w20 hs hR hdis;have hs0:=hs;replace hB:=hB.tr0 hs;replace hb3:=hb3.tr0 hs;replace hb5:=hb5.tr0 hs;replace hb6:=hb6.tr0 hs;replace hb7:=hb7.tr0 hs;replace hb8:=hb8.tr0 hs;replace hz14:=hz14.tr0 hs;replace hz17:=hz17.tr0 hs;replace hz20:=hz20.tr0 hs;replace hz23:=hz23.tr0 hs;replace hb90:=hb90.tr0 hs;replace hz40:=hz40.tr0 hs;replace hz68:=hz68.tr0 hs;replace hz89:=hz89.tr0 hs;have d7:TmD [b90] Zv w20 (gg 99):=hR 7 dE;obtain⟨S99,c99,B99,m99,n99,e99,hz99⟩:=d7;have d8:gg 100= .pointer (some ⟨b90,0 + 0 * 6,none⟩):=hR 8 dE;have e100:=d8;refine xx 99 (.agg #[.int .i64 (Zv).tm.kind,.string (Zv).tm.name,.int .i64 (Zv).tm.index,.string (Zv).tm.type.base,.slice S99 (Zv).tm.type.args.length c99,.slice B99 (Zv).tm.args.length m99]) e99 nu (xx 100 (.pointer (some ⟨b90,0 + 0 * 6,none⟩)) e100 nu ?_);refine Qv hb90 rfl rfl yK (by show 0 + 0 * 6 + 6≤36;decide) qY (show _= #[.int .i64 (Zv).tm.kind,.string (Zv).tm.name,.int .i64 (Zv).tm.index,.string (Zv).tm.type.base,.slice S99 (Zv).tm.type.args.length c99,.slice B99 (Zv).tm.args.length m99,.int .i64 (QY).tm.kind,.string (QY).tm.name,.int .i64 (QY).tm.index,.string (QY).tm.type.base,.slice S37 (QY).tm.type.args.length c37,.slice B37 (QY).tm.args.length m37,.int .i64 (uW).tm.kind,.string (uW).tm.name,.int .i64 (uW).tm.index,.string (uW).tm.type.base,.slice S40 (uW).tm.type.args.length c40,.slice B40 (uW).tm.args.length m40,.int .i64 (Z8).tm.kind,.string (Z8).tm.name,.int .i64 (Z8).tm.index,.string (Z8).tm.type.base,.slice S55 (Z8).tm.type.args.length c55,.slice B55 (Z8).tm.args.length m55,.int .i64 (uV).tm.kind,.string (uV).tm.name,.int .i64 (uV).tm.index,.string (uV).tm.type.base,.slice S68 (uV).tm.type.args.length c68,.slice B68 (uV).tm.args.length m68,.int .i64 (uK).tm.kind,.string (uK).tm.name,.int .i64 (uK).tm.index,.string (uK).tm.type.base,.slice S89 (uK).tm.type.args.length c89,.slice B89 (uK).tm.args.length m89] from rfl) (fun w21 hq hs=>?_);replace hB:=hB.tr1 hs lo90;replace hb3:=hb3.tr1 hs om;replace hb5:=hb5.tr1 hs om;replace hb6:=hb6.tr1 hs om;replace hb7:=hb7.tr1 hs om;replace hb8:=hb8.tr1 hs om;replace hz14:=hz14.in1 hs (by simp);replace hz17:=hz17.in1 hs (by simp);replace hz20:=hz20.in1 hs (by simp);replace hz23:=hz23.in1 hs (by simp);replace hz40:=hz40.in1 hs (by simp);replace hz68:=hz68.in1 hs (by simp);replace hz89:=hz89.in1 hs (by simp);replace hz99:=hz99.in1 hs (by simp);replace hb90:=hq;refine zx (e_S (zz ?_))
  refine vy 9 [101,102,103,104,105,106,107,108,109] (fun _=>false) (fun ix v wv=>match ix with | 0=>v= .slice (some ⟨b90,0,none⟩) 6 6 | 1=>v= .agg #[.string (mS5).sm.base,.slice A14 (mS5).sm.args.length c14] | 2=>v= .agg #[.string (mS8).sm.base,.slice A23 (mS8).sm.args.length c23] | 3=>TmD [b90] Iw wv (v) | 4=>TmD [b90] Iv wv (v) | 5=>TmD [b90] Ik wv (v) | 6=>TmD [b90] Ij wv (v) | 7=>TmD [b90] oW wv (v) | 8=>v= .pointer (some ⟨b90,0 + 1 * 6,none⟩) | _=>True) kR kR ?_ ?_ ?_
  ·intro ix v wv wv2 h hs
   match ix,h with
   | 0,h=>exact h
   | 1,h=>exact h
   | 2,h=>exact h
   | 3,h=>
    obtain⟨S104,c104,B104,m104,n104,e104,hz104⟩:=h;exact⟨S104,c104,B104,m104,n104,e104,hz104.tr0 hs⟩
   | 4,h=>
    obtain⟨S105,c105,B105,m105,n105,e105,hz105⟩:=h;exact⟨S105,c105,B105,m105,n105,e105,hz105.tr0 hs⟩
   | 5,h=>
    obtain⟨S106,c106,B106,m106,n106,e106,hz106⟩:=h;exact⟨S106,c106,B106,m106,n106,e106,hz106.tr0 hs⟩
   | 6,h=>
    obtain⟨S107,c107,B107,m107,n107,e107,hz107⟩:=h;exact⟨S107,c107,B107,m107,n107,e107,hz107.tr0 hs⟩
   | 7,h=>
    obtain⟨S108,c108,B108,m108,n108,e108,hz108⟩:=h;exact⟨S108,c108,B108,m108,n108,e108,hz108.tr0 hs⟩
   | 8,h=>exact h
   | _ + 9,h=>exact trivial
  ·intro ix o hix hoq gg wx hs hd hdis
   match ix,hix,hoq with
   | 0,_,hoq=>
    cases sI hoq;exact oV (qw (v:= .slice _ _ _) rfl) rfl
   | 1,_,hoq=>
    cases sI hoq;replace hb5:=hb5.tr0 hs;exact oV (zV U36 rfl rfl hb5.range0 zW) rfl
   | 2,_,hoq=>
    cases sI hoq;replace hb8:=hb8.tr0 hs;exact oV (zV U36 rfl rfl hb8.range0 zW) rfl
   | 3,_,hoq=>
    cases sI hoq;refine x5 oq (yY [b90] 0 wx) rfl (fun e' w2 hr=>?_);obtain⟨⟨_,rfl,hd⟩,hs⟩:=hr;exact⟨_,rfl,sB hs,hd,zY⟩
   | 4,_,hoq=>
    cases sI hoq;refine x5 oq (yY [b90] 1 wx) rfl (fun e' w2 hr=>?_);obtain⟨⟨_,rfl,hd⟩,hs⟩:=hr;exact⟨_,rfl,sB hs,hd,zY⟩
   | 5,_,hoq=>
    cases sI hoq;replace hb90:=hb90.tr0 hs;obtain⟨S104,c104,B104,m104,n104,e104,hz104⟩:=hd 3 (zj kR);obtain⟨S105,c105,B105,m105,n105,e105,hz105⟩:=hd 4 (zj kR);refine zq 104 (.agg #[.int .i64 (Iw).tm.kind,.string (Iw).tm.name,.int .i64 (Iw).tm.index,.string (Iw).tm.type.base,.slice S104 (Iw).tm.type.args.length c104,.slice B104 (Iw).tm.args.length m104]) e104 nu (zq 105 (.agg #[.int .i64 (Iv).tm.kind,.string (Iv).tm.name,.int .i64 (Iv).tm.index,.string (Iv).tm.type.base,.slice S105 (Iv).tm.type.args.length c105,.slice B105 (Iv).tm.args.length m105]) e105 nu ?_);refine x5 Q0 (uk [b90] Iw Iv _ _ _ _ _ _ _ _ _ _ wx (fun x hx=>by rw [List.mem_singleton.1 hx];exact hb90.lt) hz104 hz105) rfl (fun e' w2 hr=>?_);obtain⟨⟨_,rfl,hd⟩,hs⟩:=hr;exact⟨_,rfl,sB hs,hd,zY⟩
   | 6,_,hoq=>
    cases sI hoq;replace hz23:=hz23.tr0 hs;replace hb90:=hb90.tr0 hs;obtain⟨S106,c106,B106,m106,n106,e106,hz106⟩:=hd 5 (zj kR);refine zq 103 (.agg #[.string (mS8).sm.base,.slice A23 (mS8).sm.args.length c23]) (hd 2 (zj kR)) nu (zq 106 (.agg #[.int .i64 (Ik).tm.kind,.string (Ik).tm.name,.int .i64 (Ik).tm.index,.string (Ik).tm.type.base,.slice S106 (Ik).tm.type.args.length c106,.slice B106 (Ik).tm.args.length m106]) e106 nu ?_);refine x5 oj (kq [b90] mS8 Ik _ _ _ _ _ _ _ _ wx (fun x hx=>by rw [List.mem_singleton.1 hx];exact hb90.lt) hz23 hz106) rfl (fun e' w2 hr=>?_);obtain⟨⟨_,rfl,hd⟩,hs⟩:=hr;exact⟨_,rfl,sB hs,hd,zY⟩
   | 7,_,hoq=>
    cases sI hoq;replace hz14:=hz14.tr0 hs;replace hb90:=hb90.tr0 hs;obtain⟨S107,c107,B107,m107,n107,e107,hz107⟩:=hd 6 (zj kR);refine zq 102 (.agg #[.string (mS5).sm.base,.slice A14 (mS5).sm.args.length c14]) (hd 1 (zj kR)) nu (zq 107 (.agg #[.int .i64 (Ij).tm.kind,.string (Ij).tm.name,.int .i64 (Ij).tm.index,.string (Ij).tm.type.base,.slice S107 (Ij).tm.type.args.length c107,.slice B107 (Ij).tm.args.length m107]) e107 nu ?_);refine x5 oj (kq [b90] mS5 Ij _ _ _ _ _ _ _ _ wx (fun x hx=>by rw [List.mem_singleton.1 hx];exact hb90.lt) hz14 hz107) rfl (fun e' w2 hr=>?_);obtain⟨⟨_,rfl,hd⟩,hs⟩:=hr;exact⟨_,rfl,sB hs,hd,zY⟩
   | 8,_,hoq=>
    cases sI hoq;refine zq 101 (.slice (some ⟨b90,0,none⟩) 6 6) (hd 0 (zj kR)) nu ?_;exact oV (xQ (i:=1) U37 yK rfl rfl dE rfl) rfl
   | _ + 9,hix,_=>exact absurd hix om
  intro gg w22 hs hR hdis;have hs0:=hs;replace hB:=hB.tr0 hs;replace hb3:=hb3.tr0 hs;replace hb6:=hb6.tr0 hs;replace hb7:=hb7.tr0 hs;replace hz17:=hz17.tr0 hs;replace hz20:=hz20.tr0 hs;replace hb90:=hb90.tr0 hs;replace hz40:=hz40.tr0 hs;replace hz68:=hz68.tr0 hs;replace hz89:=hz89.tr0 hs;replace hz99:=hz99.tr0 hs;have d7:TmD [b90] oW w22 (gg 108):=hR 7 dE;obtain⟨S108,c108,B108,m108,n108,e108,hz108⟩:=d7;have d8:gg 109= .pointer (some ⟨b90,0 + 1 * 6,none⟩):=hR 8 dE;have e109:=d8;refine xx 108 (.agg #[.int .i64 (oW).tm.kind,.string (oW).tm.name,.int .i64 (oW).tm.index,.string (oW).tm.type.base,.slice S108 (oW).tm.type.args.length c108,.slice B108 (oW).tm.args.length m108]) e108 nu (xx 109 (.pointer (some ⟨b90,0 + 1 * 6,none⟩)) e109 nu ?_);refine Qv hb90 rfl rfl yK (by show 0 + 1 * 6 + 6≤36;decide) qY (show _= #[.int .i64 (Zv).tm.kind,.string (Zv).tm.name,.int .i64 (Zv).tm.index,.string (Zv).tm.type.base,.slice S99 (Zv).tm.type.args.length c99,.slice B99 (Zv).tm.args.length m99,.int .i64 (oW).tm.kind,.string (oW).tm.name,.int .i64 (oW).tm.index,.string (oW).tm.type.base,.slice S108 (oW).tm.type.args.length c108,.slice B108 (oW).tm.args.length m108,.int .i64 (uW).tm.kind,.string (uW).tm.name,.int .i64 (uW).tm.index,.string (uW).tm.type.base,.slice S40 (uW).tm.type.args.length c40,.slice B40 (uW).tm.args.length m40,.int .i64 (Z8).tm.kind,.string (Z8).tm.name,.int .i64 (Z8).tm.index,.string (Z8).tm.type.base,.slice S55 (Z8).tm.type.args.length c55,.slice B55 (Z8).tm.args.length m55,.int .i64 (uV).tm.kind,.string (uV).tm.name,.int .i64 (uV).tm.index,.string (uV).tm.type.base,.slice S68 (uV).tm.type.args.length c68,.slice B68 (uV).tm.args.length m68,.int .i64 (uK).tm.kind,.string (uK).tm.name,.int .i64 (uK).tm.index,.string (uK).tm.type.base,.slice S89 (uK).tm.type.args.length c89,.slice B89 (uK).tm.args.length m89] from rfl) (fun w23 hq hs=>?_);replace hB:=hB.tr1 hs lo90;replace hb3:=hb3.tr1 hs om;replace hb6:=hb6.tr1 hs om;replace hb7:=hb7.tr1 hs om;replace hz17:=hz17.in1 hs (by simp);replace hz20:=hz20.in1 hs (by simp);replace hz40:=hz40.in1 hs (by simp);replace hz68:=hz68.in1 hs (by simp);replace hz89:=hz89.in1 hs (by simp);replace hz99:=hz99.in1 hs (by simp);replace hz108:=hz108.in1 hs (by simp);replace hb90:=hq;refine zx (e_S ?_);refine vy 17 [110,111,112,113,114,115,116,117,118,119,120,121,122,123,124,125,126] (fun _=>false) (fun ix v wv=>match ix with | 0=>v= .slice (some ⟨b90,0,none⟩) 6 6 | 1=>v= .agg #[.string (mS6).sm.base,.slice A17 (mS6).sm.args.length c17] | 2=>v= .agg #[.string (mS7).sm.base,.slice A20 (mS7).sm.args.length c20] | 3=>v= .agg #[.string ((Ts.b false)).sm.base,.slice none ((Ts.b false)).sm.args.length 0] | 4=>TmD [b90] Ix wv (v) | 5=>v= .agg #[.string ((Ts.b false)).sm.base,.slice none ((Ts.b false)).sm.args.length 0] | 6=>TmD [b90] Iq wv (v) | 7=>TmD [b90] Iz wv (v) | 8=>TmD [b90] I9 wv (v) | 9=>TmD [b90] I8 wv (v) | 10=>TmD [b90] I7 wv (v) | 11=>TmD [b90] I6 wv (v) | 12=>TmD [b90] I5 wv (v) | 13=>TmD [b90] I4 wv (v) | 14=>TmD [b90] I3 wv (v) | 15=>TmD [b90] X4 wv (v) | 16=>v= .pointer (some ⟨b90,0 + 3 * 6,none⟩) | _=>True) kR kR ?_ ?_ ?_
  ·intro ix v wv wv2 h hs
   match ix,h with
   | 0,h=>exact h
   | 1,h=>exact h
   | 2,h=>exact h
   | 3,h=>exact h
   | 4,h=>
    obtain⟨S114,c114,B114,m114,n114,e114,hz114⟩:=h;exact⟨S114,c114,B114,m114,n114,e114,hz114.tr0 hs⟩
   | 5,h=>exact h
   | 6,h=>
    obtain⟨S116,c116,B116,m116,n116,e116,hz116⟩:=h;exact⟨S116,c116,B116,m116,n116,e116,hz116.tr0 hs⟩
   | 7,h=>
    obtain⟨S117,c117,B117,m117,n117,e117,hz117⟩:=h;exact⟨S117,c117,B117,m117,n117,e117,hz117.tr0 hs⟩
   | 8,h=>
    obtain⟨S118,c118,B118,m118,n118,e118,hz118⟩:=h;exact⟨S118,c118,B118,m118,n118,e118,hz118.tr0 hs⟩
   | 9,h=>
    obtain⟨S119,c119,B119,m119,n119,e119,hz119⟩:=h;exact⟨S119,c119,B119,m119,n119,e119,hz119.tr0 hs⟩
   | 10,h=>
    obtain⟨S120,c120,B120,m120,n120,e120,hz120⟩:=h;exact⟨S120,c120,B120,m120,n120,e120,hz120.tr0 hs⟩
   | 11,h=>
    obtain⟨S121,c121,B121,m121,n121,e121,hz121⟩:=h;exact⟨S121,c121,B121,m121,n121,e121,hz121.tr0 hs⟩
   | 12,h=>
    obtain⟨S122,c122,B122,m122,n122,e122,hz122⟩:=h;exact⟨S122,c122,B122,m122,n122,e122,hz122.tr0 hs⟩
   | 13,h=>
    obtain⟨S123,c123,B123,m123,n123,e123,hz123⟩:=h;exact⟨S123,c123,B123,m123,n123,e123,hz123.tr0 hs⟩
   | 14,h=>
    obtain⟨S124,c124,B124,m124,n124,e124,hz124⟩:=h;exact⟨S124,c124,B124,m124,n124,e124,hz124.tr0 hs⟩
   | 15,h=>
    obtain⟨S125,c125,B125,m125,n125,e125,hz125⟩:=h;exact⟨S125,c125,B125,m125,n125,e125,hz125.tr0 hs⟩
   | 16,h=>exact h
   | _ + 17,h=>exact trivial
  ·intro ix o hix hoq gg wx hs hd hdis
   match ix,hix,hoq with
   | 0,_,hoq=>
    cases sI hoq;exact oV (qw (v:= .slice _ _ _) rfl) rfl
   | 1,_,hoq=>
    cases sI hoq;replace hb6:=hb6.tr0 hs;exact oV (zV U36 rfl rfl hb6.range0 zW) rfl
   | 2,_,hoq=>
    cases sI hoq;replace hb7:=hb7.tr0 hs;exact oV (zV U36 rfl rfl hb7.range0 zW) rfl
   | 3,_,hoq=>
    cases sI hoq;replace hb3:=hb3.tr0 hs;exact oV (zV U36 rfl rfl hb3.range0 zW) rfl
   | 4,_,hoq=>
    cases sI hoq;refine x5 oq (yY [b90] 2 wx) rfl (fun e' w2 hr=>?_);obtain⟨⟨_,rfl,hd⟩,hs⟩:=hr;exact⟨_,rfl,sB hs,hd,zY⟩
   | 5,_,hoq=>
    cases sI hoq;replace hb3:=hb3.tr0 hs;exact oV (zV U36 rfl rfl hb3.range0 zW) rfl
   | 6,_,hoq=>
    cases sI hoq;refine x5 oq (yY [b90] 2 wx) rfl (fun e' w2 hr=>?_);obtain⟨⟨_,rfl,hd⟩,hs⟩:=hr;exact⟨_,rfl,sB hs,hd,zY⟩
   | 7,_,hoq=>
    cases sI hoq;refine x5 oq (yY [b90] 1 wx) rfl (fun e' w2 hr=>?_);obtain⟨⟨_,rfl,hd⟩,hs⟩:=hr;exact⟨_,rfl,sB hs,hd,zY⟩
   | 8,_,hoq=>
    cases sI hoq;replace hb90:=hb90.tr0 hs;obtain⟨S116,c116,B116,m116,n116,e116,hz116⟩:=hd 6 (zj kR);obtain⟨S117,c117,B117,m117,n117,e117,hz117⟩:=hd 7 (zj kR);refine zq 116 (.agg #[.int .i64 (Iq).tm.kind,.string (Iq).tm.name,.int .i64 (Iq).tm.index,.string (Iq).tm.type.base,.slice S116 (Iq).tm.type.args.length c116,.slice B116 (Iq).tm.args.length m116]) e116 nu (zq 117 (.agg #[.int .i64 (Iz).tm.kind,.string (Iz).tm.name,.int .i64 (Iz).tm.index,.string (Iz).tm.type.base,.slice S117 (Iz).tm.type.args.length c117,.slice B117 (Iz).tm.args.length m117]) e117 nu ?_);refine x5 Q0 (uk [b90] Iq Iz _ _ _ _ _ _ _ _ _ _ wx (fun x hx=>by rw [List.mem_singleton.1 hx];exact hb90.lt) hz116 hz117) rfl (fun e' w2 hr=>?_);obtain⟨⟨_,rfl,hd⟩,hs⟩:=hr;exact⟨_,rfl,sB hs,hd,zY⟩
   | 9,_,hoq=>
    cases sI hoq;refine x5 oq (yY [b90] 0 wx) rfl (fun e' w2 hr=>?_);obtain⟨⟨_,rfl,hd⟩,hs⟩:=hr;exact⟨_,rfl,sB hs,hd,zY⟩
   | 10,_,hoq=>
    cases sI hoq;replace hb90:=hb90.tr0 hs;obtain⟨S118,c118,B118,m118,n118,e118,hz118⟩:=hd 8 (zj kR);obtain⟨S119,c119,B119,m119,n119,e119,hz119⟩:=hd 9 (zj kR);refine zq 118 (.agg #[.int .i64 (I9).tm.kind,.string (I9).tm.name,.int .i64 (I9).tm.index,.string (I9).tm.type.base,.slice S118 (I9).tm.type.args.length c118,.slice B118 (I9).tm.args.length m118]) e118 nu (zq 119 (.agg #[.int .i64 (I8).tm.kind,.string (I8).tm.name,.int .i64 (I8).tm.index,.string (I8).tm.type.base,.slice S119 (I8).tm.type.args.length c119,.slice B119 (I8).tm.args.length m119]) e119 nu ?_);refine x5 Q0 (uk [b90] I9 I8 _ _ _ _ _ _ _ _ _ _ wx (fun x hx=>by rw [List.mem_singleton.1 hx];exact hb90.lt) hz118 hz119) rfl (fun e' w2 hr=>?_);obtain⟨⟨_,rfl,hd⟩,hs⟩:=hr;exact⟨_,rfl,sB hs,hd,zY⟩
   | 11,_,hoq=>
    cases sI hoq;replace hb90:=hb90.tr0 hs;obtain⟨S120,c120,B120,m120,n120,e120,hz120⟩:=hd 10 (zj kR);refine zq 115 (.agg #[.string ((Ts.b false)).sm.base,.slice none ((Ts.b false)).sm.args.length 0]) (hd 5 (zj kR)) nu (zq 120 (.agg #[.int .i64 (I7).tm.kind,.string (I7).tm.name,.int .i64 (I7).tm.index,.string (I7).tm.type.base,.slice S120 (I7).tm.type.args.length c120,.slice B120 (I7).tm.args.length m120]) e120 nu ?_);refine x5 oj (kq [b90] (Ts.b false) I7 _ _ _ _ _ _ _ _ wx (fun x hx=>by rw [List.mem_singleton.1 hx];exact hb90.lt) (Fz.triv _ _ TS (fun _=>SimsIn.nil)) hz120) rfl (fun e' w2 hr=>?_);obtain⟨⟨_,rfl,hd⟩,hs⟩:=hr;exact⟨_,rfl,sB hs,hd,zY⟩
   | 12,_,hoq=>
    cases sI hoq;replace hb90:=hb90.tr0 hs;obtain⟨S114,c114,B114,m114,n114,e114,hz114⟩:=hd 4 (zj kR);obtain⟨S121,c121,B121,m121,n121,e121,hz121⟩:=hd 11 (zj kR);refine zq 114 (.agg #[.int .i64 (Ix).tm.kind,.string (Ix).tm.name,.int .i64 (Ix).tm.index,.string (Ix).tm.type.base,.slice S114 (Ix).tm.type.args.length c114,.slice B114 (Ix).tm.args.length m114]) e114 nu (zq 121 (.agg #[.int .i64 (I6).tm.kind,.string (I6).tm.name,.int .i64 (I6).tm.index,.string (I6).tm.type.base,.slice S121 (I6).tm.type.args.length c121,.slice B121 (I6).tm.args.length m121]) e121 nu ?_);refine x5 Q0 (uk [b90] Ix I6 _ _ _ _ _ _ _ _ _ _ wx (fun x hx=>by rw [List.mem_singleton.1 hx];exact hb90.lt) hz114 hz121) rfl (fun e' w2 hr=>?_);obtain⟨⟨_,rfl,hd⟩,hs⟩:=hr;exact⟨_,rfl,sB hs,hd,zY⟩
   | 13,_,hoq=>
    cases sI hoq;replace hb90:=hb90.tr0 hs;obtain⟨S122,c122,B122,m122,n122,e122,hz122⟩:=hd 12 (zj kR);refine zq 113 (.agg #[.string ((Ts.b false)).sm.base,.slice none ((Ts.b false)).sm.args.length 0]) (hd 3 (zj kR)) nu (zq 122 (.agg #[.int .i64 (I5).tm.kind,.string (I5).tm.name,.int .i64 (I5).tm.index,.string (I5).tm.type.base,.slice S122 (I5).tm.type.args.length c122,.slice B122 (I5).tm.args.length m122]) e122 nu ?_);refine x5 oj (kq [b90] (Ts.b false) I5 _ _ _ _ _ _ _ _ wx (fun x hx=>by rw [List.mem_singleton.1 hx];exact hb90.lt) (Fz.triv _ _ TS (fun _=>SimsIn.nil)) hz122) rfl (fun e' w2 hr=>?_);obtain⟨⟨_,rfl,hd⟩,hs⟩:=hr;exact⟨_,rfl,sB hs,hd,zY⟩
   | 14,_,hoq=>
    cases sI hoq;replace hz20:=hz20.tr0 hs;replace hb90:=hb90.tr0 hs;obtain⟨S123,c123,B123,m123,n123,e123,hz123⟩:=hd 13 (zj kR);refine zq 112 (.agg #[.string (mS7).sm.base,.slice A20 (mS7).sm.args.length c20]) (hd 2 (zj kR)) nu (zq 123 (.agg #[.int .i64 (I4).tm.kind,.string (I4).tm.name,.int .i64 (I4).tm.index,.string (I4).tm.type.base,.slice S123 (I4).tm.type.args.length c123,.slice B123 (I4).tm.args.length m123]) e123 nu ?_);refine x5 oj (kq [b90] mS7 I4 _ _ _ _ _ _ _ _ wx (fun x hx=>by rw [List.mem_singleton.1 hx];exact hb90.lt) hz20 hz123) rfl (fun e' w2 hr=>?_);obtain⟨⟨_,rfl,hd⟩,hs⟩:=hr;exact⟨_,rfl,sB hs,hd,zY⟩
   | 15,_,hoq=>
    cases sI hoq;replace hz17:=hz17.tr0 hs;replace hb90:=hb90.tr0 hs;obtain⟨S124,c124,B124,m124,n124,e124,hz124⟩:=hd 14 (zj kR);refine zq 111 (.agg #[.string (mS6).sm.base,.slice A17 (mS6).sm.args.length c17]) (hd 1 (zj kR)) nu (zq 124 (.agg #[.int .i64 (I3).tm.kind,.string (I3).tm.name,.int .i64 (I3).tm.index,.string (I3).tm.type.base,.slice S124 (I3).tm.type.args.length c124,.slice B124 (I3).tm.args.length m124]) e124 nu ?_);refine x5 oj (kq [b90] mS6 I3 _ _ _ _ _ _ _ _ wx (fun x hx=>by rw [List.mem_singleton.1 hx];exact hb90.lt) hz17 hz124) rfl (fun e' w2 hr=>?_);obtain⟨⟨_,rfl,hd⟩,hs⟩:=hr;exact⟨_,rfl,sB hs,hd,zY⟩
   | 16,_,hoq=>
    cases sI hoq;refine zq 110 (.slice (some ⟨b90,0,none⟩) 6 6) (hd 0 (zj kR)) nu ?_;exact oV (xQ (i:=3) U37 yK rfl rfl dE rfl) rfl
   | _ + 17,hix,_=>exact absurd hix om
  intro gg w24 hs hR hdis;replace hB:=hB.tr0 hs;replace hb90:=hb90.tr0 hs;replace hz40:=hz40.tr0 hs;replace hz68:=hz68.tr0 hs;replace hz89:=hz89.tr0 hs;replace hz99:=hz99.tr0 hs;replace hz108:=hz108.tr0 hs;obtain⟨S125,c125,B125,m125,n125,e125,hz125⟩:=hR 15 dE;refine xx 125 (.agg #[.int .i64 (X4).tm.kind,.string (X4).tm.name,.int .i64 (X4).tm.index,.string (X4).tm.type.base,.slice S125 (X4).tm.type.args.length c125,.slice B125 (X4).tm.args.length m125]) e125 nu (xx 126 (.pointer (some ⟨b90,0 + 3 * 6,none⟩)) (hR 16 dE) nu ?_);refine Qv hb90 rfl rfl yK (by show 0 + 3 * 6 + 6≤36;decide) qY (show _= #[.int .i64 (Zv).tm.kind,.string (Zv).tm.name,.int .i64 (Zv).tm.index,.string (Zv).tm.type.base,.slice S99 (Zv).tm.type.args.length c99,.slice B99 (Zv).tm.args.length m99,.int .i64 (oW).tm.kind,.string (oW).tm.name,.int .i64 (oW).tm.index,.string (oW).tm.type.base,.slice S108 (oW).tm.type.args.length c108,.slice B108 (oW).tm.args.length m108,.int .i64 (uW).tm.kind,.string (uW).tm.name,.int .i64 (uW).tm.index,.string (uW).tm.type.base,.slice S40 (uW).tm.type.args.length c40,.slice B40 (uW).tm.args.length m40,.int .i64 (X4).tm.kind,.string (X4).tm.name,.int .i64 (X4).tm.index,.string (X4).tm.type.base,.slice S125 (X4).tm.type.args.length c125,.slice B125 (X4).tm.args.length m125,.int .i64 (uV).tm.kind,.string (uV).tm.name,.int .i64 (uV).tm.index,.string (uV).tm.type.base,.slice S68 (uV).tm.type.args.length c68,.slice B68 (uV).tm.args.length m68,.int .i64 (uK).tm.kind,.string (uK).tm.name,.int .i64 (uK).tm.index,.string (uK).tm.type.base,.slice S89 (uK).tm.type.args.length c89,.slice B89 (uK).tm.args.length m89] from rfl) (fun w25 hq hs=>?_);replace hB:=hB.tr1 hs lo90;replace hz40:=hz40.in1 hs (by simp);replace hz68:=hz68.in1 hs (by simp);replace hz89:=hz89.in1 hs (by simp);replace hz99:=hz99.in1 hs (by simp);replace hz108:=hz108.in1 hs (by simp);replace hz125:=hz125.in1 hs (by simp);replace hb90:=hq;refine zx (e_S (zz (z4 (wmS rfl (waS rfl (zx (e_S (qq (x7 (.inl rfl) rfl rfl ?_)))))))));exact⟨⟨b90,_,_,rfl,hb90,(.cons hz99.nil.up (.cons hz108.nil.up (.cons hz40.nil.up (.cons hz125.nil.up (.cons hz68.nil.up (.cons hz89.nil.up .nil))))))⟩,hB⟩
 exact absurd c91 dE
end Go.Proofs.YtfkbjncidemcbaaDoor
