/- What these functions of the program compute, at every world: glosswright/glosswrightequal.meanings, glosswright/glosswrightequal.meanings. Regions of the function Small, each at every world. -/
import Derived.Test.YtbcpgfnfiekbiaaGreatDoorU
import Derived.Test.YtbcpgfnfiekbiaaGreatDoorTrm
import Derived.Test.YtbcpgfnfiekbiaaGreatDoorDQu
import Derived.Test.YtbcpgfnfiekbiaaGreatDoorSml
namespace Go.Proofs.YtbcpgfnfiekbiaaGreatDoor
open Go.RowKit
def mS5:Ts:=(Ts.f (Ts.b false) (Ts.b true))
def mS6:Ts:=(Ts.f mS5 (Ts.b true))
def mS7:Ts:=(Ts.f (Ts.b false) mS5)
def mS8:Ts:=(Ts.f mS5 mS6)
def mT26:Tv:=(Tv.var 1)
def mT27:Tv:=(Tv.var 0)
def mT28:Tv:=(Tv.app mT26 mT27)
def mT29:Tv:=(Tv.abs mS5 mT28)
def Pw:Tv:=(Tv.abs mS6 mT29)
def mT33:Tv:=(Tv.var 1)
def mT34:Tv:=(Tv.var 0)
def mT35:Tv:=(Tv.app mT33 mT34)
def mT36:Tv:=(Tv.abs mS5 mT35)
def Pv:Tv:=(Tv.abs mS8 mT36)
def mT39:Tv:=(Tv.var 0)
def Pk:Tv:=(Tv.abs mS5 mT39)
def mT44:Tv:=(Tv.var 1)
def mT46:Tv:=(Tv.var 3)
def mT47:Tv:=(Tv.var 1)
def mT48:Tv:=(Tv.app mT46 mT47)
def mT49:Tv:=(Tv.var 0)
def mT50:Tv:=(Tv.app mT48 mT49)
def mT51:Tv:=(Tv.abs (Ts.b false) mT50)
def mT52:Tv:=(Tv.app mT44 mT51)
def mT53:Tv:=(Tv.abs (Ts.b false) mT52)
def mT54:Tv:=(Tv.abs mS6 mT53)
def Pj:Tv:=(Tv.abs mS7 mT54)
def mT58:Ts:=(Ts.f (Ts.b true) (Ts.b true))
def mT61:Tv:=(Tv.var 2)
def mT62:Tv:=(Tv.var 1)
def mT63:Tv:=(Tv.var 0)
def mT64:Tv:=(Tv.app mT62 mT63)
def mT65:Tv:=(Tv.app mT61 mT64)
def mT66:Tv:=(Tv.abs (Ts.b false) mT65)
def mT67:Tv:=(Tv.abs mS5 mT66)
def Px:Tv:=(Tv.abs mT58 mT67)
def mT73:Ts:=(Ts.f (Ts.b true) (Ts.b true))
def mT74:Ts:=(Ts.f (Ts.b true) mT73)
def mT77:Tv:=(Tv.var 2)
def mT78:Tv:=(Tv.var 3)
def mT79:Tv:=(Tv.var 0)
def mT80:Tv:=(Tv.app mT78 mT79)
def mT81:Tv:=(Tv.app mT77 mT80)
def mT82:Tv:=(Tv.var 1)
def mT83:Tv:=(Tv.var 0)
def mT84:Tv:=(Tv.app mT82 mT83)
def mT85:Tv:=(Tv.app mT81 mT84)
def mT86:Tv:=(Tv.abs mS5 mT85)
def mT87:Tv:=(Tv.abs mS6 mT86)
def mT88:Tv:=(Tv.abs mT74 mT87)
def Pq:Tv:=(Tv.abs mS6 mT88)
def Qz:List Tv:=[Pw,Pv,Pk,Pj,Px,Pq]
def MnR (wc:World) (v:Value) (w':World):Prop:=∃ b90 S30 c30 B30 m30 S37 c37 B37 m37 S40 c40 B40 m40 S55 c55 B55 m55 S68 c68 B68 m68 S89 c89 B89 m89,v= .slice (some ⟨b90,0,none⟩) 6 6∧wc.heap.size≤b90∧Blk w' b90 44 #[.int .i64 (Pw).tm.kind,.string (Pw).tm.name,.int .i64 (Pw).tm.index,.string (Pw).tm.type.base,.slice S30 (Pw).tm.type.args.length c30,.slice B30 (Pw).tm.args.length m30,.int .i64 (Pv).tm.kind,.string (Pv).tm.name,.int .i64 (Pv).tm.index,.string (Pv).tm.type.base,.slice S37 (Pv).tm.type.args.length c37,.slice B37 (Pv).tm.args.length m37,.int .i64 (Pk).tm.kind,.string (Pk).tm.name,.int .i64 (Pk).tm.index,.string (Pk).tm.type.base,.slice S40 (Pk).tm.type.args.length c40,.slice B40 (Pk).tm.args.length m40,.int .i64 (Pj).tm.kind,.string (Pj).tm.name,.int .i64 (Pj).tm.index,.string (Pj).tm.type.base,.slice S55 (Pj).tm.type.args.length c55,.slice B55 (Pj).tm.args.length m55,.int .i64 (Px).tm.kind,.string (Px).tm.name,.int .i64 (Px).tm.index,.string (Px).tm.type.base,.slice S68 (Px).tm.type.args.length c68,.slice B68 (Px).tm.args.length m68,.int .i64 (Pq).tm.kind,.string (Pq).tm.name,.int .i64 (Pq).tm.index,.string (Pq).tm.type.base,.slice S89 (Pq).tm.type.args.length c89,.slice B89 (Pq).tm.args.length m89]∧Fz [] b90 TS w' (fun w=>SimsIn w S30 (Pw).tm.type.args∧TmsIn w B30 (Pw).tm.args)∧Fz [] b90 TS w' (fun w=>SimsIn w S37 (Pv).tm.type.args∧TmsIn w B37 (Pv).tm.args)∧Fz [] b90 TS w' (fun w=>SimsIn w S40 (Pk).tm.type.args∧TmsIn w B40 (Pk).tm.args)∧Fz [] b90 TS w' (fun w=>SimsIn w S55 (Pj).tm.type.args∧TmsIn w B55 (Pj).tm.args)∧Fz [] b90 TS w' (fun w=>SimsIn w S68 (Px).tm.type.args∧TmsIn w B68 (Px).tm.args)∧Fz [] b90 TS w' (fun w=>SimsIn w S89 (Pq).tm.type.args∧TmsIn w B89 (Pq).tm.args)
theorem MnR.tr0 {wc w1 w2:World} {v:Value} (h:MnR wc v w1) (hs:Same [] w1 w2):MnR wc v w2:=by
  obtain⟨b90,S30,c30,B30,m30,S37,c37,B37,m37,S40,c40,B40,m40,S55,c55,B55,m55,S68,c68,B68,m68,S89,c89,B89,m89,e,lo,hb,hz30,hz37,hz40,hz55,hz68,hz89⟩:=h;exact⟨b90,S30,c30,B30,m30,S37,c37,B37,m37,S40,c40,B40,m40,S55,c55,B55,m55,S68,c68,B68,m68,S89,c89,B89,m89,e,lo,hb.tr0 hs,hz30.tr0 hs,hz37.tr0 hs,hz40.tr0 hs,hz55.tr0 hs,hz68.tr0 hs,hz89.tr0 hs⟩
set_option maxRecDepth 100000 in
set_option maxHeartbeats 8000000 in
theorem mean_r6 {wc:World} {b3 b4 b5 b6 b7 b8 c14 c17 c20 c23 n14 n17 n20 n23:Nat} {A14 A17 A20 A23:Option Addr} (hb3:Blk wc b3 41 #[.string ⟨#[101]⟩,.slice none 0 0]) (hb4:Blk wc b4 41 #[.string ⟨#[116]⟩,.slice none 0 0]) (hb5:Blk wc b5 41 #[.string (mS5).sm.base,.slice A14 (mS5).sm.args.length c14]) (hb6:Blk wc b6 41 #[.string (mS6).sm.base,.slice A17 (mS6).sm.args.length c17]) (hb7:Blk wc b7 41 #[.string (mS7).sm.base,.slice A20 (mS7).sm.args.length c20]) (hb8:Blk wc b8 41 #[.string (mS8).sm.base,.slice A23 (mS8).sm.args.length c23]) (hz14:Fz [] n14 TS wc (fun w=>SimsIn w A14 (mS5).sm.args)) (hz17:Fz [] n17 TS wc (fun w=>SimsIn w A17 (mS6).sm.args)) (hz20:Fz [] n20 TS wc (fun w=>SimsIn w A20 (mS7).sm.args)) (hz23:Fz [] n23 TS wc (fun w=>SimsIn w A23 (mS8).sm.args)) (f:Fr) (Q:Exit→Act→World→Prop) (k3:f 3= .pointer (some ⟨b3,0,none⟩)) (k4:f 4= .pointer (some ⟨b4,0,none⟩)) (k5:f 5= .pointer (some ⟨b5,0,none⟩)) (k6:f 6= .pointer (some ⟨b6,0,none⟩)) (k7:f 7= .pointer (some ⟨b7,0,none⟩)) (k8:f 8= .pointer (some ⟨b8,0,none⟩)) (hPQ:PQ Q):WC Tryz.prog (sl (sr (sr (sr (sr (sr (sr (ob Tryz.f20.body)))))))) (QRS 128 [9,24,25,26,27,28,29,30,31,32,33,34,35,36,37,38,39,40,41,42,43,44,45,46,47,48,49,50,51,52,53,54,55,56,57,58,59,60,61,62,63,64,65,66,67,68,69,70,71,72,73,74,75,76,77,78,79,80,81,82,83,84,85,86,87,88,89,90] f (fun g w'=>Same [] wc w'∧MnR wc (g 9) w') Q) 128 f wc:=by
 have hZ:Same [] wc wc:=Same.refl _ _;refine zQ 3 _ k3 nu (zQ 4 _ k4 nu (zQ 5 _ k5 nu (zQ 6 _ k6 nu (zQ 7 _ k7 nu (zQ 8 _ k8 nu ?_)))));refine kZ [] [0,1,7,8,14,17,18,19,21,32,33,35,36,45,46,47,48,51,52,2,3,4,5,6,9,10,11,12,13,15,16,20,22,23,24,25,26,27,28,29,30,31,34,37,38,39,40,41,42,43,44,49,50,53,54,55,56,57,58,59,60,61,62,63,64,65,66,67] rfl (fun w1 s1=>?_);have hs0:=s1;refine zn19 ?_;refine hcl (fun v wv=>TmD [] mT26 wv (v)) rfl Q1 (vy [] 1 w1) rfl (fun e' w2 hr=>?_) (fun v26 w2 s2 d26=>?_)
 ·obtain⟨⟨_,rfl,hd⟩,s3⟩:=hr;exact⟨_,rfl,sB s3,hd⟩
 obtain⟨S26,c26,B26,m26,n26,e26,hz26⟩:=d26;subst e26;refine hcl (fun v wv=>TmD [] mT27 wv (v)) rfl Q1 (vy [] 0 w2) rfl (fun e' w2 hr=>?_) (fun v27 w3 s4 d27=>?_)
 ·obtain⟨⟨_,rfl,hd⟩,s5⟩:=hr;exact⟨_,rfl,sB s5,hd⟩
 obtain⟨S27,c27,B27,m27,n27,e27,hz27⟩:=d27;subst e27;replace hz26:=hz26.tr0 s4;refine hcl (fun v wv=>TmD [] mT28 wv (v)) rfl Y1 (gX [] mT26 mT27 _ _ _ _ _ _ _ _ _ _ w3 (by simp) hz26 hz27) rfl (fun e' w2 hr=>?_) (fun v28 w4 s6 d28=>?_)
 ·obtain⟨⟨_,rfl,hd⟩,s7⟩:=hr;exact⟨_,rfl,sB s7,hd⟩
 obtain⟨S28,c28,B28,m28,n28,e28,hz28⟩:=d28;subst e28;replace hz14:=hz14.tr0 (s1.trans (s2.trans (s4.trans s6)));refine hcl (fun v wv=>TmD [] mT29 wv (v)) rfl Q2 (uq [] mS5 mT28 _ _ _ _ _ _ _ _ w4 (by simp) hz14 hz28) rfl (fun e' w2 hr=>?_) (fun v29 w5 s8 d29=>?_)
 ·obtain⟨⟨_,rfl,hd⟩,s9⟩:=hr;exact⟨_,rfl,sB s9,hd⟩
 obtain⟨S29,c29,B29,m29,n29,e29,hz29⟩:=d29;subst e29;replace hz17:=hz17.tr0 (s1.trans (s2.trans (s4.trans (s6.trans s8))));refine hcl (fun v wv=>TmD [] Pw wv (v)) rfl Q2 (uq [] mS6 mT29 _ _ _ _ _ _ _ _ w5 (by simp) hz17 hz29) rfl (fun e' w2 hr=>?_) (fun v30 w6 s10 d30=>?_)
 ·obtain⟨⟨_,rfl,hd⟩,s11⟩:=hr;exact⟨_,rfl,sB s11,hd⟩
 obtain⟨S30,c30,B30,m30,n30,e30,hz30⟩:=d30;subst e30;refine hcl (fun v wv=>TmD [] mT33 wv (v)) rfl Q1 (vy [] 1 w6) rfl (fun e' w2 hr=>?_) (fun v33 w7 s12 d33=>?_)
 ·obtain⟨⟨_,rfl,hd⟩,s13⟩:=hr;exact⟨_,rfl,sB s13,hd⟩
 obtain⟨S33,c33,B33,m33,n33,e33,hz33⟩:=d33;subst e33;refine hcl (fun v wv=>TmD [] mT34 wv (v)) rfl Q1 (vy [] 0 w7) rfl (fun e' w2 hr=>?_) (fun v34 w8 s14 d34=>?_)
 ·obtain⟨⟨_,rfl,hd⟩,s15⟩:=hr;exact⟨_,rfl,sB s15,hd⟩
 obtain⟨S34,c34,B34,m34,n34,e34,hz34⟩:=d34;subst e34;replace hz33:=hz33.tr0 s14;refine hcl (fun v wv=>TmD [] mT35 wv (v)) rfl Y1 (gX [] mT33 mT34 _ _ _ _ _ _ _ _ _ _ w8 (by simp) hz33 hz34) rfl (fun e' w2 hr=>?_) (fun v35 w9 s16 d35=>?_)
 ·obtain⟨⟨_,rfl,hd⟩,s17⟩:=hr;exact⟨_,rfl,sB s17,hd⟩
 obtain⟨S35,c35,B35,m35,n35,e35,hz35⟩:=d35;subst e35;replace hz14:=hz14.tr0 (s8.trans (s10.trans (s12.trans (s14.trans s16))));refine hcl (fun v wv=>TmD [] mT36 wv (v)) rfl Q2 (uq [] mS5 mT35 _ _ _ _ _ _ _ _ w9 (by simp) hz14 hz35) rfl (fun e' w2 hr=>?_) (fun v36 w10 s18 d36=>?_)
 ·obtain⟨⟨_,rfl,hd⟩,s19⟩:=hr;exact⟨_,rfl,sB s19,hd⟩
 obtain⟨S36,c36,B36,m36,n36,e36,hz36⟩:=d36;subst e36;replace hz23:=hz23.tr0 (s1.trans (s2.trans (s4.trans (s6.trans (s8.trans (s10.trans (s12.trans (s14.trans (s16.trans s18)))))))));refine hcl (fun v wv=>TmD [] Pv wv (v)) rfl Q2 (uq [] mS8 mT36 _ _ _ _ _ _ _ _ w10 (by simp) hz23 hz36) rfl (fun e' w2 hr=>?_) (fun v37 w11 s20 d37=>?_)
 ·obtain⟨⟨_,rfl,hd⟩,s21⟩:=hr;exact⟨_,rfl,sB s21,hd⟩
 obtain⟨S37,c37,B37,m37,n37,e37,hz37⟩:=d37;subst e37;refine hcl (fun v wv=>TmD [] mT39 wv (v)) rfl Q1 (vy [] 0 w11) rfl (fun e' w2 hr=>?_) (fun v39 w12 s22 d39=>?_)
 ·obtain⟨⟨_,rfl,hd⟩,s23⟩:=hr;exact⟨_,rfl,sB s23,hd⟩
 obtain⟨S39,c39,B39,m39,n39,e39,hz39⟩:=d39;subst e39;replace hz14:=hz14.tr0 (s18.trans (s20.trans s22));refine hcl (fun v wv=>TmD [] Pk wv (v)) rfl Q2 (uq [] mS5 mT39 _ _ _ _ _ _ _ _ w12 (by simp) hz14 hz39) rfl (fun e' w2 hr=>?_) (fun v40 w13 s24 d40=>?_)
 ·obtain⟨⟨_,rfl,hd⟩,s25⟩:=hr;exact⟨_,rfl,sB s25,hd⟩
 obtain⟨S40,c40,B40,m40,n40,e40,hz40⟩:=d40;subst e40;refine hcl (fun v wv=>TmD [] mT44 wv (v)) rfl Q1 (vy [] 1 w13) rfl (fun e' w2 hr=>?_) (fun v44 w14 s26 d44=>?_)
 ·obtain⟨⟨_,rfl,hd⟩,s27⟩:=hr;exact⟨_,rfl,sB s27,hd⟩
 obtain⟨S44,c44,B44,m44,n44,e44,hz44⟩:=d44;subst e44;refine hcl (fun v wv=>TmD [] mT46 wv (v)) rfl Q1 (vy [] 3 w14) rfl (fun e' w2 hr=>?_) (fun v46 w15 s28 d46=>?_)
 ·obtain⟨⟨_,rfl,hd⟩,s29⟩:=hr;exact⟨_,rfl,sB s29,hd⟩
 obtain⟨S46,c46,B46,m46,n46,e46,hz46⟩:=d46;subst e46;refine hcl (fun v wv=>TmD [] mT47 wv (v)) rfl Q1 (vy [] 1 w15) rfl (fun e' w2 hr=>?_) (fun v47 w16 s30 d47=>?_)
 ·obtain⟨⟨_,rfl,hd⟩,s31⟩:=hr;exact⟨_,rfl,sB s31,hd⟩
 obtain⟨S47,c47,B47,m47,n47,e47,hz47⟩:=d47;subst e47;replace hz46:=hz46.tr0 s30;refine hcl (fun v wv=>TmD [] mT48 wv (v)) rfl Y1 (gX [] mT46 mT47 _ _ _ _ _ _ _ _ _ _ w16 (by simp) hz46 hz47) rfl (fun e' w2 hr=>?_) (fun v48 w17 s32 d48=>?_)
 ·obtain⟨⟨_,rfl,hd⟩,s33⟩:=hr;exact⟨_,rfl,sB s33,hd⟩
 obtain⟨S48,c48,B48,m48,n48,e48,hz48⟩:=d48;subst e48;refine hcl (fun v wv=>TmD [] mT49 wv (v)) rfl Q1 (vy [] 0 w17) rfl (fun e' w2 hr=>?_) (fun v49 w18 s34 d49=>?_)
 ·obtain⟨⟨_,rfl,hd⟩,s35⟩:=hr;exact⟨_,rfl,sB s35,hd⟩
 obtain⟨S49,c49,B49,m49,n49,e49,hz49⟩:=d49;subst e49;replace hz48:=hz48.tr0 s34;refine hcl (fun v wv=>TmD [] mT50 wv (v)) rfl Y1 (gX [] mT48 mT49 _ _ _ _ _ _ _ _ _ _ w18 (by simp) hz48 hz49) rfl (fun e' w2 hr=>?_) (fun v50 w19 s36 d50=>?_)
 ·obtain⟨⟨_,rfl,hd⟩,s37⟩:=hr;exact⟨_,rfl,sB s37,hd⟩
 obtain⟨S50,c50,B50,m50,n50,e50,hz50⟩:=d50;subst e50;refine hcl (fun v wv=>TmD [] mT51 wv (v)) rfl Q2 (uq [] (Ts.b false) mT50 _ _ _ _ _ _ _ _ w19 (by simp) (Fz.triv _ _ TS (fun _=>SimsIn.nil)) hz50) rfl (fun e' w2 hr=>?_) (fun v51 w20 s38 d51=>?_)
 ·obtain⟨⟨_,rfl,hd⟩,s39⟩:=hr;exact⟨_,rfl,sB s39,hd⟩
 obtain⟨S51,c51,B51,m51,n51,e51,hz51⟩:=d51;subst e51;replace hz44:=hz44.tr0 (s28.trans (s30.trans (s32.trans (s34.trans (s36.trans s38)))));refine hcl (fun v wv=>TmD [] mT52 wv (v)) rfl Y1 (gX [] mT44 mT51 _ _ _ _ _ _ _ _ _ _ w20 (by simp) hz44 hz51) rfl (fun e' w2 hr=>?_) (fun v52 w21 s40 d52=>?_)
 ·obtain⟨⟨_,rfl,hd⟩,s41⟩:=hr;exact⟨_,rfl,sB s41,hd⟩
 obtain⟨S52,c52,B52,m52,n52,e52,hz52⟩:=d52;subst e52;refine hcl (fun v wv=>TmD [] mT53 wv (v)) rfl Q2 (uq [] (Ts.b false) mT52 _ _ _ _ _ _ _ _ w21 (by simp) (Fz.triv _ _ TS (fun _=>SimsIn.nil)) hz52) rfl (fun e' w2 hr=>?_) (fun v53 w22 s42 d53=>?_)
 ·obtain⟨⟨_,rfl,hd⟩,s43⟩:=hr;exact⟨_,rfl,sB s43,hd⟩
 obtain⟨S53,c53,B53,m53,n53,e53,hz53⟩:=d53;subst e53;replace hz17:=hz17.tr0 (s10.trans (s12.trans (s14.trans (s16.trans (s18.trans (s20.trans (s22.trans (s24.trans (s26.trans (s28.trans (s30.trans (s32.trans (s34.trans (s36.trans (s38.trans (s40.trans s42))))))))))))))));refine hcl (fun v wv=>TmD [] mT54 wv (v)) rfl Q2 (uq [] mS6 mT53 _ _ _ _ _ _ _ _ w22 (by simp) hz17 hz53) rfl (fun e' w2 hr=>?_) (fun v54 w23 s44 d54=>?_)
 ·obtain⟨⟨_,rfl,hd⟩,s45⟩:=hr;exact⟨_,rfl,sB s45,hd⟩
 obtain⟨S54,c54,B54,m54,n54,e54,hz54⟩:=d54;subst e54;replace hz20:=hz20.tr0 (s1.trans (s2.trans (s4.trans (s6.trans (s8.trans (s10.trans (s12.trans (s14.trans (s16.trans (s18.trans (s20.trans (s22.trans (s24.trans (s26.trans (s28.trans (s30.trans (s32.trans (s34.trans (s36.trans (s38.trans (s40.trans (s42.trans s44))))))))))))))))))))));refine hcl (fun v wv=>TmD [] Pj wv (v)) rfl Q2 (uq [] mS7 mT54 _ _ _ _ _ _ _ _ w23 (by simp) hz20 hz54) rfl (fun e' w2 hr=>?_) (fun v55 w24 s46 d55=>?_)
 ·obtain⟨⟨_,rfl,hd⟩,s47⟩:=hr;exact⟨_,rfl,sB s47,hd⟩
 obtain⟨S55,c55,B55,m55,n55,e55,hz55⟩:=d55;subst e55;refine hcl (fun v wv=>SmD [] mT58 wv (v)) rfl Yx (gK [] (Ts.b true) (Ts.b true) _ _ _ _ _ _ w24 (by simp) (Fz.triv _ _ TS (fun _=>SimsIn.nil)) (Fz.triv _ _ TS (fun _=>SimsIn.nil))) rfl (fun e' w2 hr=>?_) (fun v58 w25 s48 d58=>?_)
 ·obtain⟨⟨_,rfl,hd⟩,s49⟩:=hr;exact⟨_,rfl,sB s49,hd⟩
 obtain⟨A58,c58,n58,e58,hz58⟩:=d58;subst e58;refine hcl (fun v wv=>TmD [] mT61 wv (v)) rfl Q1 (vy [] 2 w25) rfl (fun e' w2 hr=>?_) (fun v61 w26 s50 d61=>?_)
 ·obtain⟨⟨_,rfl,hd⟩,s51⟩:=hr;exact⟨_,rfl,sB s51,hd⟩
 obtain⟨S61,c61,B61,m61,n61,e61,hz61⟩:=d61;subst e61;refine hcl (fun v wv=>TmD [] mT62 wv (v)) rfl Q1 (vy [] 1 w26) rfl (fun e' w2 hr=>?_) (fun v62 w27 s52 d62=>?_)
 ·obtain⟨⟨_,rfl,hd⟩,s53⟩:=hr;exact⟨_,rfl,sB s53,hd⟩
 obtain⟨S62,c62,B62,m62,n62,e62,hz62⟩:=d62;subst e62;refine hcl (fun v wv=>TmD [] mT63 wv (v)) rfl Q1 (vy [] 0 w27) rfl (fun e' w2 hr=>?_) (fun v63 w28 s54 d63=>?_)
 ·obtain⟨⟨_,rfl,hd⟩,s55⟩:=hr;exact⟨_,rfl,sB s55,hd⟩
 obtain⟨S63,c63,B63,m63,n63,e63,hz63⟩:=d63;subst e63;replace hz62:=hz62.tr0 s54;refine hcl (fun v wv=>TmD [] mT64 wv (v)) rfl Y1 (gX [] mT62 mT63 _ _ _ _ _ _ _ _ _ _ w28 (by simp) hz62 hz63) rfl (fun e' w2 hr=>?_) (fun v64 w29 s56 d64=>?_)
 ·obtain⟨⟨_,rfl,hd⟩,s57⟩:=hr;exact⟨_,rfl,sB s57,hd⟩
 obtain⟨S64,c64,B64,m64,n64,e64,hz64⟩:=d64;subst e64;replace hz61:=hz61.tr0 (s52.trans (s54.trans s56));refine hcl (fun v wv=>TmD [] mT65 wv (v)) rfl Y1 (gX [] mT61 mT64 _ _ _ _ _ _ _ _ _ _ w29 (by simp) hz61 hz64) rfl (fun e' w2 hr=>?_) (fun v65 w30 s58 d65=>?_)
 ·obtain⟨⟨_,rfl,hd⟩,s59⟩:=hr;exact⟨_,rfl,sB s59,hd⟩
 obtain⟨S65,c65,B65,m65,n65,e65,hz65⟩:=d65;subst e65;refine hcl (fun v wv=>TmD [] mT66 wv (v)) rfl Q2 (uq [] (Ts.b false) mT65 _ _ _ _ _ _ _ _ w30 (by simp) (Fz.triv _ _ TS (fun _=>SimsIn.nil)) hz65) rfl (fun e' w2 hr=>?_) (fun v66 w31 s60 d66=>?_)
 ·obtain⟨⟨_,rfl,hd⟩,s61⟩:=hr;exact⟨_,rfl,sB s61,hd⟩
 obtain⟨S66,c66,B66,m66,n66,e66,hz66⟩:=d66;subst e66;replace hz14:=hz14.tr0 (s24.trans (s26.trans (s28.trans (s30.trans (s32.trans (s34.trans (s36.trans (s38.trans (s40.trans (s42.trans (s44.trans (s46.trans (s48.trans (s50.trans (s52.trans (s54.trans (s56.trans (s58.trans s60))))))))))))))))));refine hcl (fun v wv=>TmD [] mT67 wv (v)) rfl Q2 (uq [] mS5 mT66 _ _ _ _ _ _ _ _ w31 (by simp) hz14 hz66) rfl (fun e' w2 hr=>?_) (fun v67 w32 s62 d67=>?_)
 ·obtain⟨⟨_,rfl,hd⟩,s63⟩:=hr;exact⟨_,rfl,sB s63,hd⟩
 obtain⟨S67,c67,B67,m67,n67,e67,hz67⟩:=d67;subst e67;replace hz58:=hz58.tr0 (s50.trans (s52.trans (s54.trans (s56.trans (s58.trans (s60.trans s62))))));refine hcl (fun v wv=>TmD [] Px wv (v)) rfl Q2 (uq [] mT58 mT67 _ _ _ _ _ _ _ _ w32 (by simp) hz58 hz67) rfl (fun e' w2 hr=>?_) (fun v68 w33 s64 d68=>?_)
 ·obtain⟨⟨_,rfl,hd⟩,s65⟩:=hr;exact⟨_,rfl,sB s65,hd⟩
 obtain⟨S68,c68,B68,m68,n68,e68,hz68⟩:=d68;subst e68;refine hcl (fun v wv=>SmD [] mT73 wv (v)) rfl Yx (gK [] (Ts.b true) (Ts.b true) _ _ _ _ _ _ w33 (by simp) (Fz.triv _ _ TS (fun _=>SimsIn.nil)) (Fz.triv _ _ TS (fun _=>SimsIn.nil))) rfl (fun e' w2 hr=>?_) (fun v73 w34 s66 d73=>?_)
 ·obtain⟨⟨_,rfl,hd⟩,s67⟩:=hr;exact⟨_,rfl,sB s67,hd⟩
 obtain⟨A73,c73,n73,e73,hz73⟩:=d73;subst e73;refine hcl (fun v wv=>SmD [] mT74 wv (v)) rfl Yx (gK [] (Ts.b true) mT73 _ _ _ _ _ _ w34 (by simp) (Fz.triv _ _ TS (fun _=>SimsIn.nil)) hz73) rfl (fun e' w2 hr=>?_) (fun v74 w35 s68 d74=>?_)
 ·obtain⟨⟨_,rfl,hd⟩,s69⟩:=hr;exact⟨_,rfl,sB s69,hd⟩
 obtain⟨A74,c74,n74,e74,hz74⟩:=d74;subst e74;refine hcl (fun v wv=>TmD [] mT77 wv (v)) rfl Q1 (vy [] 2 w35) rfl (fun e' w2 hr=>?_) (fun v77 w36 s70 d77=>?_)
 ·obtain⟨⟨_,rfl,hd⟩,s71⟩:=hr;exact⟨_,rfl,sB s71,hd⟩
 obtain⟨S77,c77,B77,m77,n77,e77,hz77⟩:=d77;subst e77;refine hcl (fun v wv=>TmD [] mT78 wv (v)) rfl Q1 (vy [] 3 w36) rfl (fun e' w2 hr=>?_) (fun v78 w37 s72 d78=>?_)
 ·obtain⟨⟨_,rfl,hd⟩,s73⟩:=hr;exact⟨_,rfl,sB s73,hd⟩
 obtain⟨S78,c78,B78,m78,n78,e78,hz78⟩:=d78;subst e78;refine hcl (fun v wv=>TmD [] mT79 wv (v)) rfl Q1 (vy [] 0 w37) rfl (fun e' w2 hr=>?_) (fun v79 w38 s74 d79=>?_)
 ·obtain⟨⟨_,rfl,hd⟩,s75⟩:=hr;exact⟨_,rfl,sB s75,hd⟩
 obtain⟨S79,c79,B79,m79,n79,e79,hz79⟩:=d79;subst e79;replace hz78:=hz78.tr0 s74;refine hcl (fun v wv=>TmD [] mT80 wv (v)) rfl Y1 (gX [] mT78 mT79 _ _ _ _ _ _ _ _ _ _ w38 (by simp) hz78 hz79) rfl (fun e' w2 hr=>?_) (fun v80 w39 s76 d80=>?_)
 ·obtain⟨⟨_,rfl,hd⟩,s77⟩:=hr;exact⟨_,rfl,sB s77,hd⟩
 obtain⟨S80,c80,B80,m80,n80,e80,hz80⟩:=d80;subst e80;replace hz77:=hz77.tr0 (s72.trans (s74.trans s76));refine hcl (fun v wv=>TmD [] mT81 wv (v)) rfl Y1 (gX [] mT77 mT80 _ _ _ _ _ _ _ _ _ _ w39 (by simp) hz77 hz80) rfl (fun e' w2 hr=>?_) (fun v81 w40 s78 d81=>?_)
 ·obtain⟨⟨_,rfl,hd⟩,s79⟩:=hr;exact⟨_,rfl,sB s79,hd⟩
 obtain⟨S81,c81,B81,m81,n81,e81,hz81⟩:=d81;subst e81;refine hcl (fun v wv=>TmD [] mT82 wv (v)) rfl Q1 (vy [] 1 w40) rfl (fun e' w2 hr=>?_) (fun v82 w41 s80 d82=>?_)
 ·obtain⟨⟨_,rfl,hd⟩,s81⟩:=hr;exact⟨_,rfl,sB s81,hd⟩
 obtain⟨S82,c82,B82,m82,n82,e82,hz82⟩:=d82;subst e82;refine hcl (fun v wv=>TmD [] mT83 wv (v)) rfl Q1 (vy [] 0 w41) rfl (fun e' w2 hr=>?_) (fun v83 w42 s82 d83=>?_)
 ·obtain⟨⟨_,rfl,hd⟩,s83⟩:=hr;exact⟨_,rfl,sB s83,hd⟩
 obtain⟨S83,c83,B83,m83,n83,e83,hz83⟩:=d83;subst e83;replace hz82:=hz82.tr0 s82;refine hcl (fun v wv=>TmD [] mT84 wv (v)) rfl Y1 (gX [] mT82 mT83 _ _ _ _ _ _ _ _ _ _ w42 (by simp) hz82 hz83) rfl (fun e' w2 hr=>?_) (fun v84 w43 s84 d84=>?_)
 ·obtain⟨⟨_,rfl,hd⟩,s85⟩:=hr;exact⟨_,rfl,sB s85,hd⟩
 obtain⟨S84,c84,B84,m84,n84,e84,hz84⟩:=d84;subst e84;replace hz81:=hz81.tr0 (s80.trans (s82.trans s84));refine hcl (fun v wv=>TmD [] mT85 wv (v)) rfl Y1 (gX [] mT81 mT84 _ _ _ _ _ _ _ _ _ _ w43 (by simp) hz81 hz84) rfl (fun e' w2 hr=>?_) (fun v85 w44 s86 d85=>?_)
 ·obtain⟨⟨_,rfl,hd⟩,s87⟩:=hr;exact⟨_,rfl,sB s87,hd⟩
 obtain⟨S85,c85,B85,m85,n85,e85,hz85⟩:=d85;subst e85;replace hz14:=hz14.tr0 (s62.trans (s64.trans (s66.trans (s68.trans (s70.trans (s72.trans (s74.trans (s76.trans (s78.trans (s80.trans (s82.trans (s84.trans s86))))))))))));refine hcl (fun v wv=>TmD [] mT86 wv (v)) rfl Q2 (uq [] mS5 mT85 _ _ _ _ _ _ _ _ w44 (by simp) hz14 hz85) rfl (fun e' w2 hr=>?_) (fun v86 w45 s88 d86=>?_)
 ·obtain⟨⟨_,rfl,hd⟩,s89⟩:=hr;exact⟨_,rfl,sB s89,hd⟩
 obtain⟨S86,c86,B86,m86,n86,e86,hz86⟩:=d86;subst e86;replace hz17:=hz17.tr0 (s44.trans (s46.trans (s48.trans (s50.trans (s52.trans (s54.trans (s56.trans (s58.trans (s60.trans (s62.trans (s64.trans (s66.trans (s68.trans (s70.trans (s72.trans (s74.trans (s76.trans (s78.trans (s80.trans (s82.trans (s84.trans (s86.trans s88))))))))))))))))))))));refine hcl (fun v wv=>TmD [] mT87 wv (v)) rfl Q2 (uq [] mS6 mT86 _ _ _ _ _ _ _ _ w45 (by simp) hz17 hz86) rfl (fun e' w2 hr=>?_) (fun v87 w46 s90 d87=>?_)
 ·obtain⟨⟨_,rfl,hd⟩,s91⟩:=hr;exact⟨_,rfl,sB s91,hd⟩
 obtain⟨S87,c87,B87,m87,n87,e87,hz87⟩:=d87;subst e87;replace hz74:=hz74.tr0 (s70.trans (s72.trans (s74.trans (s76.trans (s78.trans (s80.trans (s82.trans (s84.trans (s86.trans (s88.trans s90))))))))));refine hcl (fun v wv=>TmD [] mT88 wv (v)) rfl Q2 (uq [] mT74 mT87 _ _ _ _ _ _ _ _ w46 (by simp) hz74 hz87) rfl (fun e' w2 hr=>?_) (fun v88 w47 s92 d88=>?_)
 ·obtain⟨⟨_,rfl,hd⟩,s93⟩:=hr;exact⟨_,rfl,sB s93,hd⟩
 obtain⟨S88,c88,B88,m88,n88,e88,hz88⟩:=d88;subst e88;replace hz17:=hz17.tr0 (s90.trans s92);refine hcl (fun v wv=>TmD [] Pq wv (v)) rfl Q2 (uq [] mS6 mT88 _ _ _ _ _ _ _ _ w47 (by simp) hz17 hz88) rfl (fun e' w2 hr=>?_) (fun v89 w48 s94 d89=>?_)
 ·obtain⟨⟨_,rfl,hd⟩,s95⟩:=hr;exact⟨_,rfl,sB s95,hd⟩
 obtain⟨S89,c89,B89,m89,n89,e89,hz89⟩:=d89;subst e89;replace hs0:=hs0.trans (s2.trans (s4.trans (s6.trans (s8.trans (s10.trans (s12.trans (s14.trans (s16.trans (s18.trans (s20.trans (s22.trans (s24.trans (s26.trans (s28.trans (s30.trans (s32.trans (s34.trans (s36.trans (s38.trans (s40.trans (s42.trans (s44.trans (s46.trans (s48.trans (s50.trans (s52.trans (s54.trans (s56.trans (s58.trans (s60.trans (s62.trans (s64.trans (s66.trans (s68.trans (s70.trans (s72.trans (s74.trans (s76.trans (s78.trans (s80.trans (s82.trans (s84.trans (s86.trans (s88.trans (s90.trans (s92.trans s94))))))))))))))))))))))))))))))))))))))))))))));have q0:=hs0.size;replace hz30:=hz30.tr0 (s12.trans (s14.trans (s16.trans (s18.trans (s20.trans (s22.trans (s24.trans (s26.trans (s28.trans (s30.trans (s32.trans (s34.trans (s36.trans (s38.trans (s40.trans (s42.trans (s44.trans (s46.trans (s48.trans (s50.trans (s52.trans (s54.trans (s56.trans (s58.trans (s60.trans (s62.trans (s64.trans (s66.trans (s68.trans (s70.trans (s72.trans (s74.trans (s76.trans (s78.trans (s80.trans (s82.trans (s84.trans (s86.trans (s88.trans (s90.trans (s92.trans s94)))))))))))))))))))))))))))))))))))))))));have q30:=hz30.le;replace hz37:=hz37.tr0 (s22.trans (s24.trans (s26.trans (s28.trans (s30.trans (s32.trans (s34.trans (s36.trans (s38.trans (s40.trans (s42.trans (s44.trans (s46.trans (s48.trans (s50.trans (s52.trans (s54.trans (s56.trans (s58.trans (s60.trans (s62.trans (s64.trans (s66.trans (s68.trans (s70.trans (s72.trans (s74.trans (s76.trans (s78.trans (s80.trans (s82.trans (s84.trans (s86.trans (s88.trans (s90.trans (s92.trans s94))))))))))))))))))))))))))))))))))));have q37:=hz37.le;replace hz40:=hz40.tr0 (s26.trans (s28.trans (s30.trans (s32.trans (s34.trans (s36.trans (s38.trans (s40.trans (s42.trans (s44.trans (s46.trans (s48.trans (s50.trans (s52.trans (s54.trans (s56.trans (s58.trans (s60.trans (s62.trans (s64.trans (s66.trans (s68.trans (s70.trans (s72.trans (s74.trans (s76.trans (s78.trans (s80.trans (s82.trans (s84.trans (s86.trans (s88.trans (s90.trans (s92.trans s94))))))))))))))))))))))))))))))))));have q40:=hz40.le;replace hz55:=hz55.tr0 (s48.trans (s50.trans (s52.trans (s54.trans (s56.trans (s58.trans (s60.trans (s62.trans (s64.trans (s66.trans (s68.trans (s70.trans (s72.trans (s74.trans (s76.trans (s78.trans (s80.trans (s82.trans (s84.trans (s86.trans (s88.trans (s90.trans (s92.trans s94)))))))))))))))))))))))
 have q55:=hz55.le;replace hz68:=hz68.tr0 (s66.trans (s68.trans (s70.trans (s72.trans (s74.trans (s76.trans (s78.trans (s80.trans (s82.trans (s84.trans (s86.trans (s88.trans (s90.trans (s92.trans s94))))))))))))));have q68:=hz68.le;have q89:=hz89.le;refine h1 rfl ?_;refine qv (cs:=#[_,_,_,_,_,_,_,_,_,_,_,_,_,_,_,_,_,_,_,_,_,_,_,_,_,_,_,_,_,_,_,_,_,_,_,_]) [(0,.agg _),(1,.agg _),(2,.agg _),(3,.agg _),(4,.agg _),(5,.agg _)] rfl U42 vJ uX dE dE kR rfl (fun b90 w49 hb90 s96 hr=>?_);have hsH66:=s96;refine zw (J5 hsH66 ?_);replace hz30:=hz30.tr0 s96;replace hz37:=hz37.tr0 s96;replace hz40:=hz40.tr0 s96;replace hz55:=hz55.tr0 s96;replace hz68:=hz68.tr0 s96;replace hz89:=hz89.tr0 s96;obtain⟨b90,S30,c30,B30,m30,S37,c37,B37,m37,S40,c40,B40,m40,S55,c55,B55,m55,S68,c68,B68,m68,S89,c89,B89,m89,e90,lo90,hb90,hz30,hz37,hz40,hz55,hz68,hz89⟩:MnR wc (.slice (some ⟨b90,0,none⟩) 6 6) w49:=⟨_,_,_,_,_,_,_,_,_,_,_,_,_,_,_,_,_,_,_,_,_,_,_,_,_,rfl,nLT q0 hr,hb90,hz30.mono (nLT q30 hr) (Nat.le_of_lt hb90.lt),hz37.mono (nLT q37 hr) (Nat.le_of_lt hb90.lt),hz40.mono (nLT q40 hr) (Nat.le_of_lt hb90.lt),hz55.mono (nLT q55 hr) (Nat.le_of_lt hb90.lt),hz68.mono (nLT q68 hr) (Nat.le_of_lt hb90.lt),hz89.mono (nLT q89 hr) (Nat.le_of_lt hb90.lt)⟩
 cases e90;refine zn2 ?_;refine e_R ⟨agA,?_⟩;replace hZ:=hZ.trans (s1.trans (s2.trans (s4.trans (s6.trans (s8.trans (s10.trans (s12.trans (s14.trans (s16.trans (s18.trans (s20.trans (s22.trans (s24.trans (s26.trans (s28.trans (s30.trans (s32.trans (s34.trans (s36.trans (s38.trans (s40.trans (s42.trans (s44.trans (s46.trans (s48.trans (s50.trans (s52.trans (s54.trans (s56.trans (s58.trans (s60.trans (s62.trans (s64.trans (s66.trans (s68.trans (s70.trans (s72.trans (s74.trans (s76.trans (s78.trans (s80.trans (s82.trans (s84.trans (s86.trans (s88.trans (s90.trans (s92.trans (s94.trans s96))))))))))))))))))))))))))))))))))))))))))))))));exact⟨hZ,b90,S30,c30,B30,m30,S37,c37,B37,m37,S40,c40,B40,m40,S55,c55,B55,m55,S68,c68,B68,m68,S89,c89,B89,m89,rfl,lo90,hb90,hz30,hz37,hz40,hz55,hz68,hz89⟩
set_option maxRecDepth 100000 in
set_option maxHeartbeats 8000000 in
theorem L8 (w:World):Calls Tryz.prog 20 #[.bool false] w fun e w'=>(∃ b vs n,e= .returned (.slice (some ⟨b,0,none⟩) 6 6)∧Blk w' b 44 vs.toArray∧TmCs n w' Qz vs)∧Bel w w':=by
 refine enT Tryz.func20 Tryz.ntmps20 rfl rfl fun hB=>?_;refine zn7 ?_;refine zJ W1 (oX _ _) rfl (fun e' w1 hr=>?_);obtain⟨rfl,s1⟩:=hr;replace s1:=sB s1;refine⟨_,rfl,?_⟩;refine zJ W1 (oX _ _) rfl (fun e' w2 hr=>?_);obtain⟨rfl,s2⟩:=hr;replace s2:=sB s2;refine⟨_,rfl,?_⟩;refine zY (cs:=#[.string ⟨#[]⟩,.slice none 0 0]) yW rfl (fun b3 w3 hb3 s3 hr=>?_);have lo3:=nLT (Bel.size hB.u) hr;refine zY (cs:=#[.string ⟨#[]⟩,.slice none 0 0]) yW rfl (fun b4 w4 hb4 s4 hr=>?_);have:=nLL hb3.lt hr;have lo4:=nLT (Bel.size hB.u) hr;refine zj hb3.u rfl rfl xz rfl zX (fun w5 hq s5=>?_);replace hb3:=hq;refine zj hb4.u rfl rfl xz rfl zX (fun w6 hq s6=>?_);replace hb4:=hq;refine zn6 ?_;refine zJ Yx (gK [] (Ts.b false) (Ts.b true) _ _ _ _ _ _ _ (by simp) (Fz.triv _ _ TS (fun _=>SimsIn.nil)) (Fz.triv _ _ TS (fun _=>SimsIn.nil))) rfl (fun e' w7 hr=>?_);obtain⟨⟨_,rfl,A14,c14,n14,rfl,hz14⟩,s7⟩:=hr;replace s7:=sB s7;refine⟨_,rfl,?_⟩;refine xW (cs:=#[.string ⟨#[]⟩,.slice none 0 0]) yW rfl (fun _=>rfl) (fun _=>rfl) xz rfl zX (fun b5 w9 hb5 s8 hr=>?_);refine zn6 ?_;replace hz14:=hz14.tr0 s8;refine zJ Yx (gK [] mS5 (Ts.b true) _ _ _ _ _ _ _ (by simp) hz14 (Fz.triv _ _ TS (fun _=>SimsIn.nil))) rfl (fun e' w10 hr=>?_);obtain⟨⟨_,rfl,A17,c17,n17,rfl,hz17⟩,s9⟩:=hr;replace s9:=sB s9;refine⟨_,rfl,?_⟩;refine xW (cs:=#[.string ⟨#[]⟩,.slice none 0 0]) yW rfl (fun _=>rfl) (fun _=>rfl) xz rfl zX (fun b6 w12 hb6 s10 hr=>?_);refine zn6 ?_;replace hz14:=hz14.tr0 (s9.trans s10);refine zJ Yx (gK [] (Ts.b false) mS5 _ _ _ _ _ _ _ (by simp) (Fz.triv _ _ TS (fun _=>SimsIn.nil)) hz14) rfl (fun e' w13 hr=>?_);obtain⟨⟨_,rfl,A20,c20,n20,rfl,hz20⟩,s11⟩:=hr;replace s11:=sB s11;refine⟨_,rfl,?_⟩;refine xW (cs:=#[.string ⟨#[]⟩,.slice none 0 0]) yW rfl (fun _=>rfl) (fun _=>rfl) xz rfl zX (fun b7 w15 hb7 s12 hr=>?_);refine zn6 ?_;replace hz17:=hz17.tr0 (s10.trans (s11.trans s12));replace hz14:=hz14.tr0 (s11.trans s12);refine zJ Yx (gK [] mS5 mS6 _ _ _ _ _ _ _ (by simp) hz14 hz17) rfl (fun e' w16 hr=>?_);obtain⟨⟨_,rfl,A23,c23,n23,rfl,hz23⟩,s13⟩:=hr;replace s13:=sB s13;refine⟨_,rfl,?_⟩;refine xW (cs:=#[.string ⟨#[]⟩,.slice none 0 0]) yW rfl (fun _=>rfl) (fun _=>rfl) xz rfl zX (fun b8 w18 hb8 s14 hr=>?_);refine zn3 ?_;refine y7 (rg [9] 24 67) (fun g w'=>Same [] w18 w'∧MnR w18 (g 9) w') ?_ (fun g6 w19 hI=>?_)
 ·replace hb3:=(hb3.tr1 s6 om).tr0 (s7.trans (s8.trans (s9.trans (s10.trans (s11.trans (s12.trans (s13.trans s14)))))));replace hb4:=hb4.tr0 (s7.trans (s8.trans (s9.trans (s10.trans (s11.trans (s12.trans (s13.trans s14)))))));replace hb5:=hb5.tr0 (s9.trans (s10.trans (s11.trans (s12.trans (s13.trans s14)))));replace hb6:=hb6.tr0 (s11.trans (s12.trans (s13.trans s14)));replace hz20:=hz20.tr0 (s12.trans (s13.trans s14));replace hz14:=hz14.tr0 (s13.trans s14);replace hz17:=hz17.tr0 (s13.trans s14);replace hb7:=hb7.tr0 (s13.trans s14);replace hz23:=hz23.tr0 s14;have hh:=fun f Q k0 k1 k2 k3 k4 k5 kq=>mean_r6 hb3 hb4 hb5 hb6 hb7 hb8 hz14 hz17 hz20 hz23 f Q k0 k1 k2 k3 k4 k5 kq
  exact hh _ _ (by rfl) (by rfl) (by rfl) (by rfl) (by rfl) (by rfl) (by intro d;cases d <;> exact fun _ _ _ _ h=>h)
 obtain⟨s15,b90,S30,c30,B30,m30,S37,c37,B37,m37,S40,c40,B40,m40,S55,c55,B55,m55,S68,c68,B68,m68,S89,c89,B89,m89,e9,lo90,hb90,hz30,hz37,hz40,hz55,hz68,hz89⟩:=hI;refine ky 9 _ e9 nu (zn7 ?_);refine vw rfl (fun c91=>?_) (fun c91=>?_)
 ·exact absurd c91 dE
 refine yw ?_;exact⟨⟨b90,_,b90,rfl,hb90,(.cons hz30 (.cons hz37 (.cons hz40 (.cons hz55 (.cons hz68 (.cons hz89 .nil))))))⟩,hB.u⟩
end Go.Proofs.YtbcpgfnfiekbiaaGreatDoor
namespace Go.Proofs.YtbcpgfnfiekbiaaGreatDoor
open Go.RowKit
def H8:List ByteArray:=[⟨#[116,111,112]⟩,⟨#[114,117,108,101]⟩,⟨#[115,105,103,110]⟩,⟨#[110,117,109]⟩,⟨#[115,105,110,103]⟩,⟨#[112,108,117,114]⟩,⟨#[115]⟩,⟨#[110,112]⟩,⟨#[118,112]⟩,⟨#[110]⟩,⟨#[100,101,116]⟩,⟨#[105,118]⟩,⟨#[116,118]⟩,⟨#[97,100,118]⟩,⟨#[99,111,110,106]⟩]
def H7:List Int:=[0,0,0,0,3,3,2,2,2,2,2,2,2,2,2]
def smallF:List Ft:=[⟨⟨#[109,111,116,104,101,114]⟩,1,2⟩,⟨⟨#[111,110,101]⟩,1,2⟩,⟨⟨#[116,119,111]⟩,1,2⟩,⟨⟨#[116,104,114,101,101]⟩,1,2⟩,⟨⟨#[110,117,109]⟩,2,3⟩]
def smallT:List Ty:=Yz H8 H7 15
def CY:RlS:=⟨⟨#[115]⟩,[[1,0,1,1,2,2,4],[6],[7,4,3],[3],[8,4,3]],2,0,(Qz[0]'dE)⟩
def CW:RlS:=⟨⟨#[110,112]⟩,[[1,0,1,1,3,2,4],[7,4,2],[3],[10,4,2],[9,4,2]],2,1,(Qz[1]'dE)⟩
def CV:RlS:=⟨⟨#[118,112,45,105,118]⟩,[[1,0,1,1,3],[8,4,2],[3],[11,4,2]],1,0,(Qz[2]'dE)⟩
def CK:RlS:=⟨⟨#[118,112,45,116,118]⟩,[[1,0,1,1,3,2,4],[8,4,2],[3],[12,4,2],[7]],2,2,(Qz[3]'dE)⟩
def CJ:RlS:=⟨⟨#[118,112,45,110,111,116]⟩,[[1,0,1,1,3,2,4],[8,4,2],[3],[13],[8,4,2]],2,3,(Qz[4]'dE)⟩
def CX:RlS:=⟨⟨#[110,112,45,97,110,100]⟩,[[1,0,1,1,3,2,4,3,5],[7,4,2],[5],[7],[14],[7]],3,4,(Qz[5]'dE)⟩
def smallRs:List RlS:=[CY,CW,CV,CK,CJ,CX]
def smallR:List Rl:=smallRs.map RlS.rl
def smallW0:LxS:=⟨⟨#[101,118,101,114,121]⟩,[[10,4,1],[4]],1,(quN ⟨#[97,108,108]⟩ ⟨#[105,102]⟩)⟩
def smallW1:LxS:=⟨⟨#[97]⟩,[[10,4,1],[4]],0,(quN ⟨#[115,111,109,101]⟩ ⟨#[97,110,100]⟩)⟩
def smallW2:LxS:=⟨⟨#[110,111]⟩,[[10]],2,(quY ⟨#[115,111,109,101]⟩ ⟨#[97,110,100]⟩)⟩
def smallW3:LxS:=⟨⟨#[100,111,103]⟩,[[9,4,1],[4]],0,(Tv.con ⟨#[100,111,103]⟩ tyET)⟩
def smallW4:LxS:=⟨⟨#[100,111,103,115]⟩,[[9,4,1],[5]],0,(Tv.con ⟨#[100,111,103]⟩ tyET)⟩
def smallW5:LxS:=⟨⟨#[99,97,116]⟩,[[9,4,1],[4]],0,(Tv.con ⟨#[99,97,116]⟩ tyET)⟩
def smallW6:LxS:=⟨⟨#[99,97,116,115]⟩,[[9,4,1],[5]],0,(Tv.con ⟨#[99,97,116]⟩ tyET)⟩
def smallW7:LxS:=⟨⟨#[102,105,115,104]⟩,[[9,4,1],[4]],1,(Tv.con ⟨#[102,105,115,104]⟩ tyET)⟩
def smallW8:LxS:=⟨⟨#[102,105,115,104]⟩,[[9,4,1],[5]],2,(Tv.con ⟨#[102,105,115,104]⟩ tyET)⟩
def smallW9:LxS:=⟨⟨#[98,97,114,107,115]⟩,[[11,4,1],[4]],0,(Tv.con ⟨#[98,97,114,107]⟩ tyET)⟩
def smallW10:LxS:=⟨⟨#[98,97,114,107]⟩,[[11,4,1],[5]],0,(Tv.con ⟨#[98,97,114,107]⟩ tyET)⟩
def smallW11:LxS:=⟨⟨#[115,108,101,101,112,115]⟩,[[11,4,1],[4]],0,(Tv.con ⟨#[115,108,101,101,112]⟩ tyET)⟩
def smallW12:LxS:=⟨⟨#[115,108,101,101,112]⟩,[[11,4,1],[5]],0,(Tv.con ⟨#[115,108,101,101,112]⟩ tyET)⟩
def smallW13:LxS:=⟨⟨#[99,104,97,115,101,115]⟩,[[12,4,1],[4]],0,(Tv.con ⟨#[99,104,97,115,101]⟩ tyEET)⟩
def smallW14:LxS:=⟨⟨#[99,104,97,115,101]⟩,[[12,4,1],[5]],0,(Tv.con ⟨#[99,104,97,115,101]⟩ tyEET)⟩
def smallW15:LxS:=⟨⟨#[115,101,101,115]⟩,[[12,4,1],[4]],1,(Tv.con ⟨#[115,101,101]⟩ tyEET)⟩
def smallW16:LxS:=⟨⟨#[115,101,101]⟩,[[12,4,1],[5]],1,(Tv.con ⟨#[115,101,101]⟩ tyEET)⟩
def smallW17:LxS:=⟨⟨#[110,111,116]⟩,[[13]],0,(Tv.con ⟨#[110,111,116]⟩ (Ts.f (Ts.b true) (Ts.b true)))⟩
def smallW18:LxS:=⟨⟨#[97,110,100]⟩,[[14]],0,(Tv.con ⟨#[97,110,100]⟩ (Ts.f (Ts.b true) (Ts.f (Ts.b true) (Ts.b true))))⟩
def smallW19:LxS:=⟨⟨#[114,101,120]⟩,[[7,4,1],[4]],0,(Tv.abs tyET (Tv.app (Tv.var 0) (Tv.con ⟨#[114,101,120]⟩ (Ts.b false))))⟩
def smallW20:LxS:=⟨⟨#[109,105,97]⟩,[[7,4,1],[4]],0,(Tv.abs tyET (Tv.app (Tv.var 0) (Tv.con ⟨#[109,105,97]⟩ (Ts.b false))))⟩
def smallXs:List LxS:=[smallW0,smallW1,smallW2,smallW3,smallW4,smallW5,smallW6,smallW7,smallW8,smallW9,smallW10,smallW11,smallW12,smallW13,smallW14,smallW15,smallW16,smallW17,smallW18,smallW19,smallW20]
def Ny:List Lx:=[]
def KK:List Lx:=Ny ++ [smallW0.lx]
def KJ:List Lx:=KK ++ [smallW1.lx]
def KX:List Lx:=KJ ++ [smallW2.lx]
def KQ:List Lx:=KX ++ [smallW3.lx]
def KZ:List Lx:=KQ ++ [smallW4.lx]
def Ky:List Lx:=KZ ++ [smallW5.lx]
def Kv:List Lx:=Ky ++ [smallW6.lx]
def Kk:List Lx:=Kv ++ [smallW7.lx]
def Kj:List Lx:=Kk ++ [smallW8.lx]
def V4:List Lx:=Kj ++ [smallW9.lx]
def V3:List Lx:=V4 ++ [smallW10.lx]
def V2:List Lx:=V3 ++ [smallW11.lx]
def V1:List Lx:=V2 ++ [smallW12.lx]
def V0:List Lx:=V1 ++ [smallW13.lx]
def YY:List Lx:=V0 ++ [smallW14.lx]
def YW:List Lx:=YY ++ [smallW15.lx]
def YV:List Lx:=YW ++ [smallW16.lx]
def YK:List Lx:=YV ++ [smallW17.lx]
def YJ:List Lx:=YK ++ [smallW18.lx]
def YX:List Lx:=YJ ++ [smallW19.lx]
def O0:List Lx:=YX ++ [smallW20.lx]
def smallX:List Lx:=O0
def smallS:List Nd:=([[6]]:List (List Int)).map Yq
theorem sz26_DSmA:(Tryz.prog.info? 26).map (·.size)=some 1:=by kernel_rfl
theorem sz54_DSmA:(Tryz.prog.info? 54).map (·.size)=some 10:=by kernel_rfl
theorem ze54_DSmA:(Tryz.prog.info? 54).map (·.zero)=some (some (.agg #[.string ⟨#[]⟩,.slice none 0 0,.int .i64 0,.int .i64 0,.int .i64 0,.string ⟨#[]⟩,.int .i64 0,.string ⟨#[]⟩,.slice none 0 0,.slice none 0 0])):=by kernel_rfl
theorem xj:(Tryz.prog.info? 66).map (·.zero)=some (some (.slice none 0 0)):=by kernel_rfl
variable {w wc:World} {b0 b1 b2 b3 b4 b5 b23 b93 base capt c12 c15:Nat} {At A12 A15:Option Addr} {cr:Array Value}
set_option maxHeartbeats 4000000 in
theorem small_r7 {bm nm:Nat} {csm:List Value} (hb5:Blk wc b5 32 #[.slice At 15 capt,.slice (some ⟨b23,0,none⟩) 5 5,.slice none 0 0,.slice none 0 0,.slice none 0 0]) (hbm:Blk wc bm 44 csm.toArray) (hTm:TmCs nm wc Qz csm)  (f:Fr) (Q:Exit→Act→World→Prop) (k6:f 6= .slice (some ⟨bm,0,none⟩) 6 6) (k5:f 5= .pointer (some ⟨b5,0,none⟩)) (hPQ:PQ Q):WC Tryz.prog (sl (sr (sr (sr (sr (sr (sr (sr (ob Tryz.f5.body))))))))) (QRS 256 [27,28,29,30,31,32,33,34,35,36,37,38,39,40,41,42,43,44,45,46,47,48,49,50,51,52,53,54,55,56,57,58,59,60,61,62,63,64,65,66,67,68,69,70,71,72,73,74,75,76,77,78,79,80,81,82,83,84,85,86,87,88,89,90,91,92,93,94] f (fun _ w'=>Same [b5] wc w'∧∃ b93 cr nRl,wc.heap.size≤b93∧Blk w' b93 54 cr∧Fz [] nRl TS w' (fun w=>RlCs w smallR cr.toList)∧Blk w' b5 32 #[.slice At 15 capt,.slice (some ⟨b23,0,none⟩) 5 5,.slice (some ⟨b93,0,none⟩) 6 6,.slice none 0 0,.slice none 0 0]) Q) 256 f wc:=by
 have hZ:Same [b5] wc wc:=(Same.refl [] wc).weak (by simp);refine zQ 6 _ k6 nu (zQ 5 _ k5 nu ?_);have z5:=hb5.lt;refine jZ 67 [27,28,29,30,31,32,33,34,35,36,37,38,39,40,41,42,43,44,45,46,47,48,49,50,51,52,53,54,55,56,57,58,59,60,61,62,63,64,65,66,67,68,69,70,71,72,73,74,75,76,77,78,79,80,81,82,83,84,85,86,87,88,89,90,91,92,93] (fun ix=>Nat.beq ix 66) (fun ix v wv=>match ix with | 0=>v= .slice (some ⟨bm,0,none⟩) 6 6 | 1=>v= .pointer (some ⟨bm,0 + 0 * 6,none⟩) | 2=>TmD [] (Qz[0]'dE) wv (v) | 3=>IsP [1,0,1,1,2,2,4] wv (v) | 4=>IsP [6] wv (v) | 5=>IsP [7,4,3] wv (v) | 6=>IsP [3] wv (v) | 7=>IsP [8,4,3] wv (v) | 8=>RsP [[1,0,1,1,2,2,4],[6],[7,4,3],[3],[8,4,3]] wv (v) | 9=>GrP [[1,0,1,1,2,2,4],[6],[7,4,3],[3],[8,4,3]] wv (v) | 10=>RlP CY wv (v) | 11=>v= .slice (some ⟨bm,0,none⟩) 6 6 | 12=>v= .pointer (some ⟨bm,0 + 1 * 6,none⟩) | 13=>TmD [] (Qz[1]'dE) wv (v) | 14=>IsP [1,0,1,1,3,2,4] wv (v) | 15=>IsP [7,4,2] wv (v) | 16=>IsP [3] wv (v) | 17=>IsP [10,4,2] wv (v) | 18=>IsP [9,4,2] wv (v) | 19=>RsP [[1,0,1,1,3,2,4],[7,4,2],[3],[10,4,2],[9,4,2]] wv (v) | 20=>GrP [[1,0,1,1,3,2,4],[7,4,2],[3],[10,4,2],[9,4,2]] wv (v) | 21=>RlP CW wv (v) | 22=>v= .slice (some ⟨bm,0,none⟩) 6 6 | 23=>v= .pointer (some ⟨bm,0 + 2 * 6,none⟩) | 24=>TmD [] (Qz[2]'dE) wv (v) | 25=>IsP [1,0,1,1,3] wv (v) | 26=>IsP [8,4,2] wv (v) | 27=>IsP [3] wv (v) | 28=>IsP [11,4,2] wv (v) | 29=>RsP [[1,0,1,1,3],[8,4,2],[3],[11,4,2]] wv (v) | 30=>GrP [[1,0,1,1,3],[8,4,2],[3],[11,4,2]] wv (v) | 31=>RlP CV wv (v) | 32=>v= .slice (some ⟨bm,0,none⟩) 6 6 | 33=>v= .pointer (some ⟨bm,0 + 3 * 6,none⟩) | 34=>TmD [] (Qz[3]'dE) wv (v) | 35=>IsP [1,0,1,1,3,2,4] wv (v) | 36=>IsP [8,4,2] wv (v) | 37=>IsP [3] wv (v) | 38=>IsP [12,4,2] wv (v) | 39=>IsP [7] wv (v) | 40=>RsP [[1,0,1,1,3,2,4],[8,4,2],[3],[12,4,2],[7]] wv (v) | 41=>GrP [[1,0,1,1,3,2,4],[8,4,2],[3],[12,4,2],[7]] wv (v) | 42=>RlP CK wv (v) | 43=>v= .slice (some ⟨bm,0,none⟩) 6 6 | 44=>v= .pointer (some ⟨bm,0 + 4 * 6,none⟩) | 45=>TmD [] (Qz[4]'dE) wv (v) | 46=>IsP [1,0,1,1,3,2,4] wv (v) | 47=>IsP [8,4,2] wv (v) | 48=>IsP [3] wv (v) | 49=>IsP [13] wv (v) | 50=>IsP [8,4,2] wv (v) | 51=>RsP [[1,0,1,1,3,2,4],[8,4,2],[3],[13],[8,4,2]] wv (v) | 52=>GrP [[1,0,1,1,3,2,4],[8,4,2],[3],[13],[8,4,2]] wv (v) | 53=>RlP CJ wv (v) | 54=>v= .slice (some ⟨bm,0,none⟩) 6 6 | 55=>v= .pointer (some ⟨bm,0 + 5 * 6,none⟩) | 56=>TmD [] (Qz[5]'dE) wv (v) | 57=>IsP [1,0,1,1,3,2,4,3,5] wv (v) | 58=>IsP [7,4,2] wv (v) | 59=>IsP [5] wv (v) | 60=>IsP [7] wv (v) | 61=>IsP [14] wv (v) | 62=>IsP [7] wv (v) | 63=>RsP [[1,0,1,1,3,2,4,3,5],[7,4,2],[5],[7],[14],[7]] wv (v) | 64=>GrP [[1,0,1,1,3,2,4,3,5],[7,4,2],[5],[7],[14],[7]] wv (v) | 65=>RlP CX wv (v) | 66=>∃ b cs n,v= .slice (some ⟨b,0,none⟩) 6 6∧wc.heap.size≤b∧Blk wv b 54 cs∧Fz [] n TS wv (fun w=>RlCs w smallR cs.toList) | _=>True) kR kR ?_ ?_ ?_
 ·intro ix v wv wv2 h s1
  match ix,h with
  | 0,h=>exact h
  | 1,h=>exact h
  | 2,h=>
   exact TmD.tr0 h s1
  | 3,h=>
   exact IsP.tr0 h s1
  | 4,h=>
   exact IsP.tr0 h s1
  | 5,h=>
   exact IsP.tr0 h s1
  | 6,h=>
   exact IsP.tr0 h s1
  | 7,h=>
   exact IsP.tr0 h s1
  | 8,h=>
   exact RsP.tr0 h s1
  | 9,h=>
   exact GrP.tr0 h s1
  | 10,h=>
   exact RlP.tr0 h s1
  | 11,h=>exact h
  | 12,h=>exact h
  | 13,h=>
   exact TmD.tr0 h s1
  | 14,h=>
   exact IsP.tr0 h s1
  | 15,h=>
   exact IsP.tr0 h s1
  | 16,h=>
   exact IsP.tr0 h s1
  | 17,h=>
   exact IsP.tr0 h s1
  | 18,h=>
   exact IsP.tr0 h s1
  | 19,h=>
   exact RsP.tr0 h s1
  | 20,h=>
   exact GrP.tr0 h s1
  | 21,h=>
   exact RlP.tr0 h s1
  | 22,h=>exact h
  | 23,h=>exact h
  | 24,h=>
   exact TmD.tr0 h s1
  | 25,h=>
   exact IsP.tr0 h s1
  | 26,h=>
   exact IsP.tr0 h s1
  | 27,h=>
   exact IsP.tr0 h s1
  | 28,h=>
   exact IsP.tr0 h s1
  | 29,h=>
   exact RsP.tr0 h s1
  | 30,h=>
   exact GrP.tr0 h s1
  | 31,h=>
   exact RlP.tr0 h s1
  | 32,h=>exact h
  | 33,h=>exact h
  | 34,h=>
   exact TmD.tr0 h s1
  | 35,h=>
   exact IsP.tr0 h s1
  | 36,h=>
   exact IsP.tr0 h s1
  | 37,h=>
   exact IsP.tr0 h s1
  | 38,h=>
   exact IsP.tr0 h s1
  | 39,h=>
   exact IsP.tr0 h s1
  | 40,h=>
   exact RsP.tr0 h s1
  | 41,h=>
   exact GrP.tr0 h s1
  | 42,h=>
   exact RlP.tr0 h s1
  | 43,h=>exact h
  | 44,h=>exact h
  | 45,h=>
   exact TmD.tr0 h s1
  | 46,h=>
   exact IsP.tr0 h s1
  | 47,h=>
   exact IsP.tr0 h s1
  | 48,h=>
   exact IsP.tr0 h s1
  | 49,h=>
   exact IsP.tr0 h s1
  | 50,h=>
   exact IsP.tr0 h s1
  | 51,h=>
   exact RsP.tr0 h s1
  | 52,h=>
   exact GrP.tr0 h s1
  | 53,h=>
   exact RlP.tr0 h s1
  | 54,h=>exact h
  | 55,h=>exact h
  | 56,h=>
   exact TmD.tr0 h s1
  | 57,h=>
   exact IsP.tr0 h s1
  | 58,h=>
   exact IsP.tr0 h s1
  | 59,h=>
   exact IsP.tr0 h s1
  | 60,h=>
   exact IsP.tr0 h s1
  | 61,h=>
   exact IsP.tr0 h s1
  | 62,h=>
   exact IsP.tr0 h s1
  | 63,h=>
   exact RsP.tr0 h s1
  | 64,h=>
   exact GrP.tr0 h s1
  | 65,h=>
   exact RlP.tr0 h s1
  | 66,h=>
   obtain⟨b93,cr,nRl,e93,lo93,hb93,hRl⟩:=h;exact⟨b93,cr,nRl,e93,lo93,hb93.tr0 s1,hRl.tr0 s1⟩
  | _ + 67,h=>exact trivial
 ·intro ix o hix hoq gg wx s2 hd hdis
  match ix,hix,hoq with
  | 0,_,hoq=>
   cases sI hoq;exact oVq (xZ (v:= .slice _ _ _) rfl) rfl
  | 1,_,hoq=>
   cases sI hoq;refine zz 27 _ (hd 0 (zq kR)) nu ?_;exact oVq (xw (i:=0) U42 jY rfl rfl dE rfl) rfl
  | 2,_,hoq=>
   cases sI hoq;replace hbm:=hbm.tr0 s2;replace hTm:=hTm.tr0 s2;obtain⟨S0,B0,c0,d0,hrg,hz0⟩:=hTm.at_ hbm (k:=0) dE;refine zz 28 _ (hd 1 (zq kR)) nu ?_;exact oVq (zV U44 rfl rfl hrg jY) ⟨_,_,_,_,_,rfl,hz0⟩
  | 3,_,hoq=>
   cases sI hoq;exact vV [1,0,1,1,2,2,4] rfl U66 qq qz
  | 4,_,hoq=>
   cases sI hoq;exact vV [6] rfl U66 qq qz
  | 5,_,hoq=>
   cases sI hoq;exact vV [7,4,3] rfl U66 qq qz
  | 6,_,hoq=>
   cases sI hoq;exact vV [3] rfl U66 qq qz
  | 7,_,hoq=>
   cases sI hoq;exact vV [8,4,3] rfl U66 qq qz
  | 8,_,hoq=>
   cases sI hoq;obtain⟨b30,e30,hin30⟩:=hd 3 (zq kR);obtain⟨b31,e31,hin31⟩:=hd 4 (zq kR);obtain⟨b32,e32,hin32⟩:=hd 5 (zq kR);obtain⟨b33,e33,hin33⟩:=hd 6 (zq kR);obtain⟨b34,e34,hin34⟩:=hd 7 (zq kR);refine zz 30 _ e30 nu (zz 31 _ e31 nu (zz 32 _ e32 nu (zz 33 _ e33 nu (zz 34 _ e34 nu ?_))));refine vK (fun ops Q K=>?_);refine qv (cs:=#[_,_,_,_,_]) [(0,.slice _ _ _),(1,.slice _ _ _),(2,.slice _ _ _),(3,.slice _ _ _),(4,.slice _ _ _)] rfl U71 xY xj dE dE kR rfl (fun b35 w1 hb35 s3 hr=>?_);exact K _ _ ⟨s3,⟨_,rfl,qJ (rs:=[[1,0,1,1,2,2,4],[6],[7,4,3],[3],[8,4,3]]) hb35 (.cons ⟨_,_,rfl,(hin30.mono s3.bel),by decide,by decide⟩ (.cons ⟨_,_,rfl,(hin31.mono s3.bel),by decide,by decide⟩ (.cons ⟨_,_,rfl,(hin32.mono s3.bel),by decide,by decide⟩ (.cons ⟨_,_,rfl,(hin33.mono s3.bel),by decide,by decide⟩ (.cons ⟨_,_,rfl,(hin34.mono s3.bel),by decide,by decide⟩ .nil))))) dE⟩,fRq hr hb35.lt⟩
  | 9,_,hoq=>
   cases sI hoq;obtain⟨b35,e35,hrw35⟩:=hd 8 (zq kR);refine zz 35 _ e35 nu ?_;refine yK W0 (oZ _ _ [[1,0,1,1,2,2,4],[6],[7,4,3],[3],[8,4,3]] wx hrw35) rfl (fun e' w2 hr=>?_);obtain⟨⟨G9,c9,rfl,hy9⟩,s4⟩:=hr;exact⟨_,rfl,sB s4,⟨G9,c9,_,rfl,hy9⟩,xq⟩
  | 10,_,hoq=>
   cases sI hoq;obtain⟨S29,c29,B29,m29,n29,e29,hz29⟩:=hd 2 (zq kR);obtain⟨G36,c36,n36,e36,hy36⟩:=hd 9 (zq kR);refine zz 29 _ e29 nu (zz 36 _ e36 nu ?_);exact oVq (r_bd4 (v0:= .string _) (v1:= .int _ _) (v2:= .agg _) (v3:= .agg _) (fun v0 v1 v2 v3=>#[v0,(qy v3 0),v1,.int .i64 0,(qy v2 0),(qy v2 1),(qy v2 2),(qy v2 3),(qy v2 4),(qy v2 5)]) rfl rfl rfl rfl kR) ⟨_,_,_,_,_,_,_,_,rfl,hy36,hz29⟩
  | 11,_,hoq=>
   cases sI hoq;exact oVq (xZ (v:= .slice _ _ _) rfl) rfl
  | 12,_,hoq=>
   cases sI hoq;refine zz 38 _ (hd 11 (zq kR)) nu ?_;exact oVq (xw (i:=1) U42 jY rfl rfl dE rfl) rfl
  | 13,_,hoq=>
   cases sI hoq;replace hbm:=hbm.tr0 s2;replace hTm:=hTm.tr0 s2;obtain⟨S0,B0,c0,d0,hrg,hz0⟩:=hTm.at_ hbm (k:=1) dE;refine zz 39 _ (hd 12 (zq kR)) nu ?_;exact oVq (zV U44 rfl rfl hrg jY) ⟨_,_,_,_,_,rfl,hz0⟩
  | 14,_,hoq=>
   cases sI hoq;exact vV [1,0,1,1,3,2,4] rfl U66 qq qz
  | 15,_,hoq=>
   cases sI hoq;exact vV [7,4,2] rfl U66 qq qz
  | 16,_,hoq=>
   cases sI hoq;exact vV [3] rfl U66 qq qz
  | 17,_,hoq=>
   cases sI hoq;exact vV [10,4,2] rfl U66 qq qz
  | 18,_,hoq=>
   cases sI hoq;exact vV [9,4,2] rfl U66 qq qz
  | 19,_,hoq=>
   cases sI hoq;obtain⟨b41,e41,hin41⟩:=hd 14 (zq kR);obtain⟨b42,e42,hin42⟩:=hd 15 (zq kR);obtain⟨b43,e43,hin43⟩:=hd 16 (zq kR);obtain⟨b44,e44,hin44⟩:=hd 17 (zq kR);obtain⟨b45,e45,hin45⟩:=hd 18 (zq kR);refine zz 41 _ e41 nu (zz 42 _ e42 nu (zz 43 _ e43 nu (zz 44 _ e44 nu (zz 45 _ e45 nu ?_))));refine vK (fun ops Q K=>?_);refine qv (cs:=#[_,_,_,_,_]) [(0,.slice _ _ _),(1,.slice _ _ _),(2,.slice _ _ _),(3,.slice _ _ _),(4,.slice _ _ _)] rfl U71 xY xj dE dE kR rfl (fun b46 w2 hb46 s5 hr=>?_);exact K _ _ ⟨s5,⟨_,rfl,qJ (rs:=[[1,0,1,1,3,2,4],[7,4,2],[3],[10,4,2],[9,4,2]]) hb46 (.cons ⟨_,_,rfl,(hin41.mono s5.bel),by decide,by decide⟩ (.cons ⟨_,_,rfl,(hin42.mono s5.bel),by decide,by decide⟩ (.cons ⟨_,_,rfl,(hin43.mono s5.bel),by decide,by decide⟩ (.cons ⟨_,_,rfl,(hin44.mono s5.bel),by decide,by decide⟩ (.cons ⟨_,_,rfl,(hin45.mono s5.bel),by decide,by decide⟩ .nil))))) dE⟩,fRq hr hb46.lt⟩
  | 20,_,hoq=>
   cases sI hoq;obtain⟨b46,e46,hrw46⟩:=hd 19 (zq kR);refine zz 46 _ e46 nu ?_;refine yK W0 (oZ _ _ [[1,0,1,1,3,2,4],[7,4,2],[3],[10,4,2],[9,4,2]] wx hrw46) rfl (fun e' w2 hr=>?_);obtain⟨⟨G9,c9,rfl,hy9⟩,s6⟩:=hr;exact⟨_,rfl,sB s6,⟨G9,c9,_,rfl,hy9⟩,xq⟩
  | 21,_,hoq=>
   cases sI hoq;obtain⟨S40,c40,B40,m40,n40,e40,hz40⟩:=hd 13 (zq kR);obtain⟨G47,c47,n47,e47,hy47⟩:=hd 20 (zq kR);refine zz 40 _ e40 nu (zz 47 _ e47 nu ?_);exact oVq (RQ (v0:= .string _) (v1:= .int _ _) (v2:= .int _ _) (v3:= .agg _) (v4:= .agg _) (fun v0 v1 v2 v3 v4=>#[v0,(qy v4 0),v1,v2,(qy v3 0),(qy v3 1),(qy v3 2),(qy v3 3),(qy v3 4),(qy v3 5)]) rfl rfl rfl rfl rfl kR) ⟨_,_,_,_,_,_,_,_,rfl,hy47,hz40⟩
  | 22,_,hoq=>
   cases sI hoq;exact oVq (xZ (v:= .slice _ _ _) rfl) rfl
  | 23,_,hoq=>
   cases sI hoq;refine zz 49 _ (hd 22 (zq kR)) nu ?_;exact oVq (xw (i:=2) U42 jY rfl rfl dE rfl) rfl
  | 24,_,hoq=>
   cases sI hoq;replace hbm:=hbm.tr0 s2;replace hTm:=hTm.tr0 s2;obtain⟨S0,B0,c0,d0,hrg,hz0⟩:=hTm.at_ hbm (k:=2) dE;refine zz 50 _ (hd 23 (zq kR)) nu ?_;exact oVq (zV U44 rfl rfl hrg jY) ⟨_,_,_,_,_,rfl,hz0⟩
  | 25,_,hoq=>
   cases sI hoq;exact vV [1,0,1,1,3] rfl U66 qq qz
  | 26,_,hoq=>
   cases sI hoq;exact vV [8,4,2] rfl U66 qq qz
  | 27,_,hoq=>
   cases sI hoq;exact vV [3] rfl U66 qq qz
  | 28,_,hoq=>
   cases sI hoq;exact vV [11,4,2] rfl U66 qq qz
  | 29,_,hoq=>
   cases sI hoq;obtain⟨b52,e52,hin52⟩:=hd 25 (zq kR);obtain⟨b53,e53,hin53⟩:=hd 26 (zq kR);obtain⟨b54,e54,hin54⟩:=hd 27 (zq kR);obtain⟨b55,e55,hin55⟩:=hd 28 (zq kR);refine zz 52 _ e52 nu (zz 53 _ e53 nu (zz 54 _ e54 nu (zz 55 _ e55 nu ?_)));refine vK (fun ops Q K=>?_);refine qv (cs:=#[_,_,_,_]) [(0,.slice _ _ _),(1,.slice _ _ _),(2,.slice _ _ _),(3,.slice _ _ _)] rfl U71 xY xj dE dE kR rfl (fun b56 w3 hb56 s7 hr=>?_);exact K _ _ ⟨s7,⟨_,rfl,qJ (rs:=[[1,0,1,1,3],[8,4,2],[3],[11,4,2]]) hb56 (.cons ⟨_,_,rfl,(hin52.mono s7.bel),by decide,by decide⟩ (.cons ⟨_,_,rfl,(hin53.mono s7.bel),by decide,by decide⟩ (.cons ⟨_,_,rfl,(hin54.mono s7.bel),by decide,by decide⟩ (.cons ⟨_,_,rfl,(hin55.mono s7.bel),by decide,by decide⟩ .nil)))) dE⟩,fRq hr hb56.lt⟩
  | 30,_,hoq=>
   cases sI hoq;obtain⟨b56,e56,hrw56⟩:=hd 29 (zq kR);refine zz 56 _ e56 nu ?_;refine yK W0 (oZ _ _ [[1,0,1,1,3],[8,4,2],[3],[11,4,2]] wx hrw56) rfl (fun e' w2 hr=>?_);obtain⟨⟨G9,c9,rfl,hy9⟩,s8⟩:=hr;exact⟨_,rfl,sB s8,⟨G9,c9,_,rfl,hy9⟩,xq⟩
  | 31,_,hoq=>
   cases sI hoq;obtain⟨S51,c51,B51,m51,n51,e51,hz51⟩:=hd 24 (zq kR);obtain⟨G57,c57,n57,e57,hy57⟩:=hd 30 (zq kR);refine zz 51 _ e51 nu (zz 57 _ e57 nu ?_);exact oVq (r_bd4 (v0:= .string _) (v1:= .int _ _) (v2:= .agg _) (v3:= .agg _) (fun v0 v1 v2 v3=>#[v0,(qy v3 0),v1,.int .i64 0,(qy v2 0),(qy v2 1),(qy v2 2),(qy v2 3),(qy v2 4),(qy v2 5)]) rfl rfl rfl rfl kR) ⟨_,_,_,_,_,_,_,_,rfl,hy57,hz51⟩
  | 32,_,hoq=>
   cases sI hoq;exact oVq (xZ (v:= .slice _ _ _) rfl) rfl
  | 33,_,hoq=>
   cases sI hoq;refine zz 59 _ (hd 32 (zq kR)) nu ?_;exact oVq (xw (i:=3) U42 jY rfl rfl dE rfl) rfl
  | 34,_,hoq=>
   cases sI hoq;replace hbm:=hbm.tr0 s2;replace hTm:=hTm.tr0 s2;obtain⟨S0,B0,c0,d0,hrg,hz0⟩:=hTm.at_ hbm (k:=3) dE;refine zz 60 _ (hd 33 (zq kR)) nu ?_;exact oVq (zV U44 rfl rfl hrg jY) ⟨_,_,_,_,_,rfl,hz0⟩
  | 35,_,hoq=>
   cases sI hoq;exact vV [1,0,1,1,3,2,4] rfl U66 qq qz
  | 36,_,hoq=>
   cases sI hoq;exact vV [8,4,2] rfl U66 qq qz
  | 37,_,hoq=>
   cases sI hoq;exact vV [3] rfl U66 qq qz
  | 38,_,hoq=>
   cases sI hoq;exact vV [12,4,2] rfl U66 qq qz
  | 39,_,hoq=>
   cases sI hoq;exact vV [7] rfl U66 qq qz
  | 40,_,hoq=>
   cases sI hoq;obtain⟨b62,e62,hin62⟩:=hd 35 (zq kR);obtain⟨b63,e63,hin63⟩:=hd 36 (zq kR);obtain⟨b64,e64,hin64⟩:=hd 37 (zq kR);obtain⟨b65,e65,hin65⟩:=hd 38 (zq kR);obtain⟨b66,e66,hin66⟩:=hd 39 (zq kR);refine zz 62 _ e62 nu (zz 63 _ e63 nu (zz 64 _ e64 nu (zz 65 _ e65 nu (zz 66 _ e66 nu ?_))));refine vK (fun ops Q K=>?_);refine qv (cs:=#[_,_,_,_,_]) [(0,.slice _ _ _),(1,.slice _ _ _),(2,.slice _ _ _),(3,.slice _ _ _),(4,.slice _ _ _)] rfl U71 xY xj dE dE kR rfl (fun b67 w4 hb67 s9 hr=>?_);exact K _ _ ⟨s9,⟨_,rfl,qJ (rs:=[[1,0,1,1,3,2,4],[8,4,2],[3],[12,4,2],[7]]) hb67 (.cons ⟨_,_,rfl,(hin62.mono s9.bel),by decide,by decide⟩ (.cons ⟨_,_,rfl,(hin63.mono s9.bel),by decide,by decide⟩ (.cons ⟨_,_,rfl,(hin64.mono s9.bel),by decide,by decide⟩ (.cons ⟨_,_,rfl,(hin65.mono s9.bel),by decide,by decide⟩ (.cons ⟨_,_,rfl,(hin66.mono s9.bel),by decide,by decide⟩ .nil))))) dE⟩,fRq hr hb67.lt⟩
  | 41,_,hoq=>
   cases sI hoq;obtain⟨b67,e67,hrw67⟩:=hd 40 (zq kR);refine zz 67 _ e67 nu ?_;refine yK W0 (oZ _ _ [[1,0,1,1,3,2,4],[8,4,2],[3],[12,4,2],[7]] wx hrw67) rfl (fun e' w2 hr=>?_);obtain⟨⟨G9,c9,rfl,hy9⟩,s10⟩:=hr;exact⟨_,rfl,sB s10,⟨G9,c9,_,rfl,hy9⟩,xq⟩
  | 42,_,hoq=>
   cases sI hoq;obtain⟨S61,c61,B61,m61,n61,e61,hz61⟩:=hd 34 (zq kR);obtain⟨G68,c68,n68,e68,hy68⟩:=hd 41 (zq kR);refine zz 61 _ e61 nu (zz 68 _ e68 nu ?_);exact oVq (RQ (v0:= .string _) (v1:= .int _ _) (v2:= .int _ _) (v3:= .agg _) (v4:= .agg _) (fun v0 v1 v2 v3 v4=>#[v0,(qy v4 0),v1,v2,(qy v3 0),(qy v3 1),(qy v3 2),(qy v3 3),(qy v3 4),(qy v3 5)]) rfl rfl rfl rfl rfl kR) ⟨_,_,_,_,_,_,_,_,rfl,hy68,hz61⟩
  | 43,_,hoq=>
   cases sI hoq;exact oVq (xZ (v:= .slice _ _ _) rfl) rfl
  | 44,_,hoq=>
   cases sI hoq;refine zz 70 _ (hd 43 (zq kR)) nu ?_;exact oVq (xw (i:=4) U42 jY rfl rfl dE rfl) rfl
  | 45,_,hoq=>
   cases sI hoq;replace hbm:=hbm.tr0 s2;replace hTm:=hTm.tr0 s2;obtain⟨S0,B0,c0,d0,hrg,hz0⟩:=hTm.at_ hbm (k:=4) dE;refine zz 71 _ (hd 44 (zq kR)) nu ?_;exact oVq (zV U44 rfl rfl hrg jY) ⟨_,_,_,_,_,rfl,hz0⟩
  | 46,_,hoq=>
   cases sI hoq;exact vV [1,0,1,1,3,2,4] rfl U66 qq qz
  | 47,_,hoq=>
   cases sI hoq;exact vV [8,4,2] rfl U66 qq qz
  | 48,_,hoq=>
   cases sI hoq;exact vV [3] rfl U66 qq qz
  | 49,_,hoq=>
   cases sI hoq;exact vV [13] rfl U66 qq qz
  | 50,_,hoq=>
   cases sI hoq;exact vV [8,4,2] rfl U66 qq qz
  | 51,_,hoq=>
   cases sI hoq;obtain⟨b73,e73,hin73⟩:=hd 46 (zq kR);obtain⟨b74,e74,hin74⟩:=hd 47 (zq kR);obtain⟨b75,e75,hin75⟩:=hd 48 (zq kR);obtain⟨b76,e76,hin76⟩:=hd 49 (zq kR);obtain⟨b77,e77,hin77⟩:=hd 50 (zq kR);refine zz 73 _ e73 nu (zz 74 _ e74 nu (zz 75 _ e75 nu (zz 76 _ e76 nu (zz 77 _ e77 nu ?_))));refine vK (fun ops Q K=>?_);refine qv (cs:=#[_,_,_,_,_]) [(0,.slice _ _ _),(1,.slice _ _ _),(2,.slice _ _ _),(3,.slice _ _ _),(4,.slice _ _ _)] rfl U71 xY xj dE dE kR rfl (fun b78 w5 hb78 s11 hr=>?_);exact K _ _ ⟨s11,⟨_,rfl,qJ (rs:=[[1,0,1,1,3,2,4],[8,4,2],[3],[13],[8,4,2]]) hb78 (.cons ⟨_,_,rfl,(hin73.mono s11.bel),by decide,by decide⟩ (.cons ⟨_,_,rfl,(hin74.mono s11.bel),by decide,by decide⟩ (.cons ⟨_,_,rfl,(hin75.mono s11.bel),by decide,by decide⟩ (.cons ⟨_,_,rfl,(hin76.mono s11.bel),by decide,by decide⟩ (.cons ⟨_,_,rfl,(hin77.mono s11.bel),by decide,by decide⟩ .nil))))) dE⟩,fRq hr hb78.lt⟩
  | 52,_,hoq=>
   cases sI hoq;obtain⟨b78,e78,hrw78⟩:=hd 51 (zq kR);refine zz 78 _ e78 nu ?_;refine yK W0 (oZ _ _ [[1,0,1,1,3,2,4],[8,4,2],[3],[13],[8,4,2]] wx hrw78) rfl (fun e' w2 hr=>?_);obtain⟨⟨G9,c9,rfl,hy9⟩,s12⟩:=hr;exact⟨_,rfl,sB s12,⟨G9,c9,_,rfl,hy9⟩,xq⟩
  | 53,_,hoq=>
   cases sI hoq;obtain⟨S72,c72,B72,m72,n72,e72,hz72⟩:=hd 45 (zq kR);obtain⟨G79,c79,n79,e79,hy79⟩:=hd 52 (zq kR);refine zz 72 _ e72 nu (zz 79 _ e79 nu ?_);exact oVq (RQ (v0:= .string _) (v1:= .int _ _) (v2:= .int _ _) (v3:= .agg _) (v4:= .agg _) (fun v0 v1 v2 v3 v4=>#[v0,(qy v4 0),v1,v2,(qy v3 0),(qy v3 1),(qy v3 2),(qy v3 3),(qy v3 4),(qy v3 5)]) rfl rfl rfl rfl rfl kR) ⟨_,_,_,_,_,_,_,_,rfl,hy79,hz72⟩
  | 54,_,hoq=>
   cases sI hoq;exact oVq (xZ (v:= .slice _ _ _) rfl) rfl
  | 55,_,hoq=>
   cases sI hoq;refine zz 81 _ (hd 54 (zq kR)) nu ?_;exact oVq (xw (i:=5) U42 jY rfl rfl dE rfl) rfl
  | 56,_,hoq=>
   cases sI hoq;replace hbm:=hbm.tr0 s2;replace hTm:=hTm.tr0 s2;obtain⟨S0,B0,c0,d0,hrg,hz0⟩:=hTm.at_ hbm (k:=5) dE;refine zz 82 _ (hd 55 (zq kR)) nu ?_;exact oVq (zV U44 rfl rfl hrg jY) ⟨_,_,_,_,_,rfl,hz0⟩
  | 57,_,hoq=>
   cases sI hoq;exact vV [1,0,1,1,3,2,4,3,5] rfl U66 qq qz
  | 58,_,hoq=>
   cases sI hoq;exact vV [7,4,2] rfl U66 qq qz
  | 59,_,hoq=>
   cases sI hoq;exact vV [5] rfl U66 qq qz
  | 60,_,hoq=>
   cases sI hoq;exact vV [7] rfl U66 qq qz
  | 61,_,hoq=>
   cases sI hoq;exact vV [14] rfl U66 qq qz
  | 62,_,hoq=>
   cases sI hoq;exact vV [7] rfl U66 qq qz
  | 63,_,hoq=>
   cases sI hoq;obtain⟨b84,e84,hin84⟩:=hd 57 (zq kR);obtain⟨b85,e85,hin85⟩:=hd 58 (zq kR);obtain⟨b86,e86,hin86⟩:=hd 59 (zq kR);obtain⟨b87,e87,hin87⟩:=hd 60 (zq kR);obtain⟨b88,e88,hin88⟩:=hd 61 (zq kR);obtain⟨b89,e89,hin89⟩:=hd 62 (zq kR);refine zz 84 _ e84 nu (zz 85 _ e85 nu (zz 86 _ e86 nu (zz 87 _ e87 nu (zz 88 _ e88 nu (zz 89 _ e89 nu ?_)))));refine vK (fun ops Q K=>?_);refine qv (cs:=#[_,_,_,_,_,_]) [(0,.slice _ _ _),(1,.slice _ _ _),(2,.slice _ _ _),(3,.slice _ _ _),(4,.slice _ _ _),(5,.slice _ _ _)] rfl U71 xY xj dE dE kR rfl (fun b90 w6 hb90 s13 hr=>?_);exact K _ _ ⟨s13,⟨_,rfl,qJ (rs:=[[1,0,1,1,3,2,4,3,5],[7,4,2],[5],[7],[14],[7]]) hb90 (.cons ⟨_,_,rfl,(hin84.mono s13.bel),by decide,by decide⟩ (.cons ⟨_,_,rfl,(hin85.mono s13.bel),by decide,by decide⟩ (.cons ⟨_,_,rfl,(hin86.mono s13.bel),by decide,by decide⟩ (.cons ⟨_,_,rfl,(hin87.mono s13.bel),by decide,by decide⟩ (.cons ⟨_,_,rfl,(hin88.mono s13.bel),by decide,by decide⟩ (.cons ⟨_,_,rfl,(hin89.mono s13.bel),by decide,by decide⟩ .nil)))))) dE⟩,fRq hr hb90.lt⟩
  | 64,_,hoq=>
   cases sI hoq;obtain⟨b90,e90,hrw90⟩:=hd 63 (zq kR);refine zz 90 _ e90 nu ?_;refine yK W0 (oZ _ _ [[1,0,1,1,3,2,4,3,5],[7,4,2],[5],[7],[14],[7]] wx hrw90) rfl (fun e' w2 hr=>?_);obtain⟨⟨G9,c9,rfl,hy9⟩,s14⟩:=hr;exact⟨_,rfl,sB s14,⟨G9,c9,_,rfl,hy9⟩,xq⟩
  | 65,_,hoq=>
   cases sI hoq;obtain⟨S83,c83,B83,m83,n83,e83,hz83⟩:=hd 56 (zq kR);obtain⟨G91,c91,n91,e91,hy91⟩:=hd 64 (zq kR);refine zz 83 _ e83 nu (zz 91 _ e91 nu ?_);exact oVq (RQ (v0:= .string _) (v1:= .int _ _) (v2:= .int _ _) (v3:= .agg _) (v4:= .agg _) (fun v0 v1 v2 v3 v4=>#[v0,(qy v4 0),v1,v2,(qy v3 0),(qy v3 1),(qy v3 2),(qy v3 3),(qy v3 4),(qy v3 5)]) rfl rfl rfl rfl rfl kR) ⟨_,_,_,_,_,_,_,_,rfl,hy91,hz83⟩
  | 66,_,hoq=>
   cases sI hoq;have hs0:=s2;obtain⟨G37,c37,n37,S37,d37,B37,f37,m37,e37,hy37,hz37⟩:=hd 10 (zq kR);obtain⟨G48,c48,n48,S48,d48,B48,f48,m48,e48,hy48,hz48⟩:=hd 21 (zq kR);obtain⟨G58,c58,n58,S58,d58,B58,f58,m58,e58,hy58,hz58⟩:=hd 31 (zq kR);obtain⟨G69,c69,n69,S69,d69,B69,f69,m69,e69,hy69,hz69⟩:=hd 42 (zq kR);obtain⟨G80,c80,n80,S80,d80,B80,f80,m80,e80,hy80,hz80⟩:=hd 53 (zq kR);obtain⟨G92,c92,n92,S92,d92,B92,f92,m92,e92,hy92,hz92⟩:=hd 65 (zq kR);refine zz 37 _ e37 nu (zz 48 _ e48 nu (zz 58 _ e58 nu (zz 69 _ e69 nu (zz 80 _ e80 nu (zz 92 _ e92 nu ?_)))));refine vK (fun ops Q K=>?_);refine qv (cs:=#[_,_,_,_,_,_,_,_,_,_,_,_,_,_,_,_,_,_,_,_,_,_,_,_,_,_,_,_,_,_,_,_,_,_,_,_,_,_,_,_,_,_,_,_,_,_,_,_,_,_,_,_,_,_,_,_,_,_,_,_]) [(0,.agg _),(1,.agg _),(2,.agg _),(3,.agg _),(4,.agg _),(5,.agg _)] rfl U26 sz54_DSmA ze54_DSmA dE dE kR rfl (fun b93 w7 hb93 s15 hr=>?_);exact K _ _ ⟨s15,⟨_,_,_,rfl,nLT hs0.size hr,hb93,(Fz.rcons (r:=CY) (hy37.tr0 s15) (hz37.tr0 s15) (Fz.rcons (r:=CW) (hy48.tr0 s15) (hz48.tr0 s15) (Fz.rcons (r:=CV) (hy58.tr0 s15) (hz58.tr0 s15) (Fz.rcons (r:=CK) (hy69.tr0 s15) (hz69.tr0 s15) (Fz.rcons (r:=CJ) (hy80.tr0 s15) (hz80.tr0 s15) (Fz.rcons (r:=CX) (hy92.tr0 s15) (hz92.tr0 s15) (Fz.triv [] _ TS (fun _=>RlCs.nil))))))))⟩,fRq hr hb93.lt⟩
  | _ + 67,hix,_=>exact absurd hix om
 intro gg w8 s16 hR hdis;replace hZ:=hZ.trans (s16.weak (by simp));obtain⟨b93,cr,nRl,e93,lo93,hb93,hRl⟩:=hR 66 dE;have:=nLL z5 lo93;refine x7 93 _ e93 nu (zn1 ?_);replace hb5:=hb5.tr0 s16;refine x9 (v:= .slice _ _ _) hb5 rfl rfl sz26_DSmA (by first | decide | simp) rfl rfl (fun w9 hq s17=>?_);replace hZ:=hZ.trans (s17.weak (by simp));replace hRl:=hRl.sp1 s17 hb5 (.inl dE);replace hb5:=hq;refine zw ?_;refine e_R ⟨agA,?_⟩;exact⟨hZ,_,_,_,lo93,hb93.u,hRl,hb5⟩
end Go.Proofs.YtbcpgfnfiekbiaaGreatDoor
