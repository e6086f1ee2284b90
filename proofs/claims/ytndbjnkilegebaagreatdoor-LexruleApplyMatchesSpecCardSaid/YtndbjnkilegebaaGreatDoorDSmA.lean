/- What these functions compute, at every world: equal.meanings; and plain laws. -/
import Derived.Test.YtndbjnkilegebaaGreatDoorU
import Derived.Test.YtndbjnkilegebaaGreatDoorZst
import Derived.Test.YtndbjnkilegebaaGreatDoorDQu
import Derived.Test.YtndbjnkilegebaaGreatDoorSml
namespace Go.Proofs.YtndbjnkilegebaaGreatDoor
open Go.RowKit Go.Proofs.Tryz
set_option maxRecDepth 100000
set_option maxHeartbeats 8000000
def mS5:Ts:=(Ts.f (Ts.b false) (Ts.b true))
def mS6:Ts:=(Ts.f mS5 (Ts.b true))
def mS7:Ts:=(Ts.f (Ts.b false) mS5)
def mS8:Ts:=(Ts.f mS5 mS6)
def mT26:Tv:=(Tv.var 1)
def mT27:Tv:=(Tv.var 0)
def mT28:Tv:=(Tv.app mT26 mT27)
def mT29:Tv:=(Tv.abs mS5 mT28)
def TJ:Tv:=(Tv.abs mS6 mT29)
def mT33:Tv:=(Tv.var 1)
def mT34:Tv:=(Tv.var 0)
def mT35:Tv:=(Tv.app mT33 mT34)
def mT36:Tv:=(Tv.abs mS5 mT35)
def TX:Tv:=(Tv.abs mS8 mT36)
def mT39:Tv:=(Tv.var 0)
def TQ:Tv:=(Tv.abs mS5 mT39)
def mT44:Tv:=(Tv.var 1)
def mT46:Tv:=(Tv.var 3)
def mT47:Tv:=(Tv.var 1)
def mT48:Tv:=(Tv.app mT46 mT47)
def mT49:Tv:=(Tv.var 0)
def mT50:Tv:=(Tv.app mT48 mT49)
def mT51:Tv:=(Tv.abs (Ts.b false) mT50)
def mT52:Tv:=(Tv.app mT44 mT51)
def mT53:Tv:=(Tv.abs (Ts.b false) mT52)
def mT54:Tv:=(Tv.abs mS6 mT53)
def TZ:Tv:=(Tv.abs mS7 mT54)
def mT58:Ts:=(Ts.f (Ts.b true) (Ts.b true))
def mT61:Tv:=(Tv.var 2)
def mT62:Tv:=(Tv.var 1)
def mT63:Tv:=(Tv.var 0)
def mT64:Tv:=(Tv.app mT62 mT63)
def mT65:Tv:=(Tv.app mT61 mT64)
def mT66:Tv:=(Tv.abs (Ts.b false) mT65)
def mT67:Tv:=(Tv.abs mS5 mT66)
def Tw:Tv:=(Tv.abs mT58 mT67)
def mT73:Ts:=(Ts.f (Ts.b true) (Ts.b true))
def mT74:Ts:=(Ts.f (Ts.b true) mT73)
def mT77:Tv:=(Tv.var 2)
def mT78:Tv:=(Tv.var 3)
def mT79:Tv:=(Tv.var 0)
def mT80:Tv:=(Tv.app mT78 mT79)
def mT81:Tv:=(Tv.app mT77 mT80)
def mT82:Tv:=(Tv.var 1)
def mT83:Tv:=(Tv.var 0)
def mT84:Tv:=(Tv.app mT82 mT83)
def mT85:Tv:=(Tv.app mT81 mT84)
def mT86:Tv:=(Tv.abs mS5 mT85)
def mT87:Tv:=(Tv.abs mS6 mT86)
def mT88:Tv:=(Tv.abs mT74 mT87)
def Tk:Tv:=(Tv.abs mS6 mT88)
def V8:List Tv:=[TJ,TX,TQ,TZ,Tw,Tk]
def MnR(wc:World)(v:Value)(w':World):Prop:=∃ b90 S30 c30 B30 m30 S37 c37 B37 m37 S40 c40 B40 m40 S55 c55 B55 m55 S68 c68 B68 m68 S89 c89 B89 m89,v= .slice (some ⟨b90,0,none⟩) 6 6/\wc.heap.size<=b90/\Blk w' b90 34 #[.int .i64 (TJ).tm.kind,.string (TJ).tm.name,.int .i64 (TJ).tm.index,.string (TJ).tm.type.base,.slice S30 (TJ).tm.type.args.length c30,.slice B30 (TJ).tm.args.length m30,.int .i64 (TX).tm.kind,.string (TX).tm.name,.int .i64 (TX).tm.index,.string (TX).tm.type.base,.slice S37 (TX).tm.type.args.length c37,.slice B37 (TX).tm.args.length m37,.int .i64 (TQ).tm.kind,.string (TQ).tm.name,.int .i64 (TQ).tm.index,.string (TQ).tm.type.base,.slice S40 (TQ).tm.type.args.length c40,.slice B40 (TQ).tm.args.length m40,.int .i64 (TZ).tm.kind,.string (TZ).tm.name,.int .i64 (TZ).tm.index,.string (TZ).tm.type.base,.slice S55 (TZ).tm.type.args.length c55,.slice B55 (TZ).tm.args.length m55,.int .i64 (Tw).tm.kind,.string (Tw).tm.name,.int .i64 (Tw).tm.index,.string (Tw).tm.type.base,.slice S68 (Tw).tm.type.args.length c68,.slice B68 (Tw).tm.args.length m68,.int .i64 (Tk).tm.kind,.string (Tk).tm.name,.int .i64 (Tk).tm.index,.string (Tk).tm.type.base,.slice S89 (Tk).tm.type.args.length c89,.slice B89 (Tk).tm.args.length m89]/\Fz [] b90 TS w' (fun w=>SimsIn w S30 (TJ).tm.type.args/\TmsIn w B30 (TJ).tm.args)/\Fz [] b90 TS w' (fun w=>SimsIn w S37 (TX).tm.type.args/\TmsIn w B37 (TX).tm.args)/\Fz [] b90 TS w' (fun w=>SimsIn w S40 (TQ).tm.type.args/\TmsIn w B40 (TQ).tm.args)/\Fz [] b90 TS w' (fun w=>SimsIn w S55 (TZ).tm.type.args/\TmsIn w B55 (TZ).tm.args)/\Fz [] b90 TS w' (fun w=>SimsIn w S68 (Tw).tm.type.args/\TmsIn w B68 (Tw).tm.args)/\Fz [] b90 TS w' (fun w=>SimsIn w S89 (Tk).tm.type.args/\TmsIn w B89 (Tk).tm.args)
theorem MnR.tr0{wc w1 w2:World}{v:Value}(h:MnR wc v w1)(hs:Same [] w1 w2):MnR wc v w2:=by
 obtain⟨b90,S30,c30,B30,m30,S37,c37,B37,m37,S40,c40,B40,m40,S55,c55,B55,m55,S68,c68,B68,m68,S89,c89,B89,m89,e,lo,hb,a8,a5,a4,a3,a2,a1⟩:=h;exact⟨b90,S30,c30,B30,m30,S37,c37,B37,m37,S40,c40,B40,m40,S55,c55,B55,m55,S68,c68,B68,m68,S89,c89,B89,m89,e,lo,hb.tr0 hs,a8.tr0 hs,a5.tr0 hs,a4.tr0 hs,a3.tr0 hs,a2.tr0 hs,a1.tr0 hs⟩
theorem mean_r6{wc:World}{b3 b4 b5 b6 b7 b8 c14 c17 c20 c23 n14 n17 n20 n23:Nat}{A14 A17 A20 A23:Option Addr}(hb3:Blk wc b3 31 #[.string ⟨#[101]⟩,.slice none 0 0])(hb4:Blk wc b4 31 #[.string ⟨#[116]⟩,.slice none 0 0])(hb5:Blk wc b5 31 #[.string (mS5).sm.base,.slice A14 (mS5).sm.args.length c14])(hb6:Blk wc b6 31 #[.string (mS6).sm.base,.slice A17 (mS6).sm.args.length c17])(hb7:Blk wc b7 31 #[.string (mS7).sm.base,.slice A20 (mS7).sm.args.length c20])(hb8:Blk wc b8 31 #[.string (mS8).sm.base,.slice A23 (mS8).sm.args.length c23])(a1:Fz [] n14 TS wc (fun w=>SimsIn w A14 (mS5).sm.args))(a2:Fz [] n17 TS wc (fun w=>SimsIn w A17 (mS6).sm.args))(cx:Fz [] n20 TS wc (fun w=>SimsIn w A20 (mS7).sm.args))(cw:Fz [] n23 TS wc (fun w=>SimsIn w A23 (mS8).sm.args))(f:Fr)(Q:Exit->Act->World->Prop)(k3:f 3= .pointer (some ⟨b3,0,none⟩))(k4:f 4= .pointer (some ⟨b4,0,none⟩))(k5:f 5= .pointer (some ⟨b5,0,none⟩))(k6:f 6= .pointer (some ⟨b6,0,none⟩))(k7:f 7= .pointer (some ⟨b7,0,none⟩))(k8:f 8= .pointer (some ⟨b8,0,none⟩))(hPQ:PQ Q):WC Tryz.prog (sl (sr (sr (sr (sr (sr (sr (ob Tryz.f17.body)))))))) (QRS 128 [9,24,25,26,27,28,29,30,31,32,33,34,35,36,37,38,39,40,41,42,43,44,45,46,47,48,49,50,51,52,53,54,55,56,57,58,59,60,61,62,63,64,65,66,67,68,69,70,71,72,73,74,75,76,77,78,79,80,81,82,83,84,85,86,87,88,89,90] f (fun g w'=>Same [] wc w'/\MnR wc (g 9) w') Q) 128 f wc:=by
 have hZ:Same [] wc wc:=Same.refl _ _;refine zQ 3 _ k3 nu (zQ 4 _ k4 nu (zQ 5 _ k5 nu (zQ 6 _ k6 nu (zQ 7 _ k7 nu (zQ 8 _ k8 nu ?_)))));refine jY [] [0,1,7,8,14,17,18,19,21,32,33,35,36,45,46,47,48,51,52,2,3,4,5,6,9,10,11,12,13,15,16,20,22,23,24,25,26,27,28,29,30,31,34,37,38,39,40,41,42,43,44,49,50,53,54,55,56,57,58,59,60,61,62,63,64,65,66,67] rfl (fun w1 s1=>?_);have e6:=s1;refine zn19 ?_;refine hcl (fun v wv=>TmD [] mT26 wv (v)) rfl YQ (jw [] 1 w1) rfl (fun e' w2 hr=>?_) (fun v26 w2 s2 d26=>?_)
 ·obtain⟨⟨_,rfl,hd⟩,s3⟩:=hr;exact⟨_,rfl,sB s3,hd⟩
 obtain⟨S26,c26,B26,m26,n26,e26,cv⟩:=d26;subst e26;refine hcl (fun v wv=>TmD [] mT27 wv (v)) rfl YQ (jw [] 0 w2) rfl (fun e' w2 hr=>?_) (fun v27 w3 s4 d27=>?_)
 ·obtain⟨⟨_,rfl,hd⟩,s5⟩:=hr;exact⟨_,rfl,sB s5,hd⟩
 obtain⟨S27,c27,B27,m27,n27,e27,e5⟩:=d27;subst e27;replace cv:=cv.tr0 s4;refine hcl (fun v wv=>TmD [] mT28 wv (v)) rfl K5 (Qx [] mT26 mT27 _ _ _ _ _ _ _ _ _ _ w3 (by simp) cv e5) rfl (fun e' w2 hr=>?_) (fun v28 w4 s6 d28=>?_)
 ·obtain⟨⟨_,rfl,hd⟩,s7⟩:=hr;exact⟨_,rfl,sB s7,hd⟩
 obtain⟨S28,c28,B28,m28,n28,e28,dz⟩:=d28;subst e28;replace a1:=a1.tr0 (s1.t (s2.t (s4.t s6)));refine hcl (fun v wv=>TmD [] mT29 wv (v)) rfl YX (gw [] mS5 mT28 _ _ _ _ _ _ _ _ w4 (by simp) a1 dz) rfl (fun e' w2 hr=>?_) (fun v29 w5 s8 d29=>?_)
 ·obtain⟨⟨_,rfl,hd⟩,s9⟩:=hr;exact⟨_,rfl,sB s9,hd⟩
 obtain⟨S29,c29,B29,m29,n29,e29,dy⟩:=d29;subst e29;replace a2:=a2.tr0 (s1.t (s2.t (s4.t (s6.t s8))));refine hcl (fun v wv=>TmD [] TJ wv (v)) rfl YX (gw [] mS6 mT29 _ _ _ _ _ _ _ _ w5 (by simp) a2 dy) rfl (fun e' w2 hr=>?_) (fun v30 w6 cz d30=>?_)
 ·obtain⟨⟨_,rfl,hd⟩,s11⟩:=hr;exact⟨_,rfl,sB s11,hd⟩
 obtain⟨S30,c30,B30,m30,n30,e30,ab⟩:=d30;subst e30;refine hcl (fun v wv=>TmD [] mT33 wv (v)) rfl YQ (jw [] 1 w6) rfl (fun e' w2 hr=>?_) (fun v33 w7 cd d33=>?_)
 ·obtain⟨⟨_,rfl,hd⟩,s13⟩:=hr;exact⟨_,rfl,sB s13,hd⟩
 obtain⟨S33,c33,B33,m33,n33,e33,cu⟩:=d33;subst e33;refine hcl (fun v wv=>TmD [] mT34 wv (v)) rfl YQ (jw [] 0 w7) rfl (fun e' w2 hr=>?_) (fun v34 w8 c6 d34=>?_)
 ·obtain⟨⟨_,rfl,hd⟩,s15⟩:=hr;exact⟨_,rfl,sB s15,hd⟩
 obtain⟨S34,c34,B34,m34,n34,e34,dx⟩:=d34;subst e34;replace cu:=cu.tr0 c6;refine hcl (fun v wv=>TmD [] mT35 wv (v)) rfl K5 (Qx [] mT33 mT34 _ _ _ _ _ _ _ _ _ _ w8 (by simp) cu dx) rfl (fun e' w2 hr=>?_) (fun v35 w9 cc d35=>?_)
 ·obtain⟨⟨_,rfl,hd⟩,s17⟩:=hr;exact⟨_,rfl,sB s17,hd⟩
 obtain⟨S35,c35,B35,m35,n35,e35,dw⟩:=d35;subst e35;replace a1:=a1.tr0 (s8.t (cz.t (cd.t (c6.t cc))));refine hcl (fun v wv=>TmD [] mT36 wv (v)) rfl YX (gw [] mS5 mT35 _ _ _ _ _ _ _ _ w9 (by simp) a1 dw) rfl (fun e' w2 hr=>?_) (fun v36 w10 cb d36=>?_)
 ·obtain⟨⟨_,rfl,hd⟩,s19⟩:=hr;exact⟨_,rfl,sB s19,hd⟩
 obtain⟨S36,c36,B36,m36,n36,e36,dv⟩:=d36;subst e36;replace cw:=cw.tr0 (s1.t (s2.t (s4.t (s6.t (s8.t (cz.t (cd.t (c6.t (cc.t cb)))))))));refine hcl (fun v wv=>TmD [] TX wv (v)) rfl YX (gw [] mS8 mT36 _ _ _ _ _ _ _ _ w10 (by simp) cw dv) rfl (fun e' w2 hr=>?_) (fun v37 w11 cy d37=>?_)
 ·obtain⟨⟨_,rfl,hd⟩,s21⟩:=hr;exact⟨_,rfl,sB s21,hd⟩
 obtain⟨S37,c37,B37,m37,n37,e37,a9⟩:=d37;subst e37;refine hcl (fun v wv=>TmD [] mT39 wv (v)) rfl YQ (jw [] 0 w11) rfl (fun e' w2 hr=>?_) (fun v39 w12 ca d39=>?_)
 ·obtain⟨⟨_,rfl,hd⟩,s23⟩:=hr;exact⟨_,rfl,sB s23,hd⟩
 obtain⟨S39,c39,B39,m39,n39,e39,du⟩:=d39;subst e39;replace a1:=a1.tr0 (cb.t (cy.t ca));refine hcl (fun v wv=>TmD [] TQ wv (v)) rfl YX (gw [] mS5 mT39 _ _ _ _ _ _ _ _ w12 (by simp) a1 du) rfl (fun e' w2 hr=>?_) (fun v40 w13 c9 d40=>?_)
 ·obtain⟨⟨_,rfl,hd⟩,s25⟩:=hr;exact⟨_,rfl,sB s25,hd⟩
 obtain⟨S40,c40,B40,m40,n40,e40,a8⟩:=d40;subst e40;refine hcl (fun v wv=>TmD [] mT44 wv (v)) rfl YQ (jw [] 1 w13) rfl (fun e' w2 hr=>?_) (fun v44 w14 c5 d44=>?_)
 ·obtain⟨⟨_,rfl,hd⟩,s27⟩:=hr;exact⟨_,rfl,sB s27,hd⟩
 obtain⟨S44,c44,B44,m44,n44,e44,cr⟩:=d44;subst e44;refine hcl (fun v wv=>TmD [] mT46 wv (v)) rfl YQ (jw [] 3 w14) rfl (fun e' w2 hr=>?_) (fun v46 w15 bw d46=>?_)
 ·obtain⟨⟨_,rfl,hd⟩,s29⟩:=hr;exact⟨_,rfl,sB s29,hd⟩
 obtain⟨S46,c46,B46,m46,n46,e46,cq⟩:=d46;subst e46;refine hcl (fun v wv=>TmD [] mT47 wv (v)) rfl YQ (jw [] 1 w15) rfl (fun e' w2 hr=>?_) (fun v47 w16 bh d47=>?_)
 ·obtain⟨⟨_,rfl,hd⟩,s31⟩:=hr;exact⟨_,rfl,sB s31,hd⟩
 obtain⟨S47,c47,B47,m47,n47,e47,dr⟩:=d47;subst e47;replace cq:=cq.tr0 bh;refine hcl (fun v wv=>TmD [] mT48 wv (v)) rfl K5 (Qx [] mT46 mT47 _ _ _ _ _ _ _ _ _ _ w16 (by simp) cq dr) rfl (fun e' w2 hr=>?_) (fun v48 w17 bv d48=>?_)
 ·obtain⟨⟨_,rfl,hd⟩,s33⟩:=hr;exact⟨_,rfl,sB s33,hd⟩
 obtain⟨S48,c48,B48,m48,n48,e48,cp⟩:=d48;subst e48;refine hcl (fun v wv=>TmD [] mT49 wv (v)) rfl YQ (jw [] 0 w17) rfl (fun e' w2 hr=>?_) (fun v49 w18 bg d49=>?_)
 ·obtain⟨⟨_,rfl,hd⟩,s35⟩:=hr;exact⟨_,rfl,sB s35,hd⟩
 obtain⟨S49,c49,B49,m49,n49,e49,dq⟩:=d49;subst e49;replace cp:=cp.tr0 bg;refine hcl (fun v wv=>TmD [] mT50 wv (v)) rfl K5 (Qx [] mT48 mT49 _ _ _ _ _ _ _ _ _ _ w18 (by simp) cp dq) rfl (fun e' w2 hr=>?_) (fun v50 w19 bu d50=>?_)
 ·obtain⟨⟨_,rfl,hd⟩,s37⟩:=hr;exact⟨_,rfl,sB s37,hd⟩
 obtain⟨S50,c50,B50,m50,n50,e50,dp⟩:=d50;subst e50;refine hcl (fun v wv=>TmD [] mT51 wv (v)) rfl YX (gw [] (Ts.b false) mT50 _ _ _ _ _ _ _ _ w19 (by simp) (Fz.triv _ _ TS (fun _=>SimsIn.nil)) dp) rfl (fun e' w2 hr=>?_) (fun v51 w20 bt d51=>?_)
 ·obtain⟨⟨_,rfl,hd⟩,s39⟩:=hr;exact⟨_,rfl,sB s39,hd⟩
 obtain⟨S51,c51,B51,m51,n51,e51,dn⟩:=d51;subst e51;replace cr:=cr.tr0 (bw.t (bh.t (bv.t (bg.t (bu.t bt)))));refine hcl (fun v wv=>TmD [] mT52 wv (v)) rfl K5 (Qx [] mT44 mT51 _ _ _ _ _ _ _ _ _ _ w20 (by simp) cr dn) rfl (fun e' w2 hr=>?_) (fun v52 w21 c4 d52=>?_)
 ·obtain⟨⟨_,rfl,hd⟩,s41⟩:=hr;exact⟨_,rfl,sB s41,hd⟩
 obtain⟨S52,c52,B52,m52,n52,e52,dm⟩:=d52;subst e52;refine hcl (fun v wv=>TmD [] mT53 wv (v)) rfl YX (gw [] (Ts.b false) mT52 _ _ _ _ _ _ _ _ w21 (by simp) (Fz.triv _ _ TS (fun _=>SimsIn.nil)) dm) rfl (fun e' w2 hr=>?_) (fun v53 w22 c3 d53=>?_)
 ·obtain⟨⟨_,rfl,hd⟩,s43⟩:=hr;exact⟨_,rfl,sB s43,hd⟩
 obtain⟨S53,c53,B53,m53,n53,e53,dk⟩:=d53;subst e53;replace a2:=a2.tr0 (cz.t (cd.t (c6.t (cc.t (cb.t (cy.t (ca.t (c9.t (c5.t (bw.t (bh.t (bv.t (bg.t (bu.t (bt.t (c4.t c3))))))))))))))));refine hcl (fun v wv=>TmD [] mT54 wv (v)) rfl YX (gw [] mS6 mT53 _ _ _ _ _ _ _ _ w22 (by simp) a2 dk) rfl (fun e' w2 hr=>?_) (fun v54 w23 c2 d54=>?_)
 ·obtain⟨⟨_,rfl,hd⟩,s45⟩:=hr;exact⟨_,rfl,sB s45,hd⟩
 obtain⟨S54,c54,B54,m54,n54,e54,dj⟩:=d54;subst e54;replace cx:=cx.tr0 (s1.t (s2.t (s4.t (s6.t (s8.t (cz.t (cd.t (c6.t (cc.t (cb.t (cy.t (ca.t (c9.t (c5.t (bw.t (bh.t (bv.t (bg.t (bu.t (bt.t (c4.t (c3.t c2))))))))))))))))))))));refine hcl (fun v wv=>TmD [] TZ wv (v)) rfl YX (gw [] mS7 mT54 _ _ _ _ _ _ _ _ w23 (by simp) cx dj) rfl (fun e' w2 hr=>?_) (fun v55 w24 c8 d55=>?_)
 ·obtain⟨⟨_,rfl,hd⟩,s47⟩:=hr;exact⟨_,rfl,sB s47,hd⟩
 obtain⟨S55,c55,B55,m55,n55,e55,a5⟩:=d55;subst e55;refine hcl (fun v wv=>SmD [] mT58 wv (v)) rfl KZ (Qk [] (Ts.b true) (Ts.b true) _ _ _ _ _ _ w24 (by simp) (Fz.triv _ _ TS (fun _=>SimsIn.nil)) (Fz.triv _ _ TS (fun _=>SimsIn.nil))) rfl (fun e' w2 hr=>?_) (fun v58 w25 c1 d58=>?_)
 ·obtain⟨⟨_,rfl,hd⟩,s49⟩:=hr;exact⟨_,rfl,sB s49,hd⟩
 obtain⟨A58,c58,n58,e58,co⟩:=d58;subst e58;refine hcl (fun v wv=>TmD [] mT61 wv (v)) rfl YQ (jw [] 2 w25) rfl (fun e' w2 hr=>?_) (fun v61 w26 br d61=>?_)
 ·obtain⟨⟨_,rfl,hd⟩,s51⟩:=hr;exact⟨_,rfl,sB s51,hd⟩
 obtain⟨S61,c61,B61,m61,n61,e61,cn⟩:=d61;subst e61;refine hcl (fun v wv=>TmD [] mT62 wv (v)) rfl YQ (jw [] 1 w26) rfl (fun e' w2 hr=>?_) (fun v62 w27 bf d62=>?_)
 ·obtain⟨⟨_,rfl,hd⟩,s53⟩:=hr;exact⟨_,rfl,sB s53,hd⟩
 obtain⟨S62,c62,B62,m62,n62,e62,cm⟩:=d62;subst e62;refine hcl (fun v wv=>TmD [] mT63 wv (v)) rfl YQ (jw [] 0 w27) rfl (fun e' w2 hr=>?_) (fun v63 w28 ba d63=>?_)
 ·obtain⟨⟨_,rfl,hd⟩,s55⟩:=hr;exact⟨_,rfl,sB s55,hd⟩
 obtain⟨S63,c63,B63,m63,n63,e63,di⟩:=d63;subst e63;replace cm:=cm.tr0 ba;refine hcl (fun v wv=>TmD [] mT64 wv (v)) rfl K5 (Qx [] mT62 mT63 _ _ _ _ _ _ _ _ _ _ w28 (by simp) cm di) rfl (fun e' w2 hr=>?_) (fun v64 w29 be d64=>?_)
 ·obtain⟨⟨_,rfl,hd⟩,s57⟩:=hr;exact⟨_,rfl,sB s57,hd⟩
 obtain⟨S64,c64,B64,m64,n64,e64,dh⟩:=d64;subst e64;replace cn:=cn.tr0 (bf.t (ba.t be));refine hcl (fun v wv=>TmD [] mT65 wv (v)) rfl K5 (Qx [] mT61 mT64 _ _ _ _ _ _ _ _ _ _ w29 (by simp) cn dh) rfl (fun e' w2 hr=>?_) (fun v65 w30 bq d65=>?_)
 ·obtain⟨⟨_,rfl,hd⟩,s59⟩:=hr;exact⟨_,rfl,sB s59,hd⟩
 obtain⟨S65,c65,B65,m65,n65,e65,dg⟩:=d65;subst e65;refine hcl (fun v wv=>TmD [] mT66 wv (v)) rfl YX (gw [] (Ts.b false) mT65 _ _ _ _ _ _ _ _ w30 (by simp) (Fz.triv _ _ TS (fun _=>SimsIn.nil)) dg) rfl (fun e' w2 hr=>?_) (fun v66 w31 bo d66=>?_)
 ·obtain⟨⟨_,rfl,hd⟩,s61⟩:=hr;exact⟨_,rfl,sB s61,hd⟩
 obtain⟨S66,c66,B66,m66,n66,e66,df⟩:=d66;subst e66;replace a1:=a1.tr0 (c9.t (c5.t (bw.t (bh.t (bv.t (bg.t (bu.t (bt.t (c4.t (c3.t (c2.t (c8.t (c1.t (br.t (bf.t (ba.t (be.t (bq.t bo))))))))))))))))));refine hcl (fun v wv=>TmD [] mT67 wv (v)) rfl YX (gw [] mS5 mT66 _ _ _ _ _ _ _ _ w31 (by simp) a1 df) rfl (fun e' w2 hr=>?_) (fun v67 w32 bn d67=>?_)
 ·obtain⟨⟨_,rfl,hd⟩,s63⟩:=hr;exact⟨_,rfl,sB s63,hd⟩
 obtain⟨S67,c67,B67,m67,n67,e67,de⟩:=d67;subst e67;replace co:=co.tr0 (br.t (bf.t (ba.t (be.t (bq.t (bo.t bn))))));refine hcl (fun v wv=>TmD [] Tw wv (v)) rfl YX (gw [] mT58 mT67 _ _ _ _ _ _ _ _ w32 (by simp) co de) rfl (fun e' w2 hr=>?_) (fun v68 w33 c0 d68=>?_)
 ·obtain⟨⟨_,rfl,hd⟩,s65⟩:=hr;exact⟨_,rfl,sB s65,hd⟩
 obtain⟨S68,c68,B68,m68,n68,e68,a4⟩:=d68;subst e68;refine hcl (fun v wv=>SmD [] mT73 wv (v)) rfl KZ (Qk [] (Ts.b true) (Ts.b true) _ _ _ _ _ _ w33 (by simp) (Fz.triv _ _ TS (fun _=>SimsIn.nil)) (Fz.triv _ _ TS (fun _=>SimsIn.nil))) rfl (fun e' w2 hr=>?_) (fun v73 w34 bm d73=>?_)
 ·obtain⟨⟨_,rfl,hd⟩,s67⟩:=hr;exact⟨_,rfl,sB s67,hd⟩
 obtain⟨A73,c73,n73,e73,dc⟩:=d73;subst e73;refine hcl (fun v wv=>SmD [] mT74 wv (v)) rfl KZ (Qk [] (Ts.b true) mT73 _ _ _ _ _ _ w34 (by simp) (Fz.triv _ _ TS (fun _=>SimsIn.nil)) dc) rfl (fun e' w2 hr=>?_) (fun v74 w35 bk d74=>?_)
 ·obtain⟨⟨_,rfl,hd⟩,s69⟩:=hr;exact⟨_,rfl,sB s69,hd⟩
 obtain⟨A74,c74,n74,e74,ck⟩:=d74;subst e74;refine hcl (fun v wv=>TmD [] mT77 wv (v)) rfl YQ (jw [] 2 w35) rfl (fun e' w2 hr=>?_) (fun v77 w36 bd d77=>?_)
 ·obtain⟨⟨_,rfl,hd⟩,s71⟩:=hr;exact⟨_,rfl,sB s71,hd⟩
 obtain⟨S77,c77,B77,m77,n77,e77,cj⟩:=d77;subst e77;refine hcl (fun v wv=>TmD [] mT78 wv (v)) rfl YQ (jw [] 3 w36) rfl (fun e' w2 hr=>?_) (fun v78 w37 b9 d78=>?_)
 ·obtain⟨⟨_,rfl,hd⟩,s73⟩:=hr;exact⟨_,rfl,sB s73,hd⟩
 obtain⟨S78,c78,B78,m78,n78,e78,cg⟩:=d78;subst e78;refine hcl (fun v wv=>TmD [] mT79 wv (v)) rfl YQ (jw [] 0 w37) rfl (fun e' w2 hr=>?_) (fun v79 w38 an d79=>?_)
 ·obtain⟨⟨_,rfl,hd⟩,s75⟩:=hr;exact⟨_,rfl,sB s75,hd⟩
 obtain⟨S79,c79,B79,m79,n79,e79,db⟩:=d79;subst e79;replace cg:=cg.tr0 an;refine hcl (fun v wv=>TmD [] mT80 wv (v)) rfl K5 (Qx [] mT78 mT79 _ _ _ _ _ _ _ _ _ _ w38 (by simp) cg db) rfl (fun e' w2 hr=>?_) (fun v80 w39 b2 d80=>?_)
 ·obtain⟨⟨_,rfl,hd⟩,s77⟩:=hr;exact⟨_,rfl,sB s77,hd⟩
 obtain⟨S80,c80,B80,m80,n80,e80,da⟩:=d80;subst e80;replace cj:=cj.tr0 (b9.t (an.t b2));refine hcl (fun v wv=>TmD [] mT81 wv (v)) rfl K5 (Qx [] mT77 mT80 _ _ _ _ _ _ _ _ _ _ w39 (by simp) cj da) rfl (fun e' w2 hr=>?_) (fun v81 w40 bc d81=>?_)
 ·obtain⟨⟨_,rfl,hd⟩,s79⟩:=hr;exact⟨_,rfl,sB s79,hd⟩
 obtain⟨S81,c81,B81,m81,n81,e81,cf⟩:=d81;subst e81;refine hcl (fun v wv=>TmD [] mT82 wv (v)) rfl YQ (jw [] 1 w40) rfl (fun e' w2 hr=>?_) (fun v82 w41 b1 d82=>?_)
 ·obtain⟨⟨_,rfl,hd⟩,s81⟩:=hr;exact⟨_,rfl,sB s81,hd⟩
 obtain⟨S82,c82,B82,m82,n82,e82,ce⟩:=d82;subst e82;refine hcl (fun v wv=>TmD [] mT83 wv (v)) rfl YQ (jw [] 0 w41) rfl (fun e' w2 hr=>?_) (fun v83 w42 ad d83=>?_)
 ·obtain⟨⟨_,rfl,hd⟩,s83⟩:=hr;exact⟨_,rfl,sB s83,hd⟩
 obtain⟨S83,c83,B83,m83,n83,e83,d9⟩:=d83;subst e83;replace ce:=ce.tr0 ad;refine hcl (fun v wv=>TmD [] mT84 wv (v)) rfl K5 (Qx [] mT82 mT83 _ _ _ _ _ _ _ _ _ _ w42 (by simp) ce d9) rfl (fun e' w2 hr=>?_) (fun v84 w43 ao d84=>?_)
 ·obtain⟨⟨_,rfl,hd⟩,s85⟩:=hr;exact⟨_,rfl,sB s85,hd⟩
 obtain⟨S84,c84,B84,m84,n84,e84,d8⟩:=d84;subst e84;replace cf:=cf.tr0 (b1.t (ad.t ao));refine hcl (fun v wv=>TmD [] mT85 wv (v)) rfl K5 (Qx [] mT81 mT84 _ _ _ _ _ _ _ _ _ _ w43 (by simp) cf d8) rfl (fun e' w2 hr=>?_) (fun v85 w44 bb d85=>?_)
 ·obtain⟨⟨_,rfl,hd⟩,s87⟩:=hr;exact⟨_,rfl,sB s87,hd⟩
 obtain⟨S85,c85,B85,m85,n85,e85,d7⟩:=d85;subst e85;replace a1:=a1.tr0 (bn.t (c0.t (bm.t (bk.t (bd.t (b9.t (an.t (b2.t (bc.t (b1.t (ad.t (ao.t bb))))))))))));refine hcl (fun v wv=>TmD [] mT86 wv (v)) rfl YX (gw [] mS5 mT85 _ _ _ _ _ _ _ _ w44 (by simp) a1 d7) rfl (fun e' w2 hr=>?_) (fun v86 w45 bj d86=>?_)
 ·obtain⟨⟨_,rfl,hd⟩,s89⟩:=hr;exact⟨_,rfl,sB s89,hd⟩
 obtain⟨S86,c86,B86,m86,n86,e86,d6⟩:=d86;subst e86;replace a2:=a2.tr0 (c2.t (c8.t (c1.t (br.t (bf.t (ba.t (be.t (bq.t (bo.t (bn.t (c0.t (bm.t (bk.t (bd.t (b9.t (an.t (b2.t (bc.t (b1.t (ad.t (ao.t (bb.t bj))))))))))))))))))))));refine hcl (fun v wv=>TmD [] mT87 wv (v)) rfl YX (gw [] mS6 mT86 _ _ _ _ _ _ _ _ w45 (by simp) a2 d6) rfl (fun e' w2 hr=>?_) (fun v87 w46 bi d87=>?_)
 ·obtain⟨⟨_,rfl,hd⟩,s91⟩:=hr;exact⟨_,rfl,sB s91,hd⟩
 obtain⟨S87,c87,B87,m87,n87,e87,d5⟩:=d87;subst e87;replace ck:=ck.tr0 (bd.t (b9.t (an.t (b2.t (bc.t (b1.t (ad.t (ao.t (bb.t (bj.t bi))))))))));refine hcl (fun v wv=>TmD [] mT88 wv (v)) rfl YX (gw [] mT74 mT87 _ _ _ _ _ _ _ _ w46 (by simp) ck d5) rfl (fun e' w2 hr=>?_) (fun v88 w47 bz d88=>?_)
 ·obtain⟨⟨_,rfl,hd⟩,s93⟩:=hr;exact⟨_,rfl,sB s93,hd⟩
 obtain⟨S88,c88,B88,m88,n88,e88,d4⟩:=d88;subst e88;replace a2:=a2.tr0 (bi.t bz);refine hcl (fun v wv=>TmD [] Tk wv (v)) rfl YX (gw [] mS6 mT88 _ _ _ _ _ _ _ _ w47 (by simp) a2 d4) rfl (fun e' w2 hr=>?_) (fun v89 w48 c7 d89=>?_)
 ·obtain⟨⟨_,rfl,hd⟩,s95⟩:=hr;exact⟨_,rfl,sB s95,hd⟩
 obtain⟨S89,c89,B89,m89,n89,e89,ac⟩:=d89;subst e89;replace e6:=e6.t (s2.t (s4.t (s6.t (s8.t (cz.t (cd.t (c6.t (cc.t (cb.t (cy.t (ca.t (c9.t (c5.t (bw.t (bh.t (bv.t (bg.t (bu.t (bt.t (c4.t (c3.t (c2.t (c8.t (c1.t (br.t (bf.t (ba.t (be.t (bq.t (bo.t (bn.t (c0.t (bm.t (bk.t (bd.t (b9.t (an.t (b2.t (bc.t (b1.t (ad.t (ao.t (bb.t (bj.t (bi.t (bz.t c7))))))))))))))))))))))))))))))))))))))))))))));have q0:=e6.size;replace ab:=ab.tr0 (cd.t (c6.t (cc.t (cb.t (cy.t (ca.t (c9.t (c5.t (bw.t (bh.t (bv.t (bg.t (bu.t (bt.t (c4.t (c3.t (c2.t (c8.t (c1.t (br.t (bf.t (ba.t (be.t (bq.t (bo.t (bn.t (c0.t (bm.t (bk.t (bd.t (b9.t (an.t (b2.t (bc.t (b1.t (ad.t (ao.t (bb.t (bj.t (bi.t (bz.t c7)))))))))))))))))))))))))))))))))))))))));have q30:=ab.le;replace a9:=a9.tr0 (ca.t (c9.t (c5.t (bw.t (bh.t (bv.t (bg.t (bu.t (bt.t (c4.t (c3.t (c2.t (c8.t (c1.t (br.t (bf.t (ba.t (be.t (bq.t (bo.t (bn.t (c0.t (bm.t (bk.t (bd.t (b9.t (an.t (b2.t (bc.t (b1.t (ad.t (ao.t (bb.t (bj.t (bi.t (bz.t c7))))))))))))))))))))))))))))))))))));have q37:=a9.le;replace a8:=a8.tr0 (c5.t (bw.t (bh.t (bv.t (bg.t (bu.t (bt.t (c4.t (c3.t (c2.t (c8.t (c1.t (br.t (bf.t (ba.t (be.t (bq.t (bo.t (bn.t (c0.t (bm.t (bk.t (bd.t (b9.t (an.t (b2.t (bc.t (b1.t (ad.t (ao.t (bb.t (bj.t (bi.t (bz.t c7))))))))))))))))))))))))))))))))));have q40:=a8.le;replace a5:=a5.tr0 (c1.t (br.t (bf.t (ba.t (be.t (bq.t (bo.t (bn.t (c0.t (bm.t (bk.t (bd.t (b9.t (an.t (b2.t (bc.t (b1.t (ad.t (ao.t (bb.t (bj.t (bi.t (bz.t c7)))))))))))))))))))))))
 have q55:=a5.le;replace a4:=a4.tr0 (bm.t (bk.t (bd.t (b9.t (an.t (b2.t (bc.t (b1.t (ad.t (ao.t (bb.t (bj.t (bi.t (bz.t c7))))))))))))));have q68:=a4.le;have q89:=ac.le;refine h1 rfl ?_;refine qZ (cs:=#[_,_,_,_,_,_,_,_,_,_,_,_,_,_,_,_,_,_,_,_,_,_,_,_,_,_,_,_,_,_,_,_,_,_,_,_]) [(0,.agg _),(1,.agg _),(2,.agg _),(3,.agg _),(4,.agg _),(5,.agg _)] rfl U32 ZY Z4 dE dE kR rfl (fun e7 w49 a3 bx hr=>?_);have d2:=bx;refine qY (KQ d2 ?_);replace ab:=ab.tr0 bx;replace a9:=a9.tr0 bx;replace a8:=a8.tr0 bx;replace a5:=a5.tr0 bx;replace a4:=a4.tr0 bx;replace ac:=ac.tr0 bx;obtain⟨e7,S30,c30,B30,m30,S37,c37,B37,m37,S40,c40,B40,m40,S55,c55,B55,m55,S68,c68,B68,m68,S89,c89,B89,m89,e90,d3,a3,ab,a9,a8,a5,a4,ac⟩:MnR wc (.slice (some ⟨e7,0,none⟩) 6 6) w49:=⟨_,_,_,_,_,_,_,_,_,_,_,_,_,_,_,_,_,_,_,_,_,_,_,_,_,rfl,nLT q0 hr,a3,ab.mono (nLT q30 hr) (Nat.le_of_lt a3.lt),a9.mono (nLT q37 hr) (Nat.le_of_lt a3.lt),a8.mono (nLT q40 hr) (Nat.le_of_lt a3.lt),a5.mono (nLT q55 hr) (Nat.le_of_lt a3.lt),a4.mono (nLT q68 hr) (Nat.le_of_lt a3.lt),ac.mono (nLT q89 hr) (Nat.le_of_lt a3.lt)⟩
 cases e90;refine zn2 ?_;refine e_R ⟨agA,?_⟩;replace hZ:=hZ.trans (s1.t (s2.t (s4.t (s6.t (s8.t (cz.t (cd.t (c6.t (cc.t (cb.t (cy.t (ca.t (c9.t (c5.t (bw.t (bh.t (bv.t (bg.t (bu.t (bt.t (c4.t (c3.t (c2.t (c8.t (c1.t (br.t (bf.t (ba.t (be.t (bq.t (bo.t (bn.t (c0.t (bm.t (bk.t (bd.t (b9.t (an.t (b2.t (bc.t (b1.t (ad.t (ao.t (bb.t (bj.t (bi.t (bz.t (c7.t bx))))))))))))))))))))))))))))))))))))))))))))))));exact⟨hZ,e7,S30,c30,B30,m30,S37,c37,B37,m37,S40,c40,B40,m40,S55,c55,B55,m55,S68,c68,B68,m68,S89,c89,B89,m89,rfl,d3,a3,ab,a9,a8,a5,a4,ac⟩
theorem meanings_d(w:World):Calls Tryz.prog 17 #[.bool false] w fun e w'=>(∃ b vs n,e= .returned (.slice (some ⟨b,0,none⟩) 6 6)/\Blk w' b 34 vs.toArray/\TmCs n w' V8 vs)/\Bel w w':=by
 refine enT Tryz.func17 Tryz.ntmps17 rfl rfl fun hB=>?_;refine zn7 ?_;refine a7 kR (ZJ _ _) rfl (fun w1 s1=>?_);refine a7 kR (ZJ _ _) rfl (fun w2 s2=>?_);refine qQ (cs:=#[.string ⟨#[]⟩,.slice none 0 0]) jk rfl (fun b3 w3 ac s3 hr=>?_);have lo3:=hB.u.ob hr;refine qQ (cs:=#[.string ⟨#[]⟩,.slice none 0 0]) jk rfl (fun b4 w4 an s4 hr=>?_);have:=ac.ob hr;have lo4:=hB.u.ob hr;refine zV ac.u (fun w5 hq s5=>?_);replace ac:=hq;refine zV an.u (fun w6 hq s6=>?_);replace an:=hq;refine zn6 ?_;refine zW KZ (Qk [] (Ts.b false) (Ts.b true) _ _ _ _ _ _ _ (by simp) (Fz.triv _ _ TS (fun _=>SimsIn.nil)) (Fz.triv _ _ TS (fun _=>SimsIn.nil))) rfl (fun e' w7 hr=>?_);obtain⟨⟨_,rfl,A14,c14,n14,rfl,a1⟩,s7⟩:=hr;replace s7:=sB s7;refine⟨_,rfl,?_⟩;refine y8 (cs:=#[.string ⟨#[]⟩,.slice none 0 0]) jk rfl (fun _=>rfl) (fun _=>rfl) vx rfl xW (fun b5 w9 bf s8 hr=>?_);refine zn6 ?_;replace a1:=a1.tr0 s8;refine zW KZ (Qk [] mS5 (Ts.b true) _ _ _ _ _ _ _ (by simp) a1 (Fz.triv _ _ TS (fun _=>SimsIn.nil))) rfl (fun e' w10 hr=>?_);obtain⟨⟨_,rfl,A17,c17,n17,rfl,a2⟩,s9⟩:=hr;replace s9:=sB s9;refine⟨_,rfl,?_⟩;refine y8 (cs:=#[.string ⟨#[]⟩,.slice none 0 0]) jk rfl (fun _=>rfl) (fun _=>rfl) vx rfl xW (fun b6 w12 be ad hr=>?_);refine zn6 ?_;replace a1:=a1.tr0 (s9.t ad);refine zW KZ (Qk [] (Ts.b false) mS5 _ _ _ _ _ _ _ (by simp) (Fz.triv _ _ TS (fun _=>SimsIn.nil)) a1) rfl (fun e' w13 hr=>?_);obtain⟨⟨_,rfl,A20,c20,n20,rfl,ab⟩,a5⟩:=hr;replace a5:=sB a5;refine⟨_,rfl,?_⟩;refine y8 (cs:=#[.string ⟨#[]⟩,.slice none 0 0]) jk rfl (fun _=>rfl) (fun _=>rfl) vx rfl xW (fun b7 w15 bd a8 hr=>?_);refine zn6 ?_;replace a2:=a2.tr0 (ad.t (a5.t a8));replace a1:=a1.tr0 (a5.t a8);refine zW KZ (Qk [] mS5 mS6 _ _ _ _ _ _ _ (by simp) a1 a2) rfl (fun e' w16 hr=>?_);obtain⟨⟨_,rfl,A23,c23,n23,rfl,a9⟩,a3⟩:=hr;replace a3:=sB a3;refine⟨_,rfl,?_⟩;refine y8 (cs:=#[.string ⟨#[]⟩,.slice none 0 0]) jk rfl (fun _=>rfl) (fun _=>rfl) vx rfl xW (fun b8 w18 hb8 a4 hr=>?_);refine zn3 ?_;refine xv (rg [9] 24 67) (fun g w'=>Same [] w18 w'/\MnR w18 (g 9) w') ?_ (fun g6 w19 hI=>?_)
 ·replace ac:=(ac.tr1 s6 oG).tr0 (s7.t (s8.t (s9.t (ad.t (a5.t (a8.t (a3.t a4)))))));replace an:=an.tr0 (s7.t (s8.t (s9.t (ad.t (a5.t (a8.t (a3.t a4)))))));replace bf:=bf.tr0 (s9.t (ad.t (a5.t (a8.t (a3.t a4)))));replace be:=be.tr0 (a5.t (a8.t (a3.t a4)));replace ab:=ab.tr0 (a8.t (a3.t a4));replace a1:=a1.tr0 (a3.t a4);replace a2:=a2.tr0 (a3.t a4);replace bd:=bd.tr0 (a3.t a4);replace a9:=a9.tr0 a4;have hh:=fun f Q k0 k1 k2 k3 k4 k5 kq=>mean_r6 ac an bf be bd hb8 a1 a2 ab a9 f Q k0 k1 k2 k3 k4 k5 kq
  exact hh _ _ (by rfl) (by rfl) (by rfl) (by rfl) (by rfl) (by rfl) (by intro d;cases d<;>exact fun _ _ _ _ h=>h)
 obtain⟨s15,b90,S30,c30,B30,m30,S37,c37,B37,m37,S40,c40,B40,m40,S55,c55,B55,m55,S68,c68,B68,m68,S89,c89,B89,m89,e9,lo90,bc,bb,ba,b9,b2,b1,ao⟩:=hI;refine vZ 9 _ e9 nu (zn7 ?_);refine jv rfl (fun c91=>?_) (fun c91=>?_)
 ·exact absurd c91 dE
 refine yj ?_;exact⟨⟨b90,_,b90,rfl,bc,(.cons bb (.cons ba (.cons b9 (.cons b2 (.cons b1 (.cons ao .nil))))))⟩,hB.u⟩
section
def smallN:List ByteArray:=[⟨#[116,111,112]⟩,⟨#[114,117,108,101]⟩,⟨#[115,105,103,110]⟩,⟨#[110,117,109]⟩,⟨#[115,105,110,103]⟩,⟨#[112,108,117,114]⟩,⟨#[115]⟩,⟨#[110,112]⟩,⟨#[118,112]⟩,⟨#[110]⟩,⟨#[100,101,116]⟩,⟨#[105,118]⟩,⟨#[116,118]⟩,⟨#[97,100,118]⟩,⟨#[99,111,110,106]⟩]
def smallP:List Int:=[0,0,0,0,3,3,2,2,2,2,2,2,2,2,2]
def smallF:List Ft:=[⟨⟨#[109,111,116,104,101,114]⟩,1,2⟩,⟨⟨#[111,110,101]⟩,1,2⟩,⟨⟨#[116,119,111]⟩,1,2⟩,⟨⟨#[116,104,114,101,101]⟩,1,2⟩,⟨⟨#[110,117,109]⟩,2,3⟩]
def smallT:List Ty:=Kk smallN smallP 15
def Wy:RlS:=⟨⟨#[115]⟩,[[1,0,1,1,2,2,4],[6],[7,4,3],[3],[8,4,3]],2,0,(V8[0]'dE)⟩
def Ww:RlS:=⟨⟨#[110,112]⟩,[[1,0,1,1,3,2,4],[7,4,2],[3],[10,4,2],[9,4,2]],2,1,(V8[1]'dE)⟩
def Wv:RlS:=⟨⟨#[118,112,45,105,118]⟩,[[1,0,1,1,3],[8,4,2],[3],[11,4,2]],1,0,(V8[2]'dE)⟩
def Wk:RlS:=⟨⟨#[118,112,45,116,118]⟩,[[1,0,1,1,3,2,4],[8,4,2],[3],[12,4,2],[7]],2,2,(V8[3]'dE)⟩
def Wj:RlS:=⟨⟨#[118,112,45,110,111,116]⟩,[[1,0,1,1,3,2,4],[8,4,2],[3],[13],[8,4,2]],2,3,(V8[4]'dE)⟩
def Wx:RlS:=⟨⟨#[110,112,45,97,110,100]⟩,[[1,0,1,1,3,2,4,3,5],[7,4,2],[5],[7],[14],[7]],3,4,(V8[5]'dE)⟩
def smallRs:List RlS:=[Wy,Ww,Wv,Wk,Wj,Wx]
def smallR:List Rl:=smallRs.map RlS.rl
def smallW0:LxS:=⟨⟨#[101,118,101,114,121]⟩,[[10,4,1],[4]],1,(quN ⟨#[97,108,108]⟩ ⟨#[105,102]⟩)⟩
def smallW1:LxS:=⟨⟨#[97]⟩,[[10,4,1],[4]],0,(quN ⟨#[115,111,109,101]⟩ ⟨#[97,110,100]⟩)⟩
def smallW2:LxS:=⟨⟨#[110,111]⟩,[[10]],2,(quY ⟨#[115,111,109,101]⟩ ⟨#[97,110,100]⟩)⟩
def smallW3:LxS:=⟨⟨#[100,111,103]⟩,[[9,4,1],[4]],0,(Tv.con ⟨#[100,111,103]⟩ tyET)⟩
def smallW4:LxS:=⟨⟨#[100,111,103,115]⟩,[[9,4,1],[5]],0,(Tv.con ⟨#[100,111,103]⟩ tyET)⟩
def smallW5:LxS:=⟨⟨#[99,97,116]⟩,[[9,4,1],[4]],0,(Tv.con ⟨#[99,97,116]⟩ tyET)⟩
def smallW6:LxS:=⟨⟨#[99,97,116,115]⟩,[[9,4,1],[5]],0,(Tv.con ⟨#[99,97,116]⟩ tyET)⟩
def smallW7:LxS:=⟨⟨#[102,105,115,104]⟩,[[9,4,1],[4]],1,(Tv.con ⟨#[102,105,115,104]⟩ tyET)⟩
def smallW8:LxS:=⟨⟨#[102,105,115,104]⟩,[[9,4,1],[5]],2,(Tv.con ⟨#[102,105,115,104]⟩ tyET)⟩
def smallW9:LxS:=⟨⟨#[98,97,114,107,115]⟩,[[11,4,1],[4]],0,(Tv.con ⟨#[98,97,114,107]⟩ tyET)⟩
def smallW10:LxS:=⟨⟨#[98,97,114,107]⟩,[[11,4,1],[5]],0,(Tv.con ⟨#[98,97,114,107]⟩ tyET)⟩
def smallW11:LxS:=⟨⟨#[115,108,101,101,112,115]⟩,[[11,4,1],[4]],0,(Tv.con ⟨#[115,108,101,101,112]⟩ tyET)⟩
def smallW12:LxS:=⟨⟨#[115,108,101,101,112]⟩,[[11,4,1],[5]],0,(Tv.con ⟨#[115,108,101,101,112]⟩ tyET)⟩
def smallW13:LxS:=⟨⟨#[99,104,97,115,101,115]⟩,[[12,4,1],[4]],0,(Tv.con ⟨#[99,104,97,115,101]⟩ tyEET)⟩
def smallW14:LxS:=⟨⟨#[99,104,97,115,101]⟩,[[12,4,1],[5]],0,(Tv.con ⟨#[99,104,97,115,101]⟩ tyEET)⟩
def smallW15:LxS:=⟨⟨#[115,101,101,115]⟩,[[12,4,1],[4]],1,(Tv.con ⟨#[115,101,101]⟩ tyEET)⟩
def smallW16:LxS:=⟨⟨#[115,101,101]⟩,[[12,4,1],[5]],1,(Tv.con ⟨#[115,101,101]⟩ tyEET)⟩
def smallW17:LxS:=⟨⟨#[110,111,116]⟩,[[13]],0,(Tv.con ⟨#[110,111,116]⟩ (Ts.f (Ts.b true) (Ts.b true)))⟩
def smallW18:LxS:=⟨⟨#[97,110,100]⟩,[[14]],0,(Tv.con ⟨#[97,110,100]⟩ (Ts.f (Ts.b true) (Ts.f (Ts.b true) (Ts.b true))))⟩
def smallW19:LxS:=⟨⟨#[114,101,120]⟩,[[7,4,1],[4]],0,(Tv.abs tyET (Tv.app (Tv.var 0) (Tv.con ⟨#[114,101,120]⟩ (Ts.b false))))⟩
def smallW20:LxS:=⟨⟨#[109,105,97]⟩,[[7,4,1],[4]],0,(Tv.abs tyET (Tv.app (Tv.var 0) (Tv.con ⟨#[109,105,97]⟩ (Ts.b false))))⟩
def smallXs:List LxS:=[smallW0,smallW1,smallW2,smallW3,smallW4,smallW5,smallW6,smallW7,smallW8,smallW9,smallW10,smallW11,smallW12,smallW13,smallW14,smallW15,smallW16,smallW17,smallW18,smallW19,smallW20]
def DW:List Lx:=[]
def Eq:List Lx:=DW++[smallW0.lx]
def Ez:List Lx:=Eq++[smallW1.lx]
def E9:List Lx:=Ez++[smallW2.lx]
def E8:List Lx:=E9++[smallW3.lx]
def E7:List Lx:=E8++[smallW4.lx]
def E6:List Lx:=E7++[smallW5.lx]
def E5:List Lx:=E6++[smallW6.lx]
def E4:List Lx:=E5++[smallW7.lx]
def E3:List Lx:=E4++[smallW8.lx]
def I8:List Lx:=E3++[smallW9.lx]
def I7:List Lx:=I8++[smallW10.lx]
def I6:List Lx:=I7++[smallW11.lx]
def I5:List Lx:=I6++[smallW12.lx]
def I4:List Lx:=I5++[smallW13.lx]
def I3:List Lx:=I4++[smallW14.lx]
def I2:List Lx:=I3++[smallW15.lx]
def I1:List Lx:=I2++[smallW16.lx]
def I0:List Lx:=I1++[smallW17.lx]
def KY:List Lx:=I0++[smallW18.lx]
def KW:List Lx:=KY++[smallW19.lx]
def Bz:List Lx:=KW++[smallW20.lx]
def smallX:List Lx:=Bz
def smallS:List Nd:=([[6]]:List (List Int)).map JY
theorem sz39:(prog.info? 39).map (·.size)=some 1:=by kernel_rfl
theorem sz68:(prog.info? 68).map (·.size)=some 10:=by kernel_rfl
theorem xJ:(prog.info? 62).map (·.zero)=some (some (.slice none 0 0)):=by kernel_rfl
theorem ze68:(prog.info? 68).map (·.zero)=some (some (.agg #[.string ⟨#[]⟩,.slice none 0 0,.int .i64 0,.int .i64 0,.int .i64 0,.string ⟨#[]⟩,.int .i64 0,.string ⟨#[]⟩,.slice none 0 0,.slice none 0 0])):=by kernel_rfl
variable {w wc:World} {b0 b1 b2 b3 b4 b5 b23 b93 base capt c12 c15:Nat} {At A12 A15:Option Addr} {cr:Array Value}
set_option maxHeartbeats 4000000 in
theorem small_r7{bm nm:Nat}{csm:List Value}(ac:Blk wc b5 42 #[.slice At 15 capt,.slice (some ⟨b23,0,none⟩) 5 5,.slice none 0 0,.slice none 0 0,.slice none 0 0])(a1:Blk wc bm 34 csm.toArray)(a2:TmCs nm wc V8 csm)(f:Fr)(Q:Exit->Act->World->Prop)(k6:f 6= .slice (some ⟨bm,0,none⟩) 6 6)(k5:f 5= .pointer (some ⟨b5,0,none⟩))(_hPQ:PQ Q):WC prog (sl (sr (sr (sr (sr (sr (sr (sr (ob Tryz.f4.body))))))))) (QRS 256 [27,28,29,30,31,32,33,34,35,36,37,38,39,40,41,42,43,44,45,46,47,48,49,50,51,52,53,54,55,56,57,58,59,60,61,62,63,64,65,66,67,68,69,70,71,72,73,74,75,76,77,78,79,80,81,82,83,84,85,86,87,88,89,90,91,92,93,94] f (fun _ w'=>Same [b5] wc w'/\∃ ad cr cf,wc.heap.size<=ad/\Blk w' ad 68 cr/\Fz [] cf TS w' (fun w=>RlCs w smallR cr.toList)/\Blk w' b5 42 #[.slice At 15 capt,.slice (some ⟨b23,0,none⟩) 5 5,.slice (some ⟨ad,0,none⟩) 6 6,.slice none 0 0,.slice none 0 0]) Q) 256 f wc:=by
 have hZ:Same [b5] wc wc:=(Same.refl [] wc).weak (by simp);refine zQ 6 _ k6 nu (zQ 5 _ k5 nu ?_);have z5:=ac.lt;refine uX 67 [27,28,29,30,31,32,33,34,35,36,37,38,39,40,41,42,43,44,45,46,47,48,49,50,51,52,53,54,55,56,57,58,59,60,61,62,63,64,65,66,67,68,69,70,71,72,73,74,75,76,77,78,79,80,81,82,83,84,85,86,87,88,89,90,91,92,93] (fun ix=>Nat.beq ix 66) (fun ix v wv=>match ix with|0=>v= .slice (some ⟨bm,0,none⟩) 6 6|1=>v= .pointer (some ⟨bm,0+0*6,none⟩)|2=>TmD [] (V8[0]'dE) wv (v)|3=>IsP [1,0,1,1,2,2,4] wv (v)|4=>IsP [6] wv (v)|5=>IsP [7,4,3] wv (v)|6=>IsP [3] wv (v)|7=>IsP [8,4,3] wv (v)|8=>RsP [[1,0,1,1,2,2,4],[6],[7,4,3],[3],[8,4,3]] wv (v)|9=>GrP [[1,0,1,1,2,2,4],[6],[7,4,3],[3],[8,4,3]] wv (v)|10=>RlP Wy wv (v)|11=>v= .slice (some ⟨bm,0,none⟩) 6 6|12=>v= .pointer (some ⟨bm,0+1*6,none⟩)|13=>TmD [] (V8[1]'dE) wv (v)|14=>IsP [1,0,1,1,3,2,4] wv (v)|15=>IsP [7,4,2] wv (v)|16=>IsP [3] wv (v)|17=>IsP [10,4,2] wv (v)|18=>IsP [9,4,2] wv (v)|19=>RsP [[1,0,1,1,3,2,4],[7,4,2],[3],[10,4,2],[9,4,2]] wv (v)|20=>GrP [[1,0,1,1,3,2,4],[7,4,2],[3],[10,4,2],[9,4,2]] wv (v)|21=>RlP Ww wv (v)|22=>v= .slice (some ⟨bm,0,none⟩) 6 6|23=>v= .pointer (some ⟨bm,0+2*6,none⟩)|24=>TmD [] (V8[2]'dE) wv (v)|25=>IsP [1,0,1,1,3] wv (v)|26=>IsP [8,4,2] wv (v)|27=>IsP [3] wv (v)|28=>IsP [11,4,2] wv (v)|29=>RsP [[1,0,1,1,3],[8,4,2],[3],[11,4,2]] wv (v)|30=>GrP [[1,0,1,1,3],[8,4,2],[3],[11,4,2]] wv (v)|31=>RlP Wv wv (v)|32=>v= .slice (some ⟨bm,0,none⟩) 6 6|33=>v= .pointer (some ⟨bm,0+3*6,none⟩)|34=>TmD [] (V8[3]'dE) wv (v)|35=>IsP [1,0,1,1,3,2,4] wv (v)|36=>IsP [8,4,2] wv (v)|37=>IsP [3] wv (v)|38=>IsP [12,4,2] wv (v)|39=>IsP [7] wv (v)|40=>RsP [[1,0,1,1,3,2,4],[8,4,2],[3],[12,4,2],[7]] wv (v)|41=>GrP [[1,0,1,1,3,2,4],[8,4,2],[3],[12,4,2],[7]] wv (v)|42=>RlP Wk wv (v)|43=>v= .slice (some ⟨bm,0,none⟩) 6 6|44=>v= .pointer (some ⟨bm,0+4*6,none⟩)|45=>TmD [] (V8[4]'dE) wv (v)|46=>IsP [1,0,1,1,3,2,4] wv (v)|47=>IsP [8,4,2] wv (v)|48=>IsP [3] wv (v)|49=>IsP [13] wv (v)|50=>IsP [8,4,2] wv (v)|51=>RsP [[1,0,1,1,3,2,4],[8,4,2],[3],[13],[8,4,2]] wv (v)|52=>GrP [[1,0,1,1,3,2,4],[8,4,2],[3],[13],[8,4,2]] wv (v)|53=>RlP Wj wv (v)|54=>v= .slice (some ⟨bm,0,none⟩) 6 6|55=>v= .pointer (some ⟨bm,0+5*6,none⟩)|56=>TmD [] (V8[5]'dE) wv (v)|57=>IsP [1,0,1,1,3,2,4,3,5] wv (v)|58=>IsP [7,4,2] wv (v)|59=>IsP [5] wv (v)|60=>IsP [7] wv (v)|61=>IsP [14] wv (v)|62=>IsP [7] wv (v)|63=>RsP [[1,0,1,1,3,2,4,3,5],[7,4,2],[5],[7],[14],[7]] wv (v)|64=>GrP [[1,0,1,1,3,2,4,3,5],[7,4,2],[5],[7],[14],[7]] wv (v)|65=>RlP Wx wv (v)|66=>∃ b cs n,v= .slice (some ⟨b,0,none⟩) 6 6/\wc.heap.size<=b/\Blk wv b 68 cs/\Fz [] n TS wv (fun w=>RlCs w smallR cs.toList)|_=>True) kR kR ?_ ?_ ?_
 ·intro ix v wv wv2 h s1
  match ix,h with
  | 0,h=>exact h
  | 1,h=>exact h
  | 2,h=>
   exact TmD.tr0 h s1
  | 3,h=>
   exact IsP.tr0 h s1
  | 4,h=>
   exact IsP.tr0 h s1
  | 5,h=>
   exact IsP.tr0 h s1
  | 6,h=>
   exact IsP.tr0 h s1
  | 7,h=>
   exact IsP.tr0 h s1
  | 8,h=>
   exact RsP.tr0 h s1
  | 9,h=>
   exact GrP.tr0 h s1
  | 10,h=>
   exact RlP.tr0 h s1
  | 11,h=>exact h
  | 12,h=>exact h
  | 13,h=>
   exact TmD.tr0 h s1
  | 14,h=>
   exact IsP.tr0 h s1
  | 15,h=>
   exact IsP.tr0 h s1
  | 16,h=>
   exact IsP.tr0 h s1
  | 17,h=>
   exact IsP.tr0 h s1
  | 18,h=>
   exact IsP.tr0 h s1
  | 19,h=>
   exact RsP.tr0 h s1
  | 20,h=>
   exact GrP.tr0 h s1
  | 21,h=>
   exact RlP.tr0 h s1
  | 22,h=>exact h
  | 23,h=>exact h
  | 24,h=>
   exact TmD.tr0 h s1
  | 25,h=>
   exact IsP.tr0 h s1
  | 26,h=>
   exact IsP.tr0 h s1
  | 27,h=>
   exact IsP.tr0 h s1
  | 28,h=>
   exact IsP.tr0 h s1
  | 29,h=>
   exact RsP.tr0 h s1
  | 30,h=>
   exact GrP.tr0 h s1
  | 31,h=>
   exact RlP.tr0 h s1
  | 32,h=>exact h
  | 33,h=>exact h
  | 34,h=>
   exact TmD.tr0 h s1
  | 35,h=>
   exact IsP.tr0 h s1
  | 36,h=>
   exact IsP.tr0 h s1
  | 37,h=>
   exact IsP.tr0 h s1
  | 38,h=>
   exact IsP.tr0 h s1
  | 39,h=>
   exact IsP.tr0 h s1
  | 40,h=>
   exact RsP.tr0 h s1
  | 41,h=>
   exact GrP.tr0 h s1
  | 42,h=>
   exact RlP.tr0 h s1
  | 43,h=>exact h
  | 44,h=>exact h
  | 45,h=>
   exact TmD.tr0 h s1
  | 46,h=>
   exact IsP.tr0 h s1
  | 47,h=>
   exact IsP.tr0 h s1
  | 48,h=>
   exact IsP.tr0 h s1
  | 49,h=>
   exact IsP.tr0 h s1
  | 50,h=>
   exact IsP.tr0 h s1
  | 51,h=>
   exact RsP.tr0 h s1
  | 52,h=>
   exact GrP.tr0 h s1
  | 53,h=>
   exact RlP.tr0 h s1
  | 54,h=>exact h
  | 55,h=>exact h
  | 56,h=>
   exact TmD.tr0 h s1
  | 57,h=>
   exact IsP.tr0 h s1
  | 58,h=>
   exact IsP.tr0 h s1
  | 59,h=>
   exact IsP.tr0 h s1
  | 60,h=>
   exact IsP.tr0 h s1
  | 61,h=>
   exact IsP.tr0 h s1
  | 62,h=>
   exact IsP.tr0 h s1
  | 63,h=>
   exact RsP.tr0 h s1
  | 64,h=>
   exact GrP.tr0 h s1
  | 65,h=>
   exact RlP.tr0 h s1
  | 66,h=>
   obtain⟨ad,cr,cf,de,lo93,a4,ce⟩:=h;exact⟨ad,cr,cf,de,lo93,a4.tr0 s1,ce.tr0 s1⟩
  | _+67,h=>exact trivial
 ·intro ix o hix hoq gg wx s2 hd dc
  match ix,hix,hoq with
  | 0,_,hoq=>
   cases sI hoq;exact oVq (x6 (v:= .slice _ _ _) rfl) rfl
  | 1,_,hoq=>
   cases sI hoq;refine aZ 27 (hd 0 a6) ?_;exact oVq (x7 (i:=0) U32 uy rfl rfl dE rfl) rfl
  | 2,_,hoq=>
   cases sI hoq;replace a1:=a1.tr0 s2;replace a2:=a2.tr0 s2;obtain⟨S0,B0,c0,d0,a9,a5⟩:=a2.at_ a1 (k:=0) dE;refine aZ 28 (hd 1 a6) ?_;exact oVq (qw U34 rfl rfl a9 uy) ⟨_,_,_,_,_,rfl,a5⟩
  | 3,_,hoq=>
   cases sI hoq;exact jK [1,0,1,1,2,2,4] rfl U62 qJ qX
  | 4,_,hoq=>
   cases sI hoq;exact jK [6] rfl U62 qJ qX
  | 5,_,hoq=>
   cases sI hoq;exact jK [7,4,3] rfl U62 qJ qX
  | 6,_,hoq=>
   cases sI hoq;exact jK [3] rfl U62 qJ qX
  | 7,_,hoq=>
   cases sI hoq;exact jK [8,4,3] rfl U62 qJ qX
  | 8,_,hoq=>
   cases sI hoq;obtain⟨b30,e30,c6⟩:=hd 3 (zj kR);obtain⟨b31,e31,c5⟩:=hd 4 (zj kR);obtain⟨b32,e32,c4⟩:=hd 5 (zj kR);obtain⟨b33,e33,c3⟩:=hd 6 (zj kR);obtain⟨b34,e34,c2⟩:=hd 7 (zj kR);refine zq 30 _ e30 nu (zq 31 _ e31 nu (zq 32 _ e32 nu (zq 33 _ e33 nu (zq 34 _ e34 nu ?_))));refine jq (fun ops Q K=>?_);refine qZ (cs:=#[_,_,_,_,_]) [(0,.slice _ _ _),(1,.slice _ _ _),(2,.slice _ _ _),(3,.slice _ _ _),(4,.slice _ _ _)] rfl U69 yw xJ dE dE kR rfl (fun b35 w1 cd s3 hr=>?_);exact K _ _ ⟨s3,⟨_,rfl,xz (rs:=[[1,0,1,1,2,2,4],[6],[7,4,3],[3],[8,4,3]]) cd (.cons ⟨_,_,rfl,(c6.mono s3.bel),by decide,by decide⟩ (.cons ⟨_,_,rfl,(c5.mono s3.bel),by decide,by decide⟩ (.cons ⟨_,_,rfl,(c4.mono s3.bel),by decide,by decide⟩ (.cons ⟨_,_,rfl,(c3.mono s3.bel),by decide,by decide⟩ (.cons ⟨_,_,rfl,(c2.mono s3.bel),by decide,by decide⟩ .nil))))) dE⟩,fRq hr cd.lt⟩
  | 9,_,hoq=>
   cases sI hoq;obtain⟨b35,e35,b6⟩:=hd 8 (zj kR);refine zq 35 _ e35 nu ?_;refine vw kR (ZX _ _ [[1,0,1,1,2,2,4],[6],[7,4,3],[3],[8,4,3]] wx b6) rfl (fun e' w2 hr=>?_);obtain⟨⟨G9,c9,rfl,a8⟩,s4⟩:=hr;exact⟨_,rfl,sB s4,⟨G9,c9,_,rfl,a8⟩,y6⟩
  | 10,_,hoq=>
   cases sI hoq;obtain⟨S29,c29,B29,m29,n29,e29,cx⟩:=hd 2 (zj kR);obtain⟨G36,c36,n36,e36,db⟩:=hd 9 (zj kR);refine zq 29 _ e29 nu (zq 36 _ e36 nu ?_);exact oVq (r_bd4 (v0:= .string _) (v1:= .int _ _) (v2:= .agg _) (v3:= .agg _) (fun v0 v1 v2 v3=>#[v0,(qy v3 0),v1,.int .i64 0,(qy v2 0),(qy v2 1),(qy v2 2),(qy v2 3),(qy v2 4),(qy v2 5)]) rfl rfl rfl rfl kR) ⟨_,_,_,_,_,_,_,_,rfl,db,cx⟩
  | 11,_,hoq=>
   cases sI hoq;exact oVq (x6 (v:= .slice _ _ _) rfl) rfl
  | 12,_,hoq=>
   cases sI hoq;refine aZ 38 (hd 11 a6) ?_;exact oVq (x7 (i:=1) U32 uy rfl rfl dE rfl) rfl
  | 13,_,hoq=>
   cases sI hoq;replace a1:=a1.tr0 s2;replace a2:=a2.tr0 s2;obtain⟨S0,B0,c0,d0,a9,a5⟩:=a2.at_ a1 (k:=1) dE;refine aZ 39 (hd 12 a6) ?_;exact oVq (qw U34 rfl rfl a9 uy) ⟨_,_,_,_,_,rfl,a5⟩
  | 14,_,hoq=>
   cases sI hoq;exact jK [1,0,1,1,3,2,4] rfl U62 qJ qX
  | 15,_,hoq=>
   cases sI hoq;exact jK [7,4,2] rfl U62 qJ qX
  | 16,_,hoq=>
   cases sI hoq;exact jK [3] rfl U62 qJ qX
  | 17,_,hoq=>
   cases sI hoq;exact jK [10,4,2] rfl U62 qJ qX
  | 18,_,hoq=>
   cases sI hoq;exact jK [9,4,2] rfl U62 qJ qX
  | 19,_,hoq=>
   cases sI hoq;obtain⟨b41,e41,c1⟩:=hd 14 (zj kR);obtain⟨b42,e42,bz⟩:=hd 15 (zj kR);obtain⟨b43,e43,bx⟩:=hd 16 (zj kR);obtain⟨b44,e44,bw⟩:=hd 17 (zj kR);obtain⟨b45,e45,bv⟩:=hd 18 (zj kR);refine zq 41 _ e41 nu (zq 42 _ e42 nu (zq 43 _ e43 nu (zq 44 _ e44 nu (zq 45 _ e45 nu ?_))));refine jq (fun ops Q K=>?_);refine qZ (cs:=#[_,_,_,_,_]) [(0,.slice _ _ _),(1,.slice _ _ _),(2,.slice _ _ _),(3,.slice _ _ _),(4,.slice _ _ _)] rfl U69 yw xJ dE dE kR rfl (fun b46 w2 cc s5 hr=>?_);exact K _ _ ⟨s5,⟨_,rfl,xz (rs:=[[1,0,1,1,3,2,4],[7,4,2],[3],[10,4,2],[9,4,2]]) cc (.cons ⟨_,_,rfl,(c1.mono s5.bel),by decide,by decide⟩ (.cons ⟨_,_,rfl,(bz.mono s5.bel),by decide,by decide⟩ (.cons ⟨_,_,rfl,(bx.mono s5.bel),by decide,by decide⟩ (.cons ⟨_,_,rfl,(bw.mono s5.bel),by decide,by decide⟩ (.cons ⟨_,_,rfl,(bv.mono s5.bel),by decide,by decide⟩ .nil))))) dE⟩,fRq hr cc.lt⟩
  | 20,_,hoq=>
   cases sI hoq;obtain⟨b46,e46,b4⟩:=hd 19 (zj kR);refine zq 46 _ e46 nu ?_;refine vw kR (ZX _ _ [[1,0,1,1,3,2,4],[7,4,2],[3],[10,4,2],[9,4,2]] wx b4) rfl (fun e' w2 hr=>?_);obtain⟨⟨G9,c9,rfl,a8⟩,s6⟩:=hr;exact⟨_,rfl,sB s6,⟨G9,c9,_,rfl,a8⟩,y6⟩
  | 21,_,hoq=>
   cases sI hoq;obtain⟨S40,c40,B40,m40,n40,e40,cv⟩:=hd 13 (zj kR);obtain⟨G47,c47,n47,e47,d9⟩:=hd 20 (zj kR);refine zq 40 _ e40 nu (zq 47 _ e47 nu ?_);exact oVq (F1 (v0:= .string _) (v1:= .int _ _) (v2:= .int _ _) (v3:= .agg _) (v4:= .agg _) (fun v0 v1 v2 v3 v4=>#[v0,(qy v4 0),v1,v2,(qy v3 0),(qy v3 1),(qy v3 2),(qy v3 3),(qy v3 4),(qy v3 5)]) rfl rfl rfl rfl rfl kR) ⟨_,_,_,_,_,_,_,_,rfl,d9,cv⟩
  | 22,_,hoq=>
   cases sI hoq;exact oVq (x6 (v:= .slice _ _ _) rfl) rfl
  | 23,_,hoq=>
   cases sI hoq;refine aZ 49 (hd 22 a6) ?_;exact oVq (x7 (i:=2) U32 uy rfl rfl dE rfl) rfl
  | 24,_,hoq=>
   cases sI hoq;replace a1:=a1.tr0 s2;replace a2:=a2.tr0 s2;obtain⟨S0,B0,c0,d0,a9,a5⟩:=a2.at_ a1 (k:=2) dE;refine aZ 50 (hd 23 a6) ?_;exact oVq (qw U34 rfl rfl a9 uy) ⟨_,_,_,_,_,rfl,a5⟩
  | 25,_,hoq=>
   cases sI hoq;exact jK [1,0,1,1,3] rfl U62 qJ qX
  | 26,_,hoq=>
   cases sI hoq;exact jK [8,4,2] rfl U62 qJ qX
  | 27,_,hoq=>
   cases sI hoq;exact jK [3] rfl U62 qJ qX
  | 28,_,hoq=>
   cases sI hoq;exact jK [11,4,2] rfl U62 qJ qX
  | 29,_,hoq=>
   cases sI hoq;obtain⟨b52,e52,bu⟩:=hd 25 (zj kR);obtain⟨b53,e53,bt⟩:=hd 26 (zj kR);obtain⟨b54,e54,br⟩:=hd 27 (zj kR);obtain⟨b55,e55,bq⟩:=hd 28 (zj kR);refine zq 52 _ e52 nu (zq 53 _ e53 nu (zq 54 _ e54 nu (zq 55 _ e55 nu ?_)));refine jq (fun ops Q K=>?_);refine qZ (cs:=#[_,_,_,_]) [(0,.slice _ _ _),(1,.slice _ _ _),(2,.slice _ _ _),(3,.slice _ _ _)] rfl U69 yw xJ dE dE kR rfl (fun b56 w3 cb s7 hr=>?_);exact K _ _ ⟨s7,⟨_,rfl,xz (rs:=[[1,0,1,1,3],[8,4,2],[3],[11,4,2]]) cb (.cons ⟨_,_,rfl,(bu.mono s7.bel),by decide,by decide⟩ (.cons ⟨_,_,rfl,(bt.mono s7.bel),by decide,by decide⟩ (.cons ⟨_,_,rfl,(br.mono s7.bel),by decide,by decide⟩ (.cons ⟨_,_,rfl,(bq.mono s7.bel),by decide,by decide⟩ .nil)))) dE⟩,fRq hr cb.lt⟩
  | 30,_,hoq=>
   cases sI hoq;obtain⟨b56,e56,b3⟩:=hd 29 (zj kR);refine zq 56 _ e56 nu ?_;refine vw kR (ZX _ _ [[1,0,1,1,3],[8,4,2],[3],[11,4,2]] wx b3) rfl (fun e' w2 hr=>?_);obtain⟨⟨G9,c9,rfl,a8⟩,s8⟩:=hr;exact⟨_,rfl,sB s8,⟨G9,c9,_,rfl,a8⟩,y6⟩
  | 31,_,hoq=>
   cases sI hoq;obtain⟨S51,c51,B51,m51,n51,e51,cq⟩:=hd 24 (zj kR);obtain⟨G57,c57,n57,e57,d7⟩:=hd 30 (zj kR);refine zq 51 _ e51 nu (zq 57 _ e57 nu ?_);exact oVq (r_bd4 (v0:= .string _) (v1:= .int _ _) (v2:= .agg _) (v3:= .agg _) (fun v0 v1 v2 v3=>#[v0,(qy v3 0),v1,.int .i64 0,(qy v2 0),(qy v2 1),(qy v2 2),(qy v2 3),(qy v2 4),(qy v2 5)]) rfl rfl rfl rfl kR) ⟨_,_,_,_,_,_,_,_,rfl,d7,cq⟩
  | 32,_,hoq=>
   cases sI hoq;exact oVq (x6 (v:= .slice _ _ _) rfl) rfl
  | 33,_,hoq=>
   cases sI hoq;refine aZ 59 (hd 32 a6) ?_;exact oVq (x7 (i:=3) U32 uy rfl rfl dE rfl) rfl
  | 34,_,hoq=>
   cases sI hoq;replace a1:=a1.tr0 s2;replace a2:=a2.tr0 s2;obtain⟨S0,B0,c0,d0,a9,a5⟩:=a2.at_ a1 (k:=3) dE;refine aZ 60 (hd 33 a6) ?_;exact oVq (qw U34 rfl rfl a9 uy) ⟨_,_,_,_,_,rfl,a5⟩
  | 35,_,hoq=>
   cases sI hoq;exact jK [1,0,1,1,3,2,4] rfl U62 qJ qX
  | 36,_,hoq=>
   cases sI hoq;exact jK [8,4,2] rfl U62 qJ qX
  | 37,_,hoq=>
   cases sI hoq;exact jK [3] rfl U62 qJ qX
  | 38,_,hoq=>
   cases sI hoq;exact jK [12,4,2] rfl U62 qJ qX
  | 39,_,hoq=>
   cases sI hoq;exact jK [7] rfl U62 qJ qX
  | 40,_,hoq=>
   cases sI hoq;obtain⟨b62,e62,bo⟩:=hd 35 (zj kR);obtain⟨b63,e63,bn⟩:=hd 36 (zj kR);obtain⟨b64,e64,bk⟩:=hd 37 (zj kR);obtain⟨b65,e65,bj⟩:=hd 38 (zj kR);obtain⟨b66,e66,bi⟩:=hd 39 (zj kR);refine zq 62 _ e62 nu (zq 63 _ e63 nu (zq 64 _ e64 nu (zq 65 _ e65 nu (zq 66 _ e66 nu ?_))));refine jq (fun ops Q K=>?_);refine qZ (cs:=#[_,_,_,_,_]) [(0,.slice _ _ _),(1,.slice _ _ _),(2,.slice _ _ _),(3,.slice _ _ _),(4,.slice _ _ _)] rfl U69 yw xJ dE dE kR rfl (fun b67 w4 ca s9 hr=>?_);exact K _ _ ⟨s9,⟨_,rfl,xz (rs:=[[1,0,1,1,3,2,4],[8,4,2],[3],[12,4,2],[7]]) ca (.cons ⟨_,_,rfl,(bo.mono s9.bel),by decide,by decide⟩ (.cons ⟨_,_,rfl,(bn.mono s9.bel),by decide,by decide⟩ (.cons ⟨_,_,rfl,(bk.mono s9.bel),by decide,by decide⟩ (.cons ⟨_,_,rfl,(bj.mono s9.bel),by decide,by decide⟩ (.cons ⟨_,_,rfl,(bi.mono s9.bel),by decide,by decide⟩ .nil))))) dE⟩,fRq hr ca.lt⟩
  | 41,_,hoq=>
   cases sI hoq;obtain⟨b67,e67,b2⟩:=hd 40 (zj kR);refine zq 67 _ e67 nu ?_;refine vw kR (ZX _ _ [[1,0,1,1,3,2,4],[8,4,2],[3],[12,4,2],[7]] wx b2) rfl (fun e' w2 hr=>?_);obtain⟨⟨G9,c9,rfl,a8⟩,s10⟩:=hr;exact⟨_,rfl,sB s10,⟨G9,c9,_,rfl,a8⟩,y6⟩
  | 42,_,hoq=>
   cases sI hoq;obtain⟨S61,c61,B61,m61,n61,e61,co⟩:=hd 34 (zj kR);obtain⟨G68,c68,n68,e68,d5⟩:=hd 41 (zj kR);refine zq 61 _ e61 nu (zq 68 _ e68 nu ?_);exact oVq (F1 (v0:= .string _) (v1:= .int _ _) (v2:= .int _ _) (v3:= .agg _) (v4:= .agg _) (fun v0 v1 v2 v3 v4=>#[v0,(qy v4 0),v1,v2,(qy v3 0),(qy v3 1),(qy v3 2),(qy v3 3),(qy v3 4),(qy v3 5)]) rfl rfl rfl rfl rfl kR) ⟨_,_,_,_,_,_,_,_,rfl,d5,co⟩
  | 43,_,hoq=>
   cases sI hoq;exact oVq (x6 (v:= .slice _ _ _) rfl) rfl
  | 44,_,hoq=>
   cases sI hoq;refine aZ 70 (hd 43 a6) ?_;exact oVq (x7 (i:=4) U32 uy rfl rfl dE rfl) rfl
  | 45,_,hoq=>
   cases sI hoq;replace a1:=a1.tr0 s2;replace a2:=a2.tr0 s2;obtain⟨S0,B0,c0,d0,a9,a5⟩:=a2.at_ a1 (k:=4) dE;refine aZ 71 (hd 44 a6) ?_;exact oVq (qw U34 rfl rfl a9 uy) ⟨_,_,_,_,_,rfl,a5⟩
  | 46,_,hoq=>
   cases sI hoq;exact jK [1,0,1,1,3,2,4] rfl U62 qJ qX
  | 47,_,hoq=>
   cases sI hoq;exact jK [8,4,2] rfl U62 qJ qX
  | 48,_,hoq=>
   cases sI hoq;exact jK [3] rfl U62 qJ qX
  | 49,_,hoq=>
   cases sI hoq;exact jK [13] rfl U62 qJ qX
  | 50,_,hoq=>
   cases sI hoq;exact jK [8,4,2] rfl U62 qJ qX
  | 51,_,hoq=>
   cases sI hoq;obtain⟨b73,e73,bh⟩:=hd 46 (zj kR);obtain⟨b74,e74,bg⟩:=hd 47 (zj kR);obtain⟨b75,e75,bf⟩:=hd 48 (zj kR);obtain⟨b76,e76,be⟩:=hd 49 (zj kR);obtain⟨b77,e77,bd⟩:=hd 50 (zj kR);refine zq 73 _ e73 nu (zq 74 _ e74 nu (zq 75 _ e75 nu (zq 76 _ e76 nu (zq 77 _ e77 nu ?_))));refine jq (fun ops Q K=>?_);refine qZ (cs:=#[_,_,_,_,_]) [(0,.slice _ _ _),(1,.slice _ _ _),(2,.slice _ _ _),(3,.slice _ _ _),(4,.slice _ _ _)] rfl U69 yw xJ dE dE kR rfl (fun b78 w5 c8 an hr=>?_);exact K _ _ ⟨an,⟨_,rfl,xz (rs:=[[1,0,1,1,3,2,4],[8,4,2],[3],[13],[8,4,2]]) c8 (.cons ⟨_,_,rfl,(bh.mono an.bel),by decide,by decide⟩ (.cons ⟨_,_,rfl,(bg.mono an.bel),by decide,by decide⟩ (.cons ⟨_,_,rfl,(bf.mono an.bel),by decide,by decide⟩ (.cons ⟨_,_,rfl,(be.mono an.bel),by decide,by decide⟩ (.cons ⟨_,_,rfl,(bd.mono an.bel),by decide,by decide⟩ .nil))))) dE⟩,fRq hr c8.lt⟩
  | 52,_,hoq=>
   cases sI hoq;obtain⟨b78,e78,b1⟩:=hd 51 (zj kR);refine zq 78 _ e78 nu ?_;refine vw kR (ZX _ _ [[1,0,1,1,3,2,4],[8,4,2],[3],[13],[8,4,2]] wx b1) rfl (fun e' w2 hr=>?_);obtain⟨⟨G9,c9,rfl,a8⟩,s12⟩:=hr;exact⟨_,rfl,sB s12,⟨G9,c9,_,rfl,a8⟩,y6⟩
  | 53,_,hoq=>
   cases sI hoq;obtain⟨S72,c72,B72,m72,n72,e72,cm⟩:=hd 45 (zj kR);obtain⟨G79,c79,n79,e79,d3⟩:=hd 52 (zj kR);refine zq 72 _ e72 nu (zq 79 _ e79 nu ?_);exact oVq (F1 (v0:= .string _) (v1:= .int _ _) (v2:= .int _ _) (v3:= .agg _) (v4:= .agg _) (fun v0 v1 v2 v3 v4=>#[v0,(qy v4 0),v1,v2,(qy v3 0),(qy v3 1),(qy v3 2),(qy v3 3),(qy v3 4),(qy v3 5)]) rfl rfl rfl rfl rfl kR) ⟨_,_,_,_,_,_,_,_,rfl,d3,cm⟩
  | 54,_,hoq=>
   cases sI hoq;exact oVq (x6 (v:= .slice _ _ _) rfl) rfl
  | 55,_,hoq=>
   cases sI hoq;refine aZ 81 (hd 54 a6) ?_;exact oVq (x7 (i:=5) U32 uy rfl rfl dE rfl) rfl
  | 56,_,hoq=>
   cases sI hoq;replace a1:=a1.tr0 s2;replace a2:=a2.tr0 s2;obtain⟨S0,B0,c0,d0,a9,a5⟩:=a2.at_ a1 (k:=5) dE;refine aZ 82 (hd 55 a6) ?_;exact oVq (qw U34 rfl rfl a9 uy) ⟨_,_,_,_,_,rfl,a5⟩
  | 57,_,hoq=>
   cases sI hoq;exact jK [1,0,1,1,3,2,4,3,5] rfl U62 qJ qX
  | 58,_,hoq=>
   cases sI hoq;exact jK [7,4,2] rfl U62 qJ qX
  | 59,_,hoq=>
   cases sI hoq;exact jK [5] rfl U62 qJ qX
  | 60,_,hoq=>
   cases sI hoq;exact jK [7] rfl U62 qJ qX
  | 61,_,hoq=>
   cases sI hoq;exact jK [14] rfl U62 qJ qX
  | 62,_,hoq=>
   cases sI hoq;exact jK [7] rfl U62 qJ qX
  | 63,_,hoq=>
   cases sI hoq;obtain⟨b84,e84,bc⟩:=hd 57 (zj kR);obtain⟨b85,e85,bb⟩:=hd 58 (zj kR);obtain⟨b86,e86,ba⟩:=hd 59 (zj kR);obtain⟨b87,e87,b9⟩:=hd 60 (zj kR);obtain⟨b88,e88,b8⟩:=hd 61 (zj kR);obtain⟨b89,e89,b7⟩:=hd 62 (zj kR);refine zq 84 _ e84 nu (zq 85 _ e85 nu (zq 86 _ e86 nu (zq 87 _ e87 nu (zq 88 _ e88 nu (zq 89 _ e89 nu ?_)))));refine jq (fun ops Q K=>?_);refine qZ (cs:=#[_,_,_,_,_,_]) [(0,.slice _ _ _),(1,.slice _ _ _),(2,.slice _ _ _),(3,.slice _ _ _),(4,.slice _ _ _),(5,.slice _ _ _)] rfl U69 yw xJ dE dE kR rfl (fun b90 w6 c7 ab hr=>?_);exact K _ _ ⟨ab,⟨_,rfl,xz (rs:=[[1,0,1,1,3,2,4,3,5],[7,4,2],[5],[7],[14],[7]]) c7 (.cons ⟨_,_,rfl,(bc.mono ab.bel),by decide,by decide⟩ (.cons ⟨_,_,rfl,(bb.mono ab.bel),by decide,by decide⟩ (.cons ⟨_,_,rfl,(ba.mono ab.bel),by decide,by decide⟩ (.cons ⟨_,_,rfl,(b9.mono ab.bel),by decide,by decide⟩ (.cons ⟨_,_,rfl,(b8.mono ab.bel),by decide,by decide⟩ (.cons ⟨_,_,rfl,(b7.mono ab.bel),by decide,by decide⟩ .nil)))))) dE⟩,fRq hr c7.lt⟩
  | 64,_,hoq=>
   cases sI hoq;obtain⟨b90,e90,ao⟩:=hd 63 (zj kR);refine zq 90 _ e90 nu ?_;refine vw kR (ZX _ _ [[1,0,1,1,3,2,4,3,5],[7,4,2],[5],[7],[14],[7]] wx ao) rfl (fun e' w2 hr=>?_);obtain⟨⟨G9,c9,rfl,a8⟩,s14⟩:=hr;exact⟨_,rfl,sB s14,⟨G9,c9,_,rfl,a8⟩,y6⟩
  | 65,_,hoq=>
   cases sI hoq;obtain⟨S83,c83,B83,m83,n83,e83,cj⟩:=hd 56 (zj kR);obtain⟨G91,c91,n91,e91,cz⟩:=hd 64 (zj kR);refine zq 83 _ e83 nu (zq 91 _ e91 nu ?_);exact oVq (F1 (v0:= .string _) (v1:= .int _ _) (v2:= .int _ _) (v3:= .agg _) (v4:= .agg _) (fun v0 v1 v2 v3 v4=>#[v0,(qy v4 0),v1,v2,(qy v3 0),(qy v3 1),(qy v3 2),(qy v3 3),(qy v3 4),(qy v3 5)]) rfl rfl rfl rfl rfl kR) ⟨_,_,_,_,_,_,_,_,rfl,cz,cj⟩
  | 66,_,hoq=>
   cases sI hoq;have hs0:=s2;obtain⟨G37,c37,n37,S37,d37,B37,f37,m37,e37,da,cw⟩:=hd 10 (zj kR);obtain⟨G48,c48,n48,S48,d48,B48,f48,m48,e48,d8,cu⟩:=hd 21 (zj kR);obtain⟨G58,c58,n58,S58,d58,B58,f58,m58,e58,d6,cp⟩:=hd 31 (zj kR);obtain⟨G69,c69,n69,S69,d69,B69,f69,m69,e69,d4,cn⟩:=hd 42 (zj kR);obtain⟨G80,c80,n80,S80,d80,B80,f80,m80,e80,d2,ck⟩:=hd 53 (zj kR);obtain⟨G92,c92,n92,S92,d92,B92,f92,m92,e92,cy,cg⟩:=hd 65 (zj kR);refine zq 37 _ e37 nu (zq 48 _ e48 nu (zq 58 _ e58 nu (zq 69 _ e69 nu (zq 80 _ e80 nu (zq 92 _ e92 nu ?_)))));refine jq (fun ops Q K=>?_);refine qZ (cs:=#[_,_,_,_,_,_,_,_,_,_,_,_,_,_,_,_,_,_,_,_,_,_,_,_,_,_,_,_,_,_,_,_,_,_,_,_,_,_,_,_,_,_,_,_,_,_,_,_,_,_,_,_,_,_,_,_,_,_,_,_]) [(0,.agg _),(1,.agg _),(2,.agg _),(3,.agg _),(4,.agg _),(5,.agg _)] rfl underlying39 sz68 ze68 dE dE kR rfl (fun ad w7 a4 a3 hr=>?_);exact K _ _ ⟨a3,⟨_,_,_,rfl,nLT hs0.size hr,a4,(Fz.rcons (r:=Wy) (da.tr0 a3) (cw.tr0 a3) (Fz.rcons (r:=Ww) (d8.tr0 a3) (cu.tr0 a3) (Fz.rcons (r:=Wv) (d6.tr0 a3) (cp.tr0 a3) (Fz.rcons (r:=Wk) (d4.tr0 a3) (cn.tr0 a3) (Fz.rcons (r:=Wj) (d2.tr0 a3) (ck.tr0 a3) (Fz.rcons (r:=Wx) (cy.tr0 a3) (cg.tr0 a3) (Fz.triv [] _ TS (fun _=>RlCs.nil))))))))⟩,fRq hr a4.lt⟩
  | _+67,hix,_=>exact absurd hix oG
 intro gg w8 s16 hR dc;replace hZ:=hZ.trans (s16.weak (by simp));obtain⟨ad,cr,cf,de,lo93,a4,ce⟩:=hR 66 dE;have:=nLL z5 lo93;refine x8 93 _ de nu (zn1 ?_);replace ac:=ac.tr0 s16;refine xx (v:= .slice _ _ _) ac rfl rfl sz39 (by first|decide|simp) rfl rfl (fun w9 hq s17=>?_);replace hZ:=hZ.trans (s17.weak (by simp));replace ce:=ce.sp1 s17 ac (.inl dE);replace ac:=hq;refine qY ?_;refine e_R ⟨agA,?_⟩;exact⟨hZ,_,_,_,lo93,a4.u,ce,ac⟩
end
end Go.Proofs.YtndbjnkilegebaaGreatDoor
