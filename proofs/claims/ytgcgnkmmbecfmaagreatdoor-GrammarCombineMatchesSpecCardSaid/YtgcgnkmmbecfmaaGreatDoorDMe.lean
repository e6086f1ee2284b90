/- What these functions compute, at every world: equal.quantified, equal.meanings; and plain laws. -/
import Derived.Test.YtgcgnkmmbecfmaaGreatDoorU
import Derived.Test.YtgcgnkmmbecfmaaGreatDoorZst
import Derived.Test.YtgcgnkmmbecfmaaGreatDoorDSh
namespace Go.Proofs.YtgcgnkmmbecfmaaGreatDoor
open Go.RowKit Go.Proofs.Tryz
set_option maxHeartbeats 8000000
set_option maxRecDepth 100000
abbrev cI:Array Value:=#[.string ((Ts.b true)).sm.base,.slice none ((Ts.b true)).sm.args.length 0]
def qN19(s1 s2:ByteArray):Ts:=(fun _=>(Ts.f (Ts.f (Ts.b false) (Ts.b true)) (Ts.b true))) (s1,s2)
def qN20(s1 s2:ByteArray):Tv:=(Tv.con s1 (qN19 s1 s2))
def qN26(s1 s2:ByteArray):Ts:=(fun _=>(Ts.f (Ts.b true) (Ts.b true))) (s1,s2)
def qN27(s1 s2:ByteArray):Ts:=(Ts.f (Ts.b true) (qN26 s1 s2))
def qN28(s1 s2:ByteArray):Tv:=(Tv.con s2 (qN27 s1 s2))
def qN29(s1 s2:ByteArray):Tv:=(fun _=>(Tv.var 2)) (s1,s2)
def qN30(s1 s2:ByteArray):Tv:=(fun _=>(Tv.var 0)) (s1,s2)
def qN31(s1 s2:ByteArray):Tv:=(Tv.app (qN29 s1 s2) (qN30 s1 s2))
def qN32(s1 s2:ByteArray):Tv:=(Tv.app (qN28 s1 s2) (qN31 s1 s2))
def qN33(s1 s2:ByteArray):Tv:=(fun _=>(Tv.var 1)) (s1,s2)
def qN34(s1 s2:ByteArray):Tv:=(fun _=>(Tv.var 0)) (s1,s2)
def qN35(s1 s2:ByteArray):Tv:=(Tv.app (qN33 s1 s2) (qN34 s1 s2))
def qN36(s1 s2:ByteArray):Tv:=(Tv.app (qN32 s1 s2) (qN35 s1 s2))
def qN37(s1 s2:ByteArray):Tv:=(Tv.abs (Ts.b false) (qN36 s1 s2))
def Oq(s1 s2:ByteArray):Tv:=(Tv.app (qN20 s1 s2) (qN37 s1 s2))
def qM49(s1 s2:ByteArray):Tv:=(Tv.abs (Ts.f (Ts.b false) (Ts.b true)) (Oq s1 s2))
def qM50(s1 s2:ByteArray):Tv:=(Tv.abs (Ts.f (Ts.b false) (Ts.b true)) (qM49 s1 s2))
def qY42(s1 s2:ByteArray):Ts:=(fun _=>(Ts.f (Ts.b true) (Ts.b true))) (s1,s2)
def qY43(s1 s2:ByteArray):Tv:=(Tv.con ⟨#[110,111,116]⟩ (qY42 s1 s2))
def qY45(s1 s2:ByteArray):Tv:=(Tv.app (qY43 s1 s2) (Oq s1 s2))
def qY49(s1 s2:ByteArray):Tv:=(Tv.abs (Ts.f (Ts.b false) (Ts.b true)) (qY45 s1 s2))
def qY50(s1 s2:ByteArray):Tv:=(Tv.abs (Ts.f (Ts.b false) (Ts.b true)) (qY49 s1 s2))
def quN(s1 s2:ByteArray):Tv:=(qM50 s1 s2)
def quY(s1 s2:ByteArray):Tv:=(qY50 s1 s2)
def QuR(s1 s2:ByteArray)(wc:World)(v:Value)(w':World):Prop:=∃ b10 S38 c38 B38 m38 n38,v= .pointer (some ⟨b10,0,none⟩)/\wc.heap.size<=b10/\Blk w' b10 44 #[.int .i64 ((Oq s1 s2)).tm.kind,.string ((Oq s1 s2)).tm.name,.int .i64 ((Oq s1 s2)).tm.index,.string ((Oq s1 s2)).tm.type.base,.slice S38 ((Oq s1 s2)).tm.type.args.length c38,.slice B38 ((Oq s1 s2)).tm.args.length m38]/\Fz [b10] n38 TS w' (fun w=>SimsIn w S38 ((Oq s1 s2)).tm.type.args/\TmsIn w B38 ((Oq s1 s2)).tm.args)
theorem Same.new10{b:Nat}{w w1 w2:World}(h:Same [] w w1)(hs:Same [b] w1 w2)(hb:w.heap.size<=b):Same [] w w2:=
 ⟨hs.os.trans h.os,hs.tape.trans h.tape,hs.output.trans h.output,nLT h.size hs.size,fun k hk _=>by
  rw[hs.blk k (nLL hk h.size) (by simp;omega)];exact h.blk k hk (by simp)⟩
theorem K6:zK prog 11=true:=by kernel_rfl
theorem Vq:zK prog 17=true:=by kernel_rfl
theorem Yz:zK prog 18=true:=by kernel_rfl
theorem JQ:zK prog 19=true:=by kernel_rfl
theorem Y9:zK prog 20=true:=by kernel_rfl
theorem qu_r3{wc:World}{b7 b8 b9 c15 n15:Nat}{c4:Option Addr}(s1 s2:ByteArray)(hb7:Blk wc b7 41 #[.string ⟨#[101]⟩,.slice none 0 0])(bd:Blk wc b8 41 #[.string ⟨#[116]⟩,.slice none 0 0])(hb9:Blk wc b9 41 #[.string ((Ts.f (Ts.b false) (Ts.b true))).sm.base,.slice c4 ((Ts.f (Ts.b false) (Ts.b true))).sm.args.length c15])(bc:Fz [] n15 TS wc (fun w=>SimsIn w c4 ((Ts.f (Ts.b false) (Ts.b true))).sm.args))(f:Fr)(Q:Exit->Act->World->Prop)(k0:f 0= .string s1)(k1:f 1= .string s2)(k7:f 7= .pointer (some ⟨b7,0,none⟩))(k8:f 8= .pointer (some ⟨b8,0,none⟩))(k9:f 9= .pointer (some ⟨b9,0,none⟩))(hPQ:PQ Q):WC prog (sl (sr (sr (sr (ob Tryz.f16.body))))) (QRS 51 [10,16,17,18,19,20,21,22,23,24,25,26,27,28,29,30,31,32,33,34,35,36,37,38] f (fun g w'=>Same [] wc w'/\QuR s1 s2 wc (g 10) w') Q) 51 f wc:=by
 have hZ:Same [] wc wc:=Same.refl _ _;refine zX 0 _ k0 nu (zX 1 _ k1 nu (zX 7 _ k7 nu (zX 8 _ k8 nu (zX 9 _ k9 nu ?_))));have z7:=hb7.lt;have z8:=bd.lt;have z9:=hb9.lt;refine oW 24 [16,17,18,19,20,21,22,23,24,25,26,27,28,29,30,31,32,33,34,35,36,37,38,10] (fun ix=>Nat.beq ix 23) (fun ix v wv=>match ix with|0=>v= .string s1|1=>v= .agg #[.string ((Ts.f (Ts.b false) (Ts.b true))).sm.base,.slice c4 ((Ts.f (Ts.b false) (Ts.b true))).sm.args.length c15]|2=>v= .agg cI|3=>SmD [] (qN19 s1 s2) wv (v)|4=>TmD [] (qN20 s1 s2) wv (v)|5=>v= .agg #[.string ((Ts.b false)).sm.base,.slice none ((Ts.b false)).sm.args.length 0]|6=>v= .string s2|7=>v= .agg cI|8=>v= .agg cI|9=>v= .agg cI|10=>SmD [] (qN26 s1 s2) wv (v)|11=>SmD [] (qN27 s1 s2) wv (v)|12=>TmD [] (qN28 s1 s2) wv (v)|13=>TmD [] (qN29 s1 s2) wv (v)|14=>TmD [] (qN30 s1 s2) wv (v)|15=>TmD [] (qN31 s1 s2) wv (v)|16=>TmD [] (qN32 s1 s2) wv (v)|17=>TmD [] (qN33 s1 s2) wv (v)|18=>TmD [] (qN34 s1 s2) wv (v)|19=>TmD [] (qN35 s1 s2) wv (v)|20=>TmD [] (qN36 s1 s2) wv (v)|21=>TmD [] (qN37 s1 s2) wv (v)|22=>TmD [] (Oq s1 s2) wv (v)|23=>∃ b,v= .pointer (some ⟨b,0,none⟩)/\wc.heap.size<=b/\Blk wv b 44 cD|_=>True) kR kR ?_ ?_ ?_
 ·intro ix v wv wv2 h t1
  match ix,h with
  | 0,h=>exact h
  | 1,h=>exact h
  | 2,h=>exact h
  | 3,h=>
   obtain⟨A19,c19,n19,bz,bb⟩:=h;exact⟨A19,c19,n19,bz,bb.tr0 t1⟩
  | 4,h=>
   obtain⟨S20,c20,B20,m20,n20,bx,b6⟩:=h;exact⟨S20,c20,B20,m20,n20,bx,b6.tr0 t1⟩
  | 5,h=>exact h
  | 6,h=>exact h
  | 7,h=>exact h
  | 8,h=>exact h
  | 9,h=>exact h
  | 10,h=>
   obtain⟨A26,c26,n26,bw,b5⟩:=h;exact⟨A26,c26,n26,bw,b5.tr0 t1⟩
  | 11,h=>
   obtain⟨A27,c27,n27,bv,b4⟩:=h;exact⟨A27,c27,n27,bv,b4.tr0 t1⟩
  | 12,h=>
   obtain⟨S28,c28,B28,m28,n28,bu,b3⟩:=h;exact⟨S28,c28,B28,m28,n28,bu,b3.tr0 t1⟩
  | 13,h=>
   obtain⟨S29,c29,B29,m29,n29,bt,b2⟩:=h;exact⟨S29,c29,B29,m29,n29,bt,b2.tr0 t1⟩
  | 14,h=>
   obtain⟨S30,c30,B30,m30,n30,br,b1⟩:=h;exact⟨S30,c30,B30,m30,n30,br,b1.tr0 t1⟩
  | 15,h=>
   obtain⟨S31,c31,B31,m31,n31,bq,ao⟩:=h;exact⟨S31,c31,B31,m31,n31,bq,ao.tr0 t1⟩
  | 16,h=>
   obtain⟨S32,c32,B32,m32,n32,bo,an⟩:=h;exact⟨S32,c32,B32,m32,n32,bo,an.tr0 t1⟩
  | 17,h=>
   obtain⟨S33,c33,B33,m33,n33,bn,ac⟩:=h;exact⟨S33,c33,B33,m33,n33,bn,ac.tr0 t1⟩
  | 18,h=>
   obtain⟨S34,c34,B34,m34,n34,bm,ab⟩:=h;exact⟨S34,c34,B34,m34,n34,bm,ab.tr0 t1⟩
  | 19,h=>
   obtain⟨S35,c35,B35,m35,n35,bk,a9⟩:=h;exact⟨S35,c35,B35,m35,n35,bk,a9.tr0 t1⟩
  | 20,h=>
   obtain⟨S36,c36,B36,m36,n36,bj,a5⟩:=h;exact⟨S36,c36,B36,m36,n36,bj,a5.tr0 t1⟩
  | 21,h=>
   obtain⟨S37,c37,B37,m37,n37,bi,a4⟩:=h;exact⟨S37,c37,B37,m37,n37,bi,a4.tr0 t1⟩
  | 22,h=>
   obtain⟨c2,c1,c3,bf,n38,bh,a2⟩:=h;exact⟨c2,c1,c3,bf,n38,bh,a2.tr0 t1⟩
  | 23,h=>
   obtain⟨be,c0,a3,a1⟩:=h;exact⟨be,c0,a3,a1.tr0 t1⟩
  | _+24,h=>exact trivial
 ·intro ix o hix hoq gg wx t2 hd bg
  match ix,hix,hoq with
  | 0,_,hoq=>
   cases sI hoq;exact oVq (xz (v:= .string _) rfl) rfl
  | 1,_,hoq=>
   cases sI hoq;exact oVq (qw U41 rfl rfl hb9.u.range0 xW) rfl
  | 2,_,hoq=>
   cases sI hoq;exact oVq (qw U41 rfl rfl bd.u.range0 xW) rfl
  | 3,_,hoq=>
   cases sI hoq;refine a7 17 (hd 1 a8) (a7 18 (hd 2 a8) ?_);replace bc:=bc.tr0 t2;refine vZ K6 (Qx [] (Ts.f (Ts.b false) (Ts.b true)) (Ts.b true) _ _ _ _ _ _ wx (by simp) bc (Fz.triv _ _ TS (fun _=>SimsIn.nil))) rfl (fun e' w2 hr=>?_);obtain⟨⟨_,rfl,hd⟩,t3⟩:=hr;exact⟨_,rfl,sB t3,hd,y8⟩
  | 4,_,hoq=>
   cases sI hoq;obtain⟨A19,c19,n19,bz,bb⟩:=hd 3 (zk kR);refine a7 16 (hd 0 a8) (zq 19 _ bz nu ?_);refine vZ Vq (Z7 [] s1 (qN19 s1 s2) _ _ _ wx bb) rfl (fun e' w2 hr=>?_);obtain⟨⟨_,rfl,hd⟩,t4⟩:=hr;exact⟨_,rfl,sB t4,hd,y8⟩
  | 5,_,hoq=>
   cases sI hoq;exact oVq (qw U41 rfl rfl hb7.u.range0 xW) rfl
  | 6,_,hoq=>
   cases sI hoq;exact oVq (xz (v:= .string _) rfl) rfl
  | 7,_,hoq=>
   cases sI hoq;exact oVq (qw U41 rfl rfl bd.u.range0 xW) rfl
  | 8,_,hoq=>
   cases sI hoq;exact oVq (qw U41 rfl rfl bd.u.range0 xW) rfl
  | 9,_,hoq=>
   cases sI hoq;exact oVq (qw U41 rfl rfl bd.u.range0 xW) rfl
  | 10,_,hoq=>
   cases sI hoq;refine a7 24 (hd 8 a8) (a7 25 (hd 9 a8) ?_);refine vZ K6 (Qx [] (Ts.b true) (Ts.b true) _ _ _ _ _ _ wx (by simp) (Fz.triv _ _ TS (fun _=>SimsIn.nil)) (Fz.triv _ _ TS (fun _=>SimsIn.nil))) rfl (fun e' w2 hr=>?_);obtain⟨⟨_,rfl,hd⟩,t5⟩:=hr;exact⟨_,rfl,sB t5,hd,y8⟩
  | 11,_,hoq=>
   cases sI hoq;obtain⟨A26,c26,n26,bw,b5⟩:=hd 10 (zk kR);refine a7 23 (hd 7 a8) (zq 26 _ bw nu ?_);refine vZ K6 (Qx [] (Ts.b true) (qN26 s1 s2) _ _ _ _ _ _ wx (by simp) (Fz.triv _ _ TS (fun _=>SimsIn.nil)) b5) rfl (fun e' w2 hr=>?_);obtain⟨⟨_,rfl,hd⟩,t6⟩:=hr;exact⟨_,rfl,sB t6,hd,y8⟩
  | 12,_,hoq=>
   cases sI hoq;obtain⟨A27,c27,n27,bv,b4⟩:=hd 11 (zk kR);refine a7 22 (hd 6 a8) (zq 27 _ bv nu ?_);refine vZ Vq (Z7 [] s2 (qN27 s1 s2) _ _ _ wx b4) rfl (fun e' w2 hr=>?_);obtain⟨⟨_,rfl,hd⟩,t7⟩:=hr;exact⟨_,rfl,sB t7,hd,y8⟩
  | 13,_,hoq=>
   cases sI hoq;refine vZ Y9 (jw [] 2 wx) rfl (fun e' w2 hr=>?_);obtain⟨⟨_,rfl,hd⟩,t8⟩:=hr;exact⟨_,rfl,sB t8,hd,y8⟩
  | 14,_,hoq=>
   cases sI hoq;refine vZ Y9 (jw [] 0 wx) rfl (fun e' w2 hr=>?_);obtain⟨⟨_,rfl,hd⟩,t9⟩:=hr;exact⟨_,rfl,sB t9,hd,y8⟩
  | 15,_,hoq=>
   cases sI hoq;obtain⟨S29,c29,B29,m29,n29,bt,b2⟩:=hd 13 (zk kR);obtain⟨S30,c30,B30,m30,n30,br,b1⟩:=hd 14 (zk kR);refine zq 29 _ bt nu (zq 30 _ br nu ?_);refine vZ JQ (Qq [] (qN29 s1 s2) (qN30 s1 s2) _ _ _ _ _ _ _ _ _ _ wx (by simp) b2 b1) rfl (fun e' w2 hr=>?_);obtain⟨⟨_,rfl,hd⟩,t10⟩:=hr;exact⟨_,rfl,sB t10,hd,y8⟩
  | 16,_,hoq=>
   cases sI hoq;obtain⟨S28,c28,B28,m28,n28,bu,b3⟩:=hd 12 (zk kR);obtain⟨S31,c31,B31,m31,n31,bq,ao⟩:=hd 15 (zk kR);refine zq 28 _ bu nu (zq 31 _ bq nu ?_);refine vZ JQ (Qq [] (qN28 s1 s2) (qN31 s1 s2) _ _ _ _ _ _ _ _ _ _ wx (by simp) b3 ao) rfl (fun e' w2 hr=>?_);obtain⟨⟨_,rfl,hd⟩,t11⟩:=hr;exact⟨_,rfl,sB t11,hd,y8⟩
  | 17,_,hoq=>
   cases sI hoq;refine vZ Y9 (jw [] 1 wx) rfl (fun e' w2 hr=>?_);obtain⟨⟨_,rfl,hd⟩,t12⟩:=hr;exact⟨_,rfl,sB t12,hd,y8⟩
  | 18,_,hoq=>
   cases sI hoq;refine vZ Y9 (jw [] 0 wx) rfl (fun e' w2 hr=>?_);obtain⟨⟨_,rfl,hd⟩,t13⟩:=hr;exact⟨_,rfl,sB t13,hd,y8⟩
  | 19,_,hoq=>
   cases sI hoq;obtain⟨S33,c33,B33,m33,n33,bn,ac⟩:=hd 17 (zk kR);obtain⟨S34,c34,B34,m34,n34,bm,ab⟩:=hd 18 (zk kR);refine zq 33 _ bn nu (zq 34 _ bm nu ?_);refine vZ JQ (Qq [] (qN33 s1 s2) (qN34 s1 s2) _ _ _ _ _ _ _ _ _ _ wx (by simp) ac ab) rfl (fun e' w2 hr=>?_);obtain⟨⟨_,rfl,hd⟩,t14⟩:=hr;exact⟨_,rfl,sB t14,hd,y8⟩
  | 20,_,hoq=>
   cases sI hoq;obtain⟨S32,c32,B32,m32,n32,bo,an⟩:=hd 16 (zk kR);obtain⟨S35,c35,B35,m35,n35,bk,a9⟩:=hd 19 (zk kR);refine zq 32 _ bo nu (zq 35 _ bk nu ?_);refine vZ JQ (Qq [] (qN32 s1 s2) (qN35 s1 s2) _ _ _ _ _ _ _ _ _ _ wx (by simp) an a9) rfl (fun e' w2 hr=>?_);obtain⟨⟨_,rfl,hd⟩,t15⟩:=hr;exact⟨_,rfl,sB t15,hd,y8⟩
  | 21,_,hoq=>
   cases sI hoq;obtain⟨S36,c36,B36,m36,n36,bj,a5⟩:=hd 20 (zk kR);refine a7 21 (hd 5 a8) (zq 36 _ bj nu ?_);refine vZ Yz (gz [] (Ts.b false) (qN36 s1 s2) _ _ _ _ _ _ _ _ wx (by simp) (Fz.triv _ _ TS (fun _=>SimsIn.nil)) a5) rfl (fun e' w2 hr=>?_);obtain⟨⟨_,rfl,hd⟩,t16⟩:=hr;exact⟨_,rfl,sB t16,hd,y8⟩
  | 22,_,hoq=>
   cases sI hoq;obtain⟨S20,c20,B20,m20,n20,bx,b6⟩:=hd 4 (zk kR);obtain⟨S37,c37,B37,m37,n37,bi,a4⟩:=hd 21 (zk kR);refine zq 20 _ bx nu (zq 37 _ bi nu ?_);refine vZ JQ (Qq [] (qN20 s1 s2) (qN37 s1 s2) _ _ _ _ _ _ _ _ _ _ wx (by simp) b6 a4) rfl (fun e' w2 hr=>?_);obtain⟨⟨_,rfl,hd⟩,t17⟩:=hr;exact⟨_,rfl,sB t17,hd,y8⟩
  | 23,_,hoq=>
   cases sI hoq;have hs0:=t2;refine jK (fun ops Q K=>?_);refine qW (cs:=cD) gY rfl (fun be w1 a1 t18 hr=>?_);exact K _ _ ⟨t18,⟨_,rfl,nLT hs0.size hr,a1⟩,fRq hr a1.lt⟩
  | _+24,hix,_=>exact absurd hix oG
 intro gg w2 t19 hR bg;obtain⟨c2,c1,c3,bf,n38,bh,a2⟩:=hR 22 dE;obtain⟨be,c0,a3,a1⟩:=hR 23 dE;refine xj 38 _ bh nu (xj 10 _ c0 nu ?_);refine zZ a1 rfl rfl jV rfl qz (fun w3 hq t20=>?_);replace hZ:=hZ.trans t19;replace hZ:=hZ.new10 t20 a3;replace a2:=a2.free t20 a1 sp_tm;replace a1:=hq;refine zJ ?_;refine e_R ⟨agA,?_⟩;exact⟨hZ,be,c2,c1,c3,bf,_,rfl,a3,a1,a2⟩
theorem quN_d(s1 s2:ByteArray)(w:World):Calls prog 16 #[.string s1,.string s2,.bool false] w fun e w'=>(∃ z,e= .returned z/\TmD [] (quN s1 s2) w' z)/\Bel w w':=by
 refine enT func16 ntmps16 rfl rfl fun hB=>?_;refine zn2 ?_;refine qW (cs:=cD) gY rfl (fun b6 w1 a3 t1 hr=>?_);have lo6:=hB.ob hr;refine zn4 ?_;refine qq kR (ZK _ _) rfl (fun e' w2 hr=>?_);obtain⟨rfl,t2⟩:=hr;replace t2:=sB t2;refine⟨_,rfl,?_⟩;refine qq kR (ZK _ _) rfl (fun e' w3 hr=>?_);obtain⟨rfl,t3⟩:=hr;replace t3:=sB t3;refine⟨_,rfl,?_⟩;refine qW (cs:=#[.string ⟨#[]⟩,.slice none 0 0]) jv rfl (fun b7 w4 ab t4 hr=>?_);have:=a3.u.ob hr;have lo7:=hB.u.ob hr;refine qW (cs:=#[.string ⟨#[]⟩,.slice none 0 0]) jv rfl (fun b8 w5 an t5 hr=>?_);have:=a3.u.ob hr;have:=ab.ob hr;have lo8:=hB.u.ob hr;refine zZ ab.u rfl rfl xW rfl qz (fun w6 hq t6=>?_);replace ab:=hq;refine zZ an.u rfl rfl xW rfl qz (fun w7 hq t7=>?_);replace an:=hq;refine zn6 ?_;refine qq K6 (Qx [] (Ts.b false) (Ts.b true) none none 0 0 _ _ _ (by simp) (Fz.triv _ _ TS (fun _=>SimsIn.nil)) (Fz.triv _ _ TS (fun _=>SimsIn.nil))) rfl (fun e' w8 hr=>?_);obtain⟨⟨_,rfl,A15,c15,n15,rfl,a1⟩,t8⟩:=hr;replace t8:=sB t8;refine⟨_,rfl,?_⟩;refine yx (cs:=#[.string ⟨#[]⟩,.slice none 0 0]) jv rfl (fun _=>rfl) (fun _=>rfl) xW rfl qz (fun b9 w10 hb9 t9 hr=>?_);refine zn3 ?_;replace a1:=a1.tr0 t9;refine y9 (rg [10] 16 23) (fun g w'=>Same [] w10 w'/\QuR s1 s2 w10 (g 10) w') ?_ (fun g3 w11 hI=>?_)
 ·replace ab:=(ab.tr1 t7 oG).tr0 (t8.t t9);replace an:=an.tr0 (t8.t t9);have hh:=fun f Q k0 k1 k2 k3 k4 kq=>qu_r3 s1 s2 ab an hb9 a1 f Q k0 k1 k2 k3 k4 kq
  exact hh _ _ (by rfl) (by rfl) (by rfl) (by rfl) (by rfl) (by intro d;cases d<;>exact fun _ _ _ _ h=>h)
 obtain⟨t10,ao,S38,c38,B38,m38,n38,e10,a4,a2,a9⟩:=hI;have q15:=a1.le;replace hB:=(((hB.tr0 (t1.t (t2.t (t3.t (t4.t t5))))).tr1 t6 lo7).tr1 t7 lo8).tr0 (t8.t t9);have ac:=nLT (Bel.size hB) a4;replace a1:=a1.tr0 t10;replace a1:=a1.addX (Y:=[ao]) (fun y hy=> .inr (by rw[List.mem_singleton.1 hy];exact nLT q15 a4));replace a4:=ac;refine jj 10 _ e10 nu (zn7 ?_);refine jQ rfl (fun c39=>?_) (fun c39=>?_)
 ·exact absurd c39 dE
 refine zn3 ?_;refine Qz [] [5] [0,1,2,3,4,5] rfl (fun w12 b1=>?_);refine zn3 ?_;replace a1:=a1.tr0 b1;replace a2:=a2.tr0 b1;replace a9:=a9.tr0 b1;refine hcl (fun v wv=>TmD [ao] (qM49 s1 s2) wv (v)) rfl Yz (gz [ao] (Ts.f (Ts.b false) (Ts.b true)) (Oq s1 s2) _ _ _ _ _ _ _ _ w12 (fun x hx=>by rw[List.mem_singleton.1 hx];exact a2.lt) a1 a9) rfl (fun e' w2 hr=>?_) (fun v49 w13 b2 d49=>?_)
 ·obtain⟨⟨_,rfl,hd⟩,t13⟩:=hr;exact⟨_,rfl,sB t13,hd⟩
 obtain⟨S49,c49,B49,m49,n49,e49,b3⟩:=d49;subst e49;replace a1:=a1.tr0 b2;replace a2:=a2.tr0 b2;refine hcl (fun v wv=>TmD [ao] (qM50 s1 s2) wv (v)) rfl Yz (gz [ao] (Ts.f (Ts.b false) (Ts.b true)) (qM49 s1 s2) _ _ _ _ _ _ _ _ w13 (fun x hx=>by rw[List.mem_singleton.1 hx];exact a2.lt) a1 b3) rfl (fun e' w2 hr=>?_) (fun v50 w14 t14 d50=>?_)
 ·obtain⟨⟨_,rfl,hd⟩,t15⟩:=hr;exact⟨_,rfl,sB t15,hd⟩
 obtain⟨S50,c50,B50,m50,n50,e50,a5⟩:=d50;subst e50;refine h1 rfl ?_;refine zZ a3.u rfl rfl jV rfl qz (fun w15 hq t16=>?_);have hsH5:=t16;replace a3:=(((a3.tr0 (t2.t (t3.t (t4.t t5)))).tr1 t6 oG).tr1 t7 oG).tr0 (t8.t (t9.t (t10.t (b1.t (b2.t t14)))));replace a5:=a5.sp1 t16 a3 sp_tm;replace a3:=hq;refine zJ (D0 [] (zn3 ?_));refine xK (.inl rfl) rfl (zW U44 rfl rfl a3.range0 jV) ?_;exact⟨⟨_,rfl,_,_,_,_,_,rfl,a5.nil⟩,hB.u⟩
theorem quY_d(s1 s2:ByteArray)(w:World):Calls prog 16 #[.string s1,.string s2,.bool true] w fun e w'=>(∃ z,e= .returned z/\TmD [] (quY s1 s2) w' z)/\Bel w w':=by
 refine enT func16 ntmps16 rfl rfl fun hB=>?_;refine zn2 ?_;refine qW (cs:=cD) gY rfl (fun b6 w1 a9 t1 hr=>?_);have lo6:=hB.ob hr;refine zn4 ?_;refine qq kR (ZK _ _) rfl (fun e' w2 hr=>?_);obtain⟨rfl,t2⟩:=hr;replace t2:=sB t2;refine⟨_,rfl,?_⟩;refine qq kR (ZK _ _) rfl (fun e' w3 hr=>?_);obtain⟨rfl,t3⟩:=hr;replace t3:=sB t3;refine⟨_,rfl,?_⟩;refine qW (cs:=#[.string ⟨#[]⟩,.slice none 0 0]) jv rfl (fun b7 w4 an t4 hr=>?_);have:=a9.u.ob hr;have lo7:=hB.u.ob hr;refine qW (cs:=#[.string ⟨#[]⟩,.slice none 0 0]) jv rfl (fun b8 w5 b1 t5 hr=>?_);have:=a9.u.ob hr;have:=an.ob hr;have lo8:=hB.u.ob hr;refine zZ an.u rfl rfl xW rfl qz (fun w6 hq t6=>?_);replace an:=hq;refine zZ b1.u rfl rfl xW rfl qz (fun w7 hq t7=>?_);replace b1:=hq;refine zn6 ?_;refine qq K6 (Qx [] (Ts.b false) (Ts.b true) none none 0 0 _ _ _ (by simp) (Fz.triv _ _ TS (fun _=>SimsIn.nil)) (Fz.triv _ _ TS (fun _=>SimsIn.nil))) rfl (fun e' w8 hr=>?_);obtain⟨⟨_,rfl,A15,c15,n15,rfl,a1⟩,t8⟩:=hr;replace t8:=sB t8;refine⟨_,rfl,?_⟩;refine yx (cs:=#[.string ⟨#[]⟩,.slice none 0 0]) jv rfl (fun _=>rfl) (fun _=>rfl) xW rfl qz (fun b9 w10 hb9 t9 hr=>?_);refine zn3 ?_;replace a1:=a1.tr0 t9;refine y9 (rg [10] 16 23) (fun g w'=>Same [] w10 w'/\QuR s1 s2 w10 (g 10) w') ?_ (fun g3 w11 hI=>?_)
 ·replace an:=(an.tr1 t7 oG).tr0 (t8.t t9);replace b1:=b1.tr0 (t8.t t9);have hh:=fun f Q k0 k1 k2 k3 k4 kq=>qu_r3 s1 s2 an b1 hb9 a1 f Q k0 k1 k2 k3 k4 kq
  exact hh _ _ (by rfl) (by rfl) (by rfl) (by rfl) (by rfl) (by intro d;cases d<;>exact fun _ _ _ _ h=>h)
 obtain⟨t10,a5,S38,c38,B38,m38,n38,e10,a3,a2,ac⟩:=hI;have:=nLL a9.u.lt a3;have:=nLL hb9.lt a3;have q15:=a1.le;replace hB:=(((hB.tr0 (t1.t (t2.t (t3.t (t4.t t5))))).tr1 t6 lo7).tr1 t7 lo8).tr0 (t8.t t9);have ao:=nLT (Bel.size hB) a3;replace a1:=a1.tr0 t10;replace a1:=a1.addX (Y:=[a5]) (fun y hy=> .inr (by rw[List.mem_singleton.1 hy];exact nLT q15 a3));replace a3:=ao;refine jj 10 _ e10 nu (zn7 ?_);refine jQ rfl (fun c39=>?_) (fun c39=>?_)
 ·refine Qz [] [6] [0,1,4,2,3,5,6] rfl (fun w12 bb=>?_);refine zn3 ?_;replace a2:=a2.tr0 bb;refine hcl (fun v wv=>SmD [a5] (qY42 s1 s2) wv (v)) rfl K6 (Qx [a5] (Ts.b true) (Ts.b true) _ _ _ _ _ _ w12 (fun x hx=>by rw[List.mem_singleton.1 hx];exact a2.lt) (Fz.triv _ _ TS (fun _=>SimsIn.nil)) (Fz.triv _ _ TS (fun _=>SimsIn.nil))) rfl (fun e' w2 hr=>?_) (fun v42 w13 b5 d42=>?_)
  ·obtain⟨⟨_,rfl,hd⟩,t13⟩:=hr;exact⟨_,rfl,sB t13,hd⟩
  obtain⟨A42,c42,n42,e42,bf⟩:=d42;subst e42;refine hcl (fun v wv=>TmD [a5] (qY43 s1 s2) wv (v)) rfl Vq (Z7 [a5] ⟨#[110,111,116]⟩ (qY42 s1 s2) _ _ _ w13 bf) rfl (fun e' w2 hr=>?_) (fun v43 w14 b4 d43=>?_)
  ·obtain⟨⟨_,rfl,hd⟩,t15⟩:=hr;exact⟨_,rfl,sB t15,hd⟩
  obtain⟨S43,c43,B43,m43,n43,e43,be⟩:=d43;subst e43;replace ac:=ac.tr0 (bb.t (b5.t b4));replace a2:=a2.tr0 (b5.t b4);refine hcl (fun v wv=>TmD [a5] (qY45 s1 s2) wv (v)) rfl JQ (Qq [a5] (qY43 s1 s2) (Oq s1 s2) _ _ _ _ _ _ _ _ _ _ w14 (fun x hx=>by rw[List.mem_singleton.1 hx];exact a2.lt) be ac) rfl (fun e' w2 hr=>?_) (fun v45 w15 t16 d45=>?_)
  ·obtain⟨⟨_,rfl,hd⟩,t17⟩:=hr;exact⟨_,rfl,sB t17,hd⟩
  obtain⟨S45,c45,B45,m45,n45,e45,a4⟩:=d45;subst e45;refine h1 rfl ?_;refine zZ a2.u rfl rfl jV rfl qz (fun w16 hq b3=>?_);have hsH6:=b3;replace a1:=a1.tr0 (bb.t (b5.t (b4.t t16)));replace a1:=a1.in1 b3 (by simp);replace a4:=a4.in1 b3 (by simp);replace a2:=hq;refine zJ (D0 [] (zn3 ?_));refine Qz [] [5] [0,1,2,3,4,5] rfl (fun w17 b2=>?_);refine zn3 ?_;replace a1:=a1.tr0 b2;replace a2:=a2.tr0 b2;replace a4:=a4.tr0 b2;refine hcl (fun v wv=>TmD [a5] (qY49 s1 s2) wv (v)) rfl Yz (gz [a5] (Ts.f (Ts.b false) (Ts.b true)) (qY45 s1 s2) _ _ _ _ _ _ _ _ w17 (fun x hx=>by rw[List.mem_singleton.1 hx];exact a2.lt) a1 a4) rfl (fun e' w2 hr=>?_) (fun v49 w18 bc d49=>?_)
  ·obtain⟨⟨_,rfl,hd⟩,t21⟩:=hr;exact⟨_,rfl,sB t21,hd⟩
  obtain⟨S49,c49,B49,m49,n49,e49,bd⟩:=d49;subst e49;replace a1:=a1.tr0 bc;replace a2:=a2.tr0 bc;refine hcl (fun v wv=>TmD [a5] (qY50 s1 s2) wv (v)) rfl Yz (gz [a5] (Ts.f (Ts.b false) (Ts.b true)) (qY49 s1 s2) _ _ _ _ _ _ _ _ w18 (fun x hx=>by rw[List.mem_singleton.1 hx];exact a2.lt) a1 bd) rfl (fun e' w2 hr=>?_) (fun v50 w19 t22 d50=>?_)
  ·obtain⟨⟨_,rfl,hd⟩,t23⟩:=hr;exact⟨_,rfl,sB t23,hd⟩
  obtain⟨S50,c50,B50,m50,n50,e50,ab⟩:=d50;subst e50;refine h1 rfl ?_;refine zZ a9.u rfl rfl jV rfl qz (fun w20 hq t24=>?_);have hsH5:=t24;replace a9:=(((((a9.tr0 (t2.t (t3.t (t4.t t5)))).tr1 t6 oG).tr1 t7 oG).tr0 (t8.t (t9.t (t10.t (bb.t (b5.t (b4.t t16))))))).tr1 b3 oG).tr0 (b2.t (bc.t t22));replace ab:=ab.sp1 t24 a9 sp_tm;replace a9:=hq;refine zJ (D0 [] (zn3 ?_));refine xK (.inl rfl) rfl (zW U44 rfl rfl a9.range0 jV) ?_;exact⟨⟨_,rfl,_,_,_,_,_,rfl,ab.nil⟩,hB.u⟩
 exact absurd c39 dE
def mS5:Ts:=(Ts.f (Ts.b false) (Ts.b true))
def mS6:Ts:=(Ts.f mS5 (Ts.b true))
def mS7:Ts:=(Ts.f (Ts.b false) mS5)
def mS8:Ts:=(Ts.f mS5 mS6)
def mT26:Tv:=(Tv.var 1)
def mT27:Tv:=(Tv.var 0)
def mT28:Tv:=(Tv.app mT26 mT27)
def mT29:Tv:=(Tv.abs mS5 mT28)
def S9:Tv:=(Tv.abs mS6 mT29)
def mT33:Tv:=(Tv.var 1)
def mT34:Tv:=(Tv.var 0)
def mT35:Tv:=(Tv.app mT33 mT34)
def mT36:Tv:=(Tv.abs mS5 mT35)
def S8:Tv:=(Tv.abs mS8 mT36)
def mT39:Tv:=(Tv.var 0)
def S7:Tv:=(Tv.abs mS5 mT39)
def mT44:Tv:=(Tv.var 1)
def mT46:Tv:=(Tv.var 3)
def mT47:Tv:=(Tv.var 1)
def mT48:Tv:=(Tv.app mT46 mT47)
def mT49:Tv:=(Tv.var 0)
def mT50:Tv:=(Tv.app mT48 mT49)
def mT51:Tv:=(Tv.abs (Ts.b false) mT50)
def mT52:Tv:=(Tv.app mT44 mT51)
def mT53:Tv:=(Tv.abs (Ts.b false) mT52)
def mT54:Tv:=(Tv.abs mS6 mT53)
def S6:Tv:=(Tv.abs mS7 mT54)
def mT58:Ts:=(Ts.f (Ts.b true) (Ts.b true))
def mT61:Tv:=(Tv.var 2)
def mT62:Tv:=(Tv.var 1)
def mT63:Tv:=(Tv.var 0)
def mT64:Tv:=(Tv.app mT62 mT63)
def mT65:Tv:=(Tv.app mT61 mT64)
def mT66:Tv:=(Tv.abs (Ts.b false) mT65)
def mT67:Tv:=(Tv.abs mS5 mT66)
def S5:Tv:=(Tv.abs mT58 mT67)
def mT73:Ts:=(Ts.f (Ts.b true) (Ts.b true))
def mT74:Ts:=(Ts.f (Ts.b true) mT73)
def mT77:Tv:=(Tv.var 2)
def mT78:Tv:=(Tv.var 3)
def mT79:Tv:=(Tv.var 0)
def mT80:Tv:=(Tv.app mT78 mT79)
def mT81:Tv:=(Tv.app mT77 mT80)
def mT82:Tv:=(Tv.var 1)
def mT83:Tv:=(Tv.var 0)
def mT84:Tv:=(Tv.app mT82 mT83)
def mT85:Tv:=(Tv.app mT81 mT84)
def mT86:Tv:=(Tv.abs mS5 mT85)
def mT87:Tv:=(Tv.abs mS6 mT86)
def mT88:Tv:=(Tv.abs mT74 mT87)
def S4:Tv:=(Tv.abs mS6 mT88)
def YW:List Tv:=[S9,S8,S7,S6,S5,S4]
def MnR(wc:World)(v:Value)(w':World):Prop:=∃ b90 S30 c30 B30 m30 S37 c37 B37 m37 S40 c40 B40 m40 S55 c55 B55 m55 S68 c68 B68 m68 S89 c89 B89 m89,v= .slice (some ⟨b90,0,none⟩) 6 6/\wc.heap.size<=b90/\Blk w' b90 44 #[.int .i64 (S9).tm.kind,.string (S9).tm.name,.int .i64 (S9).tm.index,.string (S9).tm.type.base,.slice S30 (S9).tm.type.args.length c30,.slice B30 (S9).tm.args.length m30,.int .i64 (S8).tm.kind,.string (S8).tm.name,.int .i64 (S8).tm.index,.string (S8).tm.type.base,.slice S37 (S8).tm.type.args.length c37,.slice B37 (S8).tm.args.length m37,.int .i64 (S7).tm.kind,.string (S7).tm.name,.int .i64 (S7).tm.index,.string (S7).tm.type.base,.slice S40 (S7).tm.type.args.length c40,.slice B40 (S7).tm.args.length m40,.int .i64 (S6).tm.kind,.string (S6).tm.name,.int .i64 (S6).tm.index,.string (S6).tm.type.base,.slice S55 (S6).tm.type.args.length c55,.slice B55 (S6).tm.args.length m55,.int .i64 (S5).tm.kind,.string (S5).tm.name,.int .i64 (S5).tm.index,.string (S5).tm.type.base,.slice S68 (S5).tm.type.args.length c68,.slice B68 (S5).tm.args.length m68,.int .i64 (S4).tm.kind,.string (S4).tm.name,.int .i64 (S4).tm.index,.string (S4).tm.type.base,.slice S89 (S4).tm.type.args.length c89,.slice B89 (S4).tm.args.length m89]/\Fz [] b90 TS w' (fun w=>SimsIn w S30 (S9).tm.type.args/\TmsIn w B30 (S9).tm.args)/\Fz [] b90 TS w' (fun w=>SimsIn w S37 (S8).tm.type.args/\TmsIn w B37 (S8).tm.args)/\Fz [] b90 TS w' (fun w=>SimsIn w S40 (S7).tm.type.args/\TmsIn w B40 (S7).tm.args)/\Fz [] b90 TS w' (fun w=>SimsIn w S55 (S6).tm.type.args/\TmsIn w B55 (S6).tm.args)/\Fz [] b90 TS w' (fun w=>SimsIn w S68 (S5).tm.type.args/\TmsIn w B68 (S5).tm.args)/\Fz [] b90 TS w' (fun w=>SimsIn w S89 (S4).tm.type.args/\TmsIn w B89 (S4).tm.args)
theorem MnR.tr0{wc w1 w2:World}{v:Value}(h:MnR wc v w1)(hs:Same [] w1 w2):MnR wc v w2:=by
 obtain⟨b90,S30,c30,B30,m30,S37,c37,B37,m37,S40,c40,B40,m40,S55,c55,B55,m55,S68,c68,B68,m68,S89,c89,B89,m89,e,lo,hb,a9,a5,a4,a3,a2,a1⟩:=h;exact⟨b90,S30,c30,B30,m30,S37,c37,B37,m37,S40,c40,B40,m40,S55,c55,B55,m55,S68,c68,B68,m68,S89,c89,B89,m89,e,lo,hb.tr0 hs,a9.tr0 hs,a5.tr0 hs,a4.tr0 hs,a3.tr0 hs,a2.tr0 hs,a1.tr0 hs⟩
theorem mean_r6{wc:World}{b3 b4 b5 b6 b7 b8 c14 c17 c20 c23 n14 n17 n20 n23:Nat}{A14 A17 A20 A23:Option Addr}(hb3:Blk wc b3 41 #[.string ⟨#[101]⟩,.slice none 0 0])(hb4:Blk wc b4 41 #[.string ⟨#[116]⟩,.slice none 0 0])(hb5:Blk wc b5 41 #[.string (mS5).sm.base,.slice A14 (mS5).sm.args.length c14])(hb6:Blk wc b6 41 #[.string (mS6).sm.base,.slice A17 (mS6).sm.args.length c17])(hb7:Blk wc b7 41 #[.string (mS7).sm.base,.slice A20 (mS7).sm.args.length c20])(hb8:Blk wc b8 41 #[.string (mS8).sm.base,.slice A23 (mS8).sm.args.length c23])(a1:Fz [] n14 TS wc (fun w=>SimsIn w A14 (mS5).sm.args))(a2:Fz [] n17 TS wc (fun w=>SimsIn w A17 (mS6).sm.args))(d2:Fz [] n20 TS wc (fun w=>SimsIn w A20 (mS7).sm.args))(cz:Fz [] n23 TS wc (fun w=>SimsIn w A23 (mS8).sm.args))(f:Fr)(Q:Exit->Act->World->Prop)(k3:f 3= .pointer (some ⟨b3,0,none⟩))(k4:f 4= .pointer (some ⟨b4,0,none⟩))(k5:f 5= .pointer (some ⟨b5,0,none⟩))(k6:f 6= .pointer (some ⟨b6,0,none⟩))(k7:f 7= .pointer (some ⟨b7,0,none⟩))(k8:f 8= .pointer (some ⟨b8,0,none⟩))(hPQ:PQ Q):WC Tryz.prog (sl (sr (sr (sr (sr (sr (sr (ob Tryz.f13.body)))))))) (QRS 128 [9,24,25,26,27,28,29,30,31,32,33,34,35,36,37,38,39,40,41,42,43,44,45,46,47,48,49,50,51,52,53,54,55,56,57,58,59,60,61,62,63,64,65,66,67,68,69,70,71,72,73,74,75,76,77,78,79,80,81,82,83,84,85,86,87,88,89,90] f (fun g w'=>Same [] wc w'/\MnR wc (g 9) w') Q) 128 f wc:=by
 have hZ:Same [] wc wc:=Same.refl _ _;refine zX 3 _ k3 nu (zX 4 _ k4 nu (zX 5 _ k5 nu (zX 6 _ k6 nu (zX 7 _ k7 nu (zX 8 _ k8 nu ?_)))));refine uz [] [0,1,7,8,14,17,18,19,21,32,33,35,36,45,46,47,48,51,52,2,3,4,5,6,9,10,11,12,13,15,16,20,22,23,24,25,26,27,28,29,30,31,34,37,38,39,40,41,42,43,44,49,50,53,54,55,56,57,58,59,60,61,62,63,64,65,66,67] rfl (fun w1 s1=>?_);have e9:=s1;refine zn19 ?_;refine hcl (fun v wv=>TmD [] mT26 wv (v)) rfl Y9 (jw [] 1 w1) rfl (fun e' w2 hr=>?_) (fun v26 w2 s2 d26=>?_)
 ·obtain⟨⟨_,rfl,hd⟩,s3⟩:=hr;exact⟨_,rfl,sB s3,hd⟩
 obtain⟨S26,c26,B26,m26,n26,e26,cy⟩:=d26;subst e26;refine hcl (fun v wv=>TmD [] mT27 wv (v)) rfl Y9 (jw [] 0 w2) rfl (fun e' w2 hr=>?_) (fun v27 w3 s4 d27=>?_)
 ·obtain⟨⟨_,rfl,hd⟩,s5⟩:=hr;exact⟨_,rfl,sB s5,hd⟩
 obtain⟨S27,c27,B27,m27,n27,e27,e8⟩:=d27;subst e27;replace cy:=cy.tr0 s4;refine hcl (fun v wv=>TmD [] mT28 wv (v)) rfl JQ (Qq [] mT26 mT27 _ _ _ _ _ _ _ _ _ _ w3 (by simp) cy e8) rfl (fun e' w2 hr=>?_) (fun v28 w4 s6 d28=>?_)
 ·obtain⟨⟨_,rfl,hd⟩,s7⟩:=hr;exact⟨_,rfl,sB s7,hd⟩
 obtain⟨S28,c28,B28,m28,n28,e28,e7⟩:=d28;subst e28;replace a1:=a1.tr0 (s1.t (s2.t (s4.t s6)));refine hcl (fun v wv=>TmD [] mT29 wv (v)) rfl Yz (gz [] mS5 mT28 _ _ _ _ _ _ _ _ w4 (by simp) a1 e7) rfl (fun e' w2 hr=>?_) (fun v29 w5 s8 d29=>?_)
 ·obtain⟨⟨_,rfl,hd⟩,s9⟩:=hr;exact⟨_,rfl,sB s9,hd⟩
 obtain⟨S29,c29,B29,m29,n29,e29,e6⟩:=d29;subst e29;replace a2:=a2.tr0 (s1.t (s2.t (s4.t (s6.t s8))));refine hcl (fun v wv=>TmD [] S9 wv (v)) rfl Yz (gz [] mS6 mT29 _ _ _ _ _ _ _ _ w5 (by simp) a2 e6) rfl (fun e' w2 hr=>?_) (fun v30 w6 d4 d30=>?_)
 ·obtain⟨⟨_,rfl,hd⟩,s11⟩:=hr;exact⟨_,rfl,sB s11,hd⟩
 obtain⟨S30,c30,B30,m30,n30,e30,ac⟩:=d30;subst e30;refine hcl (fun v wv=>TmD [] mT33 wv (v)) rfl Y9 (jw [] 1 w6) rfl (fun e' w2 hr=>?_) (fun v33 w7 cg d33=>?_)
 ·obtain⟨⟨_,rfl,hd⟩,s13⟩:=hr;exact⟨_,rfl,sB s13,hd⟩
 obtain⟨S33,c33,B33,m33,n33,e33,cx⟩:=d33;subst e33;refine hcl (fun v wv=>TmD [] mT34 wv (v)) rfl Y9 (jw [] 0 w7) rfl (fun e' w2 hr=>?_) (fun v34 w8 c9 d34=>?_)
 ·obtain⟨⟨_,rfl,hd⟩,s15⟩:=hr;exact⟨_,rfl,sB s15,hd⟩
 obtain⟨S34,c34,B34,m34,n34,e34,e5⟩:=d34;subst e34;replace cx:=cx.tr0 c9;refine hcl (fun v wv=>TmD [] mT35 wv (v)) rfl JQ (Qq [] mT33 mT34 _ _ _ _ _ _ _ _ _ _ w8 (by simp) cx e5) rfl (fun e' w2 hr=>?_) (fun v35 w9 cf d35=>?_)
 ·obtain⟨⟨_,rfl,hd⟩,s17⟩:=hr;exact⟨_,rfl,sB s17,hd⟩
 obtain⟨S35,c35,B35,m35,n35,e35,dz⟩:=d35;subst e35;replace a1:=a1.tr0 (s8.t (d4.t (cg.t (c9.t cf))));refine hcl (fun v wv=>TmD [] mT36 wv (v)) rfl Yz (gz [] mS5 mT35 _ _ _ _ _ _ _ _ w9 (by simp) a1 dz) rfl (fun e' w2 hr=>?_) (fun v36 w10 ce d36=>?_)
 ·obtain⟨⟨_,rfl,hd⟩,s19⟩:=hr;exact⟨_,rfl,sB s19,hd⟩
 obtain⟨S36,c36,B36,m36,n36,e36,dy⟩:=d36;subst e36;replace cz:=cz.tr0 (s1.t (s2.t (s4.t (s6.t (s8.t (d4.t (cg.t (c9.t (cf.t ce)))))))));refine hcl (fun v wv=>TmD [] S8 wv (v)) rfl Yz (gz [] mS8 mT36 _ _ _ _ _ _ _ _ w10 (by simp) cz dy) rfl (fun e' w2 hr=>?_) (fun v37 w11 d3 d37=>?_)
 ·obtain⟨⟨_,rfl,hd⟩,s21⟩:=hr;exact⟨_,rfl,sB s21,hd⟩
 obtain⟨S37,c37,B37,m37,n37,e37,ab⟩:=d37;subst e37;refine hcl (fun v wv=>TmD [] mT39 wv (v)) rfl Y9 (jw [] 0 w11) rfl (fun e' w2 hr=>?_) (fun v39 w12 cd d39=>?_)
 ·obtain⟨⟨_,rfl,hd⟩,s23⟩:=hr;exact⟨_,rfl,sB s23,hd⟩
 obtain⟨S39,c39,B39,m39,n39,e39,dx⟩:=d39;subst e39;replace a1:=a1.tr0 (ce.t (d3.t cd));refine hcl (fun v wv=>TmD [] S7 wv (v)) rfl Yz (gz [] mS5 mT39 _ _ _ _ _ _ _ _ w12 (by simp) a1 dx) rfl (fun e' w2 hr=>?_) (fun v40 w13 cc d40=>?_)
 ·obtain⟨⟨_,rfl,hd⟩,s25⟩:=hr;exact⟨_,rfl,sB s25,hd⟩
 obtain⟨S40,c40,B40,m40,n40,e40,a9⟩:=d40;subst e40;refine hcl (fun v wv=>TmD [] mT44 wv (v)) rfl Y9 (jw [] 1 w13) rfl (fun e' w2 hr=>?_) (fun v44 w14 c8 d44=>?_)
 ·obtain⟨⟨_,rfl,hd⟩,s27⟩:=hr;exact⟨_,rfl,sB s27,hd⟩
 obtain⟨S44,c44,B44,m44,n44,e44,cw⟩:=d44;subst e44;refine hcl (fun v wv=>TmD [] mT46 wv (v)) rfl Y9 (jw [] 3 w14) rfl (fun e' w2 hr=>?_) (fun v46 w15 c0 d46=>?_)
 ·obtain⟨⟨_,rfl,hd⟩,s29⟩:=hr;exact⟨_,rfl,sB s29,hd⟩
 obtain⟨S46,c46,B46,m46,n46,e46,cv⟩:=d46;subst e46;refine hcl (fun v wv=>TmD [] mT47 wv (v)) rfl Y9 (jw [] 1 w15) rfl (fun e' w2 hr=>?_) (fun v47 w16 bk d47=>?_)
 ·obtain⟨⟨_,rfl,hd⟩,s31⟩:=hr;exact⟨_,rfl,sB s31,hd⟩
 obtain⟨S47,c47,B47,m47,n47,e47,dw⟩:=d47;subst e47;replace cv:=cv.tr0 bk;refine hcl (fun v wv=>TmD [] mT48 wv (v)) rfl JQ (Qq [] mT46 mT47 _ _ _ _ _ _ _ _ _ _ w16 (by simp) cv dw) rfl (fun e' w2 hr=>?_) (fun v48 w17 bz d48=>?_)
 ·obtain⟨⟨_,rfl,hd⟩,s33⟩:=hr;exact⟨_,rfl,sB s33,hd⟩
 obtain⟨S48,c48,B48,m48,n48,e48,cu⟩:=d48;subst e48;refine hcl (fun v wv=>TmD [] mT49 wv (v)) rfl Y9 (jw [] 0 w17) rfl (fun e' w2 hr=>?_) (fun v49 w18 bj d49=>?_)
 ·obtain⟨⟨_,rfl,hd⟩,s35⟩:=hr;exact⟨_,rfl,sB s35,hd⟩
 obtain⟨S49,c49,B49,m49,n49,e49,dv⟩:=d49;subst e49;replace cu:=cu.tr0 bj;refine hcl (fun v wv=>TmD [] mT50 wv (v)) rfl JQ (Qq [] mT48 mT49 _ _ _ _ _ _ _ _ _ _ w18 (by simp) cu dv) rfl (fun e' w2 hr=>?_) (fun v50 w19 bx d50=>?_)
 ·obtain⟨⟨_,rfl,hd⟩,s37⟩:=hr;exact⟨_,rfl,sB s37,hd⟩
 obtain⟨S50,c50,B50,m50,n50,e50,du⟩:=d50;subst e50;refine hcl (fun v wv=>TmD [] mT51 wv (v)) rfl Yz (gz [] (Ts.b false) mT50 _ _ _ _ _ _ _ _ w19 (by simp) (Fz.triv _ _ TS (fun _=>SimsIn.nil)) du) rfl (fun e' w2 hr=>?_) (fun v51 w20 bw d51=>?_)
 ·obtain⟨⟨_,rfl,hd⟩,s39⟩:=hr;exact⟨_,rfl,sB s39,hd⟩
 obtain⟨S51,c51,B51,m51,n51,e51,dr⟩:=d51;subst e51;replace cw:=cw.tr0 (c0.t (bk.t (bz.t (bj.t (bx.t bw)))));refine hcl (fun v wv=>TmD [] mT52 wv (v)) rfl JQ (Qq [] mT44 mT51 _ _ _ _ _ _ _ _ _ _ w20 (by simp) cw dr) rfl (fun e' w2 hr=>?_) (fun v52 w21 c7 d52=>?_)
 ·obtain⟨⟨_,rfl,hd⟩,s41⟩:=hr;exact⟨_,rfl,sB s41,hd⟩
 obtain⟨S52,c52,B52,m52,n52,e52,dq⟩:=d52;subst e52;refine hcl (fun v wv=>TmD [] mT53 wv (v)) rfl Yz (gz [] (Ts.b false) mT52 _ _ _ _ _ _ _ _ w21 (by simp) (Fz.triv _ _ TS (fun _=>SimsIn.nil)) dq) rfl (fun e' w2 hr=>?_) (fun v53 w22 c6 d53=>?_)
 ·obtain⟨⟨_,rfl,hd⟩,s43⟩:=hr;exact⟨_,rfl,sB s43,hd⟩
 obtain⟨S53,c53,B53,m53,n53,e53,dp⟩:=d53;subst e53;replace a2:=a2.tr0 (d4.t (cg.t (c9.t (cf.t (ce.t (d3.t (cd.t (cc.t (c8.t (c0.t (bk.t (bz.t (bj.t (bx.t (bw.t (c7.t c6))))))))))))))));refine hcl (fun v wv=>TmD [] mT54 wv (v)) rfl Yz (gz [] mS6 mT53 _ _ _ _ _ _ _ _ w22 (by simp) a2 dp) rfl (fun e' w2 hr=>?_) (fun v54 w23 c5 d54=>?_)
 ·obtain⟨⟨_,rfl,hd⟩,s45⟩:=hr;exact⟨_,rfl,sB s45,hd⟩
 obtain⟨S54,c54,B54,m54,n54,e54,dn⟩:=d54;subst e54;replace d2:=d2.tr0 (s1.t (s2.t (s4.t (s6.t (s8.t (d4.t (cg.t (c9.t (cf.t (ce.t (d3.t (cd.t (cc.t (c8.t (c0.t (bk.t (bz.t (bj.t (bx.t (bw.t (c7.t (c6.t c5))))))))))))))))))))));refine hcl (fun v wv=>TmD [] S6 wv (v)) rfl Yz (gz [] mS7 mT54 _ _ _ _ _ _ _ _ w23 (by simp) d2 dn) rfl (fun e' w2 hr=>?_) (fun v55 w24 cb d55=>?_)
 ·obtain⟨⟨_,rfl,hd⟩,s47⟩:=hr;exact⟨_,rfl,sB s47,hd⟩
 obtain⟨S55,c55,B55,m55,n55,e55,a5⟩:=d55;subst e55;refine hcl (fun v wv=>SmD [] mT58 wv (v)) rfl K6 (Qx [] (Ts.b true) (Ts.b true) _ _ _ _ _ _ w24 (by simp) (Fz.triv _ _ TS (fun _=>SimsIn.nil)) (Fz.triv _ _ TS (fun _=>SimsIn.nil))) rfl (fun e' w2 hr=>?_) (fun v58 w25 c4 d58=>?_)
 ·obtain⟨⟨_,rfl,hd⟩,s49⟩:=hr;exact⟨_,rfl,sB s49,hd⟩
 obtain⟨A58,c58,n58,e58,cr⟩:=d58;subst e58;refine hcl (fun v wv=>TmD [] mT61 wv (v)) rfl Y9 (jw [] 2 w25) rfl (fun e' w2 hr=>?_) (fun v61 w26 bv d61=>?_)
 ·obtain⟨⟨_,rfl,hd⟩,s51⟩:=hr;exact⟨_,rfl,sB s51,hd⟩
 obtain⟨S61,c61,B61,m61,n61,e61,cq⟩:=d61;subst e61;refine hcl (fun v wv=>TmD [] mT62 wv (v)) rfl Y9 (jw [] 1 w26) rfl (fun e' w2 hr=>?_) (fun v62 w27 bi d62=>?_)
 ·obtain⟨⟨_,rfl,hd⟩,s53⟩:=hr;exact⟨_,rfl,sB s53,hd⟩
 obtain⟨S62,c62,B62,m62,n62,e62,cp⟩:=d62;subst e62;refine hcl (fun v wv=>TmD [] mT63 wv (v)) rfl Y9 (jw [] 0 w27) rfl (fun e' w2 hr=>?_) (fun v63 w28 bd d63=>?_)
 ·obtain⟨⟨_,rfl,hd⟩,s55⟩:=hr;exact⟨_,rfl,sB s55,hd⟩
 obtain⟨S63,c63,B63,m63,n63,e63,dm⟩:=d63;subst e63;replace cp:=cp.tr0 bd;refine hcl (fun v wv=>TmD [] mT64 wv (v)) rfl JQ (Qq [] mT62 mT63 _ _ _ _ _ _ _ _ _ _ w28 (by simp) cp dm) rfl (fun e' w2 hr=>?_) (fun v64 w29 bh d64=>?_)
 ·obtain⟨⟨_,rfl,hd⟩,s57⟩:=hr;exact⟨_,rfl,sB s57,hd⟩
 obtain⟨S64,c64,B64,m64,n64,e64,dk⟩:=d64;subst e64;replace cq:=cq.tr0 (bi.t (bd.t bh));refine hcl (fun v wv=>TmD [] mT65 wv (v)) rfl JQ (Qq [] mT61 mT64 _ _ _ _ _ _ _ _ _ _ w29 (by simp) cq dk) rfl (fun e' w2 hr=>?_) (fun v65 w30 bu d65=>?_)
 ·obtain⟨⟨_,rfl,hd⟩,s59⟩:=hr;exact⟨_,rfl,sB s59,hd⟩
 obtain⟨S65,c65,B65,m65,n65,e65,dj⟩:=d65;subst e65;refine hcl (fun v wv=>TmD [] mT66 wv (v)) rfl Yz (gz [] (Ts.b false) mT65 _ _ _ _ _ _ _ _ w30 (by simp) (Fz.triv _ _ TS (fun _=>SimsIn.nil)) dj) rfl (fun e' w2 hr=>?_) (fun v66 w31 bt d66=>?_)
 ·obtain⟨⟨_,rfl,hd⟩,s61⟩:=hr;exact⟨_,rfl,sB s61,hd⟩
 obtain⟨S66,c66,B66,m66,n66,e66,di⟩:=d66;subst e66;replace a1:=a1.tr0 (cc.t (c8.t (c0.t (bk.t (bz.t (bj.t (bx.t (bw.t (c7.t (c6.t (c5.t (cb.t (c4.t (bv.t (bi.t (bd.t (bh.t (bu.t bt))))))))))))))))));refine hcl (fun v wv=>TmD [] mT67 wv (v)) rfl Yz (gz [] mS5 mT66 _ _ _ _ _ _ _ _ w31 (by simp) a1 di) rfl (fun e' w2 hr=>?_) (fun v67 w32 br d67=>?_)
 ·obtain⟨⟨_,rfl,hd⟩,s63⟩:=hr;exact⟨_,rfl,sB s63,hd⟩
 obtain⟨S67,c67,B67,m67,n67,e67,dh⟩:=d67;subst e67;replace cr:=cr.tr0 (bv.t (bi.t (bd.t (bh.t (bu.t (bt.t br))))));refine hcl (fun v wv=>TmD [] S5 wv (v)) rfl Yz (gz [] mT58 mT67 _ _ _ _ _ _ _ _ w32 (by simp) cr dh) rfl (fun e' w2 hr=>?_) (fun v68 w33 c3 d68=>?_)
 ·obtain⟨⟨_,rfl,hd⟩,s65⟩:=hr;exact⟨_,rfl,sB s65,hd⟩
 obtain⟨S68,c68,B68,m68,n68,e68,a4⟩:=d68;subst e68;refine hcl (fun v wv=>SmD [] mT73 wv (v)) rfl K6 (Qx [] (Ts.b true) (Ts.b true) _ _ _ _ _ _ w33 (by simp) (Fz.triv _ _ TS (fun _=>SimsIn.nil)) (Fz.triv _ _ TS (fun _=>SimsIn.nil))) rfl (fun e' w2 hr=>?_) (fun v73 w34 bq d73=>?_)
 ·obtain⟨⟨_,rfl,hd⟩,s67⟩:=hr;exact⟨_,rfl,sB s67,hd⟩
 obtain⟨A73,c73,n73,e73,dg⟩:=d73;subst e73;refine hcl (fun v wv=>SmD [] mT74 wv (v)) rfl K6 (Qx [] (Ts.b true) mT73 _ _ _ _ _ _ w34 (by simp) (Fz.triv _ _ TS (fun _=>SimsIn.nil)) dg) rfl (fun e' w2 hr=>?_) (fun v74 w35 bo d74=>?_)
 ·obtain⟨⟨_,rfl,hd⟩,s69⟩:=hr;exact⟨_,rfl,sB s69,hd⟩
 obtain⟨A74,c74,n74,e74,co⟩:=d74;subst e74;refine hcl (fun v wv=>TmD [] mT77 wv (v)) rfl Y9 (jw [] 2 w35) rfl (fun e' w2 hr=>?_) (fun v77 w36 bg d77=>?_)
 ·obtain⟨⟨_,rfl,hd⟩,s71⟩:=hr;exact⟨_,rfl,sB s71,hd⟩
 obtain⟨S77,c77,B77,m77,n77,e77,cn⟩:=d77;subst e77;refine hcl (fun v wv=>TmD [] mT78 wv (v)) rfl Y9 (jw [] 3 w36) rfl (fun e' w2 hr=>?_) (fun v78 w37 bc d78=>?_)
 ·obtain⟨⟨_,rfl,hd⟩,s73⟩:=hr;exact⟨_,rfl,sB s73,hd⟩
 obtain⟨S78,c78,B78,m78,n78,e78,cm⟩:=d78;subst e78;refine hcl (fun v wv=>TmD [] mT79 wv (v)) rfl Y9 (jw [] 0 w37) rfl (fun e' w2 hr=>?_) (fun v79 w38 b1 d79=>?_)
 ·obtain⟨⟨_,rfl,hd⟩,s75⟩:=hr;exact⟨_,rfl,sB s75,hd⟩
 obtain⟨S79,c79,B79,m79,n79,e79,df⟩:=d79;subst e79;replace cm:=cm.tr0 b1;refine hcl (fun v wv=>TmD [] mT80 wv (v)) rfl JQ (Qq [] mT78 mT79 _ _ _ _ _ _ _ _ _ _ w38 (by simp) cm df) rfl (fun e' w2 hr=>?_) (fun v80 w39 bb d80=>?_)
 ·obtain⟨⟨_,rfl,hd⟩,s77⟩:=hr;exact⟨_,rfl,sB s77,hd⟩
 obtain⟨S80,c80,B80,m80,n80,e80,de⟩:=d80;subst e80;replace cn:=cn.tr0 (bc.t (b1.t bb));refine hcl (fun v wv=>TmD [] mT81 wv (v)) rfl JQ (Qq [] mT77 mT80 _ _ _ _ _ _ _ _ _ _ w39 (by simp) cn de) rfl (fun e' w2 hr=>?_) (fun v81 w40 bf d81=>?_)
 ·obtain⟨⟨_,rfl,hd⟩,s79⟩:=hr;exact⟨_,rfl,sB s79,hd⟩
 obtain⟨S81,c81,B81,m81,n81,e81,ck⟩:=d81;subst e81;refine hcl (fun v wv=>TmD [] mT82 wv (v)) rfl Y9 (jw [] 1 w40) rfl (fun e' w2 hr=>?_) (fun v82 w41 b9 d82=>?_)
 ·obtain⟨⟨_,rfl,hd⟩,s81⟩:=hr;exact⟨_,rfl,sB s81,hd⟩
 obtain⟨S82,c82,B82,m82,n82,e82,cj⟩:=d82;subst e82;refine hcl (fun v wv=>TmD [] mT83 wv (v)) rfl Y9 (jw [] 0 w41) rfl (fun e' w2 hr=>?_) (fun v83 w42 ao d83=>?_)
 ·obtain⟨⟨_,rfl,hd⟩,s83⟩:=hr;exact⟨_,rfl,sB s83,hd⟩
 obtain⟨S83,c83,B83,m83,n83,e83,dc⟩:=d83;subst e83;replace cj:=cj.tr0 ao;refine hcl (fun v wv=>TmD [] mT84 wv (v)) rfl JQ (Qq [] mT82 mT83 _ _ _ _ _ _ _ _ _ _ w42 (by simp) cj dc) rfl (fun e' w2 hr=>?_) (fun v84 w43 b2 d84=>?_)
 ·obtain⟨⟨_,rfl,hd⟩,s85⟩:=hr;exact⟨_,rfl,sB s85,hd⟩
 obtain⟨S84,c84,B84,m84,n84,e84,db⟩:=d84;subst e84;replace ck:=ck.tr0 (b9.t (ao.t b2));refine hcl (fun v wv=>TmD [] mT85 wv (v)) rfl JQ (Qq [] mT81 mT84 _ _ _ _ _ _ _ _ _ _ w43 (by simp) ck db) rfl (fun e' w2 hr=>?_) (fun v85 w44 be d85=>?_)
 ·obtain⟨⟨_,rfl,hd⟩,s87⟩:=hr;exact⟨_,rfl,sB s87,hd⟩
 obtain⟨S85,c85,B85,m85,n85,e85,da⟩:=d85;subst e85;replace a1:=a1.tr0 (br.t (c3.t (bq.t (bo.t (bg.t (bc.t (b1.t (bb.t (bf.t (b9.t (ao.t (b2.t be))))))))))));refine hcl (fun v wv=>TmD [] mT86 wv (v)) rfl Yz (gz [] mS5 mT85 _ _ _ _ _ _ _ _ w44 (by simp) a1 da) rfl (fun e' w2 hr=>?_) (fun v86 w45 bn d86=>?_)
 ·obtain⟨⟨_,rfl,hd⟩,s89⟩:=hr;exact⟨_,rfl,sB s89,hd⟩
 obtain⟨S86,c86,B86,m86,n86,e86,d9⟩:=d86;subst e86;replace a2:=a2.tr0 (c5.t (cb.t (c4.t (bv.t (bi.t (bd.t (bh.t (bu.t (bt.t (br.t (c3.t (bq.t (bo.t (bg.t (bc.t (b1.t (bb.t (bf.t (b9.t (ao.t (b2.t (be.t bn))))))))))))))))))))));refine hcl (fun v wv=>TmD [] mT87 wv (v)) rfl Yz (gz [] mS6 mT86 _ _ _ _ _ _ _ _ w45 (by simp) a2 d9) rfl (fun e' w2 hr=>?_) (fun v87 w46 bm d87=>?_)
 ·obtain⟨⟨_,rfl,hd⟩,s91⟩:=hr;exact⟨_,rfl,sB s91,hd⟩
 obtain⟨S87,c87,B87,m87,n87,e87,d8⟩:=d87;subst e87;replace co:=co.tr0 (bg.t (bc.t (b1.t (bb.t (bf.t (b9.t (ao.t (b2.t (be.t (bn.t bm))))))))));refine hcl (fun v wv=>TmD [] mT88 wv (v)) rfl Yz (gz [] mT74 mT87 _ _ _ _ _ _ _ _ w46 (by simp) co d8) rfl (fun e' w2 hr=>?_) (fun v88 w47 c2 d88=>?_)
 ·obtain⟨⟨_,rfl,hd⟩,s93⟩:=hr;exact⟨_,rfl,sB s93,hd⟩
 obtain⟨S88,c88,B88,m88,n88,e88,d7⟩:=d88;subst e88;replace a2:=a2.tr0 (bm.t c2);refine hcl (fun v wv=>TmD [] S4 wv (v)) rfl Yz (gz [] mS6 mT88 _ _ _ _ _ _ _ _ w47 (by simp) a2 d7) rfl (fun e' w2 hr=>?_) (fun v89 w48 ca d89=>?_)
 ·obtain⟨⟨_,rfl,hd⟩,s95⟩:=hr;exact⟨_,rfl,sB s95,hd⟩
 obtain⟨S89,c89,B89,m89,n89,e89,an⟩:=d89;subst e89;replace e9:=e9.t (s2.t (s4.t (s6.t (s8.t (d4.t (cg.t (c9.t (cf.t (ce.t (d3.t (cd.t (cc.t (c8.t (c0.t (bk.t (bz.t (bj.t (bx.t (bw.t (c7.t (c6.t (c5.t (cb.t (c4.t (bv.t (bi.t (bd.t (bh.t (bu.t (bt.t (br.t (c3.t (bq.t (bo.t (bg.t (bc.t (b1.t (bb.t (bf.t (b9.t (ao.t (b2.t (be.t (bn.t (bm.t (c2.t ca))))))))))))))))))))))))))))))))))))))))))))));have q0:=e9.size;replace ac:=ac.tr0 (cg.t (c9.t (cf.t (ce.t (d3.t (cd.t (cc.t (c8.t (c0.t (bk.t (bz.t (bj.t (bx.t (bw.t (c7.t (c6.t (c5.t (cb.t (c4.t (bv.t (bi.t (bd.t (bh.t (bu.t (bt.t (br.t (c3.t (bq.t (bo.t (bg.t (bc.t (b1.t (bb.t (bf.t (b9.t (ao.t (b2.t (be.t (bn.t (bm.t (c2.t ca)))))))))))))))))))))))))))))))))))))))));have q30:=ac.le;replace ab:=ab.tr0 (cd.t (cc.t (c8.t (c0.t (bk.t (bz.t (bj.t (bx.t (bw.t (c7.t (c6.t (c5.t (cb.t (c4.t (bv.t (bi.t (bd.t (bh.t (bu.t (bt.t (br.t (c3.t (bq.t (bo.t (bg.t (bc.t (b1.t (bb.t (bf.t (b9.t (ao.t (b2.t (be.t (bn.t (bm.t (c2.t ca))))))))))))))))))))))))))))))))))));have q37:=ab.le;replace a9:=a9.tr0 (c8.t (c0.t (bk.t (bz.t (bj.t (bx.t (bw.t (c7.t (c6.t (c5.t (cb.t (c4.t (bv.t (bi.t (bd.t (bh.t (bu.t (bt.t (br.t (c3.t (bq.t (bo.t (bg.t (bc.t (b1.t (bb.t (bf.t (b9.t (ao.t (b2.t (be.t (bn.t (bm.t (c2.t ca))))))))))))))))))))))))))))))))));have q40:=a9.le;replace a5:=a5.tr0 (c4.t (bv.t (bi.t (bd.t (bh.t (bu.t (bt.t (br.t (c3.t (bq.t (bo.t (bg.t (bc.t (b1.t (bb.t (bf.t (b9.t (ao.t (b2.t (be.t (bn.t (bm.t (c2.t ca)))))))))))))))))))))))
 have q55:=a5.le;replace a4:=a4.tr0 (bq.t (bo.t (bg.t (bc.t (b1.t (bb.t (bf.t (b9.t (ao.t (b2.t (be.t (bn.t (bm.t (c2.t ca))))))))))))));have q68:=a4.le;have q89:=an.le;refine h1 rfl ?_;refine qV (cs:=#[_,_,_,_,_,_,_,_,_,_,_,_,_,_,_,_,_,_,_,_,_,_,_,_,_,_,_,_,_,_,_,_,_,_,_,_]) [(0,.agg _),(1,.agg _),(2,.agg _),(3,.agg _),(4,.agg _),(5,.agg _)] rfl U42 jV gY dE dE kR rfl (fun ea w49 a3 c1 hr=>?_);have d5:=c1;refine zJ (K9 d5 ?_);replace ac:=ac.tr0 c1;replace ab:=ab.tr0 c1;replace a9:=a9.tr0 c1;replace a5:=a5.tr0 c1;replace a4:=a4.tr0 c1;replace an:=an.tr0 c1;obtain⟨ea,S30,c30,B30,m30,S37,c37,B37,m37,S40,c40,B40,m40,S55,c55,B55,m55,S68,c68,B68,m68,S89,c89,B89,m89,e90,d6,a3,ac,ab,a9,a5,a4,an⟩:MnR wc (.slice (some ⟨ea,0,none⟩) 6 6) w49:=⟨_,_,_,_,_,_,_,_,_,_,_,_,_,_,_,_,_,_,_,_,_,_,_,_,_,rfl,nLT q0 hr,a3,ac.mono (nLT q30 hr) (Nat.le_of_lt a3.lt),ab.mono (nLT q37 hr) (Nat.le_of_lt a3.lt),a9.mono (nLT q40 hr) (Nat.le_of_lt a3.lt),a5.mono (nLT q55 hr) (Nat.le_of_lt a3.lt),a4.mono (nLT q68 hr) (Nat.le_of_lt a3.lt),an.mono (nLT q89 hr) (Nat.le_of_lt a3.lt)⟩
 cases e90;refine zn2 ?_;refine e_R ⟨agA,?_⟩;replace hZ:=hZ.trans (s1.t (s2.t (s4.t (s6.t (s8.t (d4.t (cg.t (c9.t (cf.t (ce.t (d3.t (cd.t (cc.t (c8.t (c0.t (bk.t (bz.t (bj.t (bx.t (bw.t (c7.t (c6.t (c5.t (cb.t (c4.t (bv.t (bi.t (bd.t (bh.t (bu.t (bt.t (br.t (c3.t (bq.t (bo.t (bg.t (bc.t (b1.t (bb.t (bf.t (b9.t (ao.t (b2.t (be.t (bn.t (bm.t (c2.t (ca.t c1))))))))))))))))))))))))))))))))))))))))))))))));exact⟨hZ,ea,S30,c30,B30,m30,S37,c37,B37,m37,S40,c40,B40,m40,S55,c55,B55,m55,S68,c68,B68,m68,S89,c89,B89,m89,rfl,d6,a3,ac,ab,a9,a5,a4,an⟩
theorem meanings_d(w:World):Calls Tryz.prog 13 #[.bool false] w fun e w'=>(∃ b vs n,e= .returned (.slice (some ⟨b,0,none⟩) 6 6)/\Blk w' b 44 vs.toArray/\TmCs n w' YW vs)/\Bel w w':=by
 refine enT Tryz.func13 Tryz.ntmps13 rfl rfl fun hB=>?_;refine zn7 ?_;refine ba kR (ZK _ _) rfl (fun w1 s1=>?_);refine ba kR (ZK _ _) rfl (fun w2 s2=>?_);refine qW (cs:=#[.string ⟨#[]⟩,.slice none 0 0]) jv rfl (fun b3 w3 an s3 hr=>?_);have lo3:=hB.u.ob hr;refine qW (cs:=#[.string ⟨#[]⟩,.slice none 0 0]) jv rfl (fun b4 w4 b1 s4 hr=>?_);have:=an.ob hr;have lo4:=hB.u.ob hr;refine zZ an.u rfl rfl xW rfl qz (fun w5 hq s5=>?_);replace an:=hq;refine zZ b1.u rfl rfl xW rfl qz (fun w6 hq s6=>?_);replace b1:=hq;refine zn6 ?_;refine qq K6 (Qx [] (Ts.b false) (Ts.b true) _ _ _ _ _ _ _ (by simp) (Fz.triv _ _ TS (fun _=>SimsIn.nil)) (Fz.triv _ _ TS (fun _=>SimsIn.nil))) rfl (fun e' w7 hr=>?_);obtain⟨⟨_,rfl,A14,c14,n14,rfl,a1⟩,s7⟩:=hr;replace s7:=sB s7;refine⟨_,rfl,?_⟩;refine yx (cs:=#[.string ⟨#[]⟩,.slice none 0 0]) jv rfl (fun _=>rfl) (fun _=>rfl) xW rfl qz (fun b5 w9 bi s8 hr=>?_);refine zn6 ?_;replace a1:=a1.tr0 s8;refine qq K6 (Qx [] mS5 (Ts.b true) _ _ _ _ _ _ _ (by simp) a1 (Fz.triv _ _ TS (fun _=>SimsIn.nil))) rfl (fun e' w10 hr=>?_);obtain⟨⟨_,rfl,A17,c17,n17,rfl,a2⟩,s9⟩:=hr;replace s9:=sB s9;refine⟨_,rfl,?_⟩;refine yx (cs:=#[.string ⟨#[]⟩,.slice none 0 0]) jv rfl (fun _=>rfl) (fun _=>rfl) xW rfl qz (fun b6 w12 bh ao hr=>?_);refine zn6 ?_;replace a1:=a1.tr0 (s9.t ao);refine qq K6 (Qx [] (Ts.b false) mS5 _ _ _ _ _ _ _ (by simp) (Fz.triv _ _ TS (fun _=>SimsIn.nil)) a1) rfl (fun e' w13 hr=>?_);obtain⟨⟨_,rfl,A20,c20,n20,rfl,ac⟩,a5⟩:=hr;replace a5:=sB a5;refine⟨_,rfl,?_⟩;refine yx (cs:=#[.string ⟨#[]⟩,.slice none 0 0]) jv rfl (fun _=>rfl) (fun _=>rfl) xW rfl qz (fun b7 w15 bg a9 hr=>?_);refine zn6 ?_;replace a2:=a2.tr0 (ao.t (a5.t a9));replace a1:=a1.tr0 (a5.t a9);refine qq K6 (Qx [] mS5 mS6 _ _ _ _ _ _ _ (by simp) a1 a2) rfl (fun e' w16 hr=>?_);obtain⟨⟨_,rfl,A23,c23,n23,rfl,ab⟩,a3⟩:=hr;replace a3:=sB a3;refine⟨_,rfl,?_⟩;refine yx (cs:=#[.string ⟨#[]⟩,.slice none 0 0]) jv rfl (fun _=>rfl) (fun _=>rfl) xW rfl qz (fun b8 w18 hb8 a4 hr=>?_);refine zn3 ?_;refine y9 (rg [9] 24 67) (fun g w'=>Same [] w18 w'/\MnR w18 (g 9) w') ?_ (fun g6 w19 hI=>?_)
 ·replace an:=(an.tr1 s6 oG).tr0 (s7.t (s8.t (s9.t (ao.t (a5.t (a9.t (a3.t a4)))))));replace b1:=b1.tr0 (s7.t (s8.t (s9.t (ao.t (a5.t (a9.t (a3.t a4)))))));replace bi:=bi.tr0 (s9.t (ao.t (a5.t (a9.t (a3.t a4)))));replace bh:=bh.tr0 (a5.t (a9.t (a3.t a4)));replace ac:=ac.tr0 (a9.t (a3.t a4));replace a1:=a1.tr0 (a3.t a4);replace a2:=a2.tr0 (a3.t a4);replace bg:=bg.tr0 (a3.t a4);replace ab:=ab.tr0 a4;have hh:=fun f Q k0 k1 k2 k3 k4 k5 kq=>mean_r6 an b1 bi bh bg hb8 a1 a2 ac ab f Q k0 k1 k2 k3 k4 k5 kq
  exact hh _ _ (by rfl) (by rfl) (by rfl) (by rfl) (by rfl) (by rfl) (by intro d;cases d<;>exact fun _ _ _ _ h=>h)
 obtain⟨s15,b90,S30,c30,B30,m30,S37,c37,B37,m37,S40,c40,B40,m40,S55,c55,B55,m55,S68,c68,B68,m68,S89,c89,B89,m89,e9,lo90,bf,be,bd,bc,bb,b9,b2⟩:=hI;refine jj 9 _ e9 nu (zn7 ?_);refine jQ rfl (fun c91=>?_) (fun c91=>?_)
 ·exact absurd c91 dE
 refine yW ?_;exact⟨⟨b90,_,b90,rfl,bf,(.cons be (.cons bd (.cons bc (.cons bb (.cons b9 (.cons b2 .nil))))))⟩,hB.u⟩
end Go.Proofs.YtgcgnkmmbecfmaaGreatDoor
