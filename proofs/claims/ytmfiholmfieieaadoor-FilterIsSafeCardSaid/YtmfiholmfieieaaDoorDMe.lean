/- What these functions compute, at every world: equal.quantified, equal.meanings; and plain laws. -/
import Derived.Test.YtmfiholmfieieaaDoorU
import Derived.Test.YtmfiholmfieieaaDoorZst
import Derived.Test.YtmfiholmfieieaaDoorDSh
namespace Go.Proofs.YtmfiholmfieieaaDoor
open Go.RowKit
set_option maxHeartbeats 8000000
set_option maxRecDepth 100000
abbrev cJ:Array Value:=#[.string ((Ts.b true)).sm.base,.slice none ((Ts.b true)).sm.args.length 0]
def qN19(s1 s2:ByteArray):Ts:=(fun _=>(Ts.f (Ts.f (Ts.b false) (Ts.b true)) (Ts.b true))) (s1,s2)
def qN20(s1 s2:ByteArray):Tv:=(Tv.con s1 (qN19 s1 s2))
def qN26(s1 s2:ByteArray):Ts:=(fun _=>(Ts.f (Ts.b true) (Ts.b true))) (s1,s2)
def qN27(s1 s2:ByteArray):Ts:=(Ts.f (Ts.b true) (qN26 s1 s2))
def qN28(s1 s2:ByteArray):Tv:=(Tv.con s2 (qN27 s1 s2))
def qN29(s1 s2:ByteArray):Tv:=(fun _=>(Tv.var 2)) (s1,s2)
def qN30(s1 s2:ByteArray):Tv:=(fun _=>(Tv.var 0)) (s1,s2)
def qN31(s1 s2:ByteArray):Tv:=(Tv.app (qN29 s1 s2) (qN30 s1 s2))
def qN32(s1 s2:ByteArray):Tv:=(Tv.app (qN28 s1 s2) (qN31 s1 s2))
def qN33(s1 s2:ByteArray):Tv:=(fun _=>(Tv.var 1)) (s1,s2)
def qN34(s1 s2:ByteArray):Tv:=(fun _=>(Tv.var 0)) (s1,s2)
def qN35(s1 s2:ByteArray):Tv:=(Tv.app (qN33 s1 s2) (qN34 s1 s2))
def qN36(s1 s2:ByteArray):Tv:=(Tv.app (qN32 s1 s2) (qN35 s1 s2))
def qN37(s1 s2:ByteArray):Tv:=(Tv.abs (Ts.b false) (qN36 s1 s2))
def E4(s1 s2:ByteArray):Tv:=(Tv.app (qN20 s1 s2) (qN37 s1 s2))
def qM49(s1 s2:ByteArray):Tv:=(Tv.abs (Ts.f (Ts.b false) (Ts.b true)) (E4 s1 s2))
def qM50(s1 s2:ByteArray):Tv:=(Tv.abs (Ts.f (Ts.b false) (Ts.b true)) (qM49 s1 s2))
def qY42(s1 s2:ByteArray):Ts:=(fun _=>(Ts.f (Ts.b true) (Ts.b true))) (s1,s2)
def qY43(s1 s2:ByteArray):Tv:=(Tv.con ⟨#[110,111,116]⟩ (qY42 s1 s2))
def qY45(s1 s2:ByteArray):Tv:=(Tv.app (qY43 s1 s2) (E4 s1 s2))
def qY49(s1 s2:ByteArray):Tv:=(Tv.abs (Ts.f (Ts.b false) (Ts.b true)) (qY45 s1 s2))
def qY50(s1 s2:ByteArray):Tv:=(Tv.abs (Ts.f (Ts.b false) (Ts.b true)) (qY49 s1 s2))
def quN(s1 s2:ByteArray):Tv:=(qM50 s1 s2)
def quY(s1 s2:ByteArray):Tv:=(qY50 s1 s2)
def QuR(s1 s2:ByteArray)(wc:World)(v:Value)(w':World):Prop:=∃ b10 S38 c38 B38 m38 n38,v= .pointer (some ⟨b10,0,none⟩)/\wc.heap.size<=b10/\Blk w' b10 64 #[.int .i64 ((E4 s1 s2)).tm.kind,.string ((E4 s1 s2)).tm.name,.int .i64 ((E4 s1 s2)).tm.index,.string ((E4 s1 s2)).tm.type.base,.slice S38 ((E4 s1 s2)).tm.type.args.length c38,.slice B38 ((E4 s1 s2)).tm.args.length m38]/\Fz [b10] n38 TS w' (fun w=>SimsIn w S38 ((E4 s1 s2)).tm.type.args/\TmsIn w B38 ((E4 s1 s2)).tm.args)
theorem Same.new10{b:Nat}{w w1 w2:World}(h:Same [] w w1)(hs:Same [b] w1 w2)(hb:w.heap.size<=b):Same [] w w2:=
 ⟨hs.os.trans h.os,hs.tape.trans h.tape,hs.output.trans h.output,nLT h.size hs.size,fun k hk _=>by
  rw[hs.blk k (nLL hk h.size) (by simp;omega)];exact h.blk k hk (by simp)⟩
theorem H1:zk Tryd.prog 21=true:=by kernel_rfl
theorem VV:zk Tryd.prog 22=true:=by kernel_rfl
theorem XY:zk Tryd.prog 28=true:=by kernel_rfl
theorem X8:zk Tryd.prog 29=true:=by kernel_rfl
theorem Vx:zk Tryd.prog 30=true:=by kernel_rfl
theorem X7:zk Tryd.prog 31=true:=by kernel_rfl
theorem qu_r3{wc:World}{b7 b8 b9 c15 n15:Nat}{c1:Option Addr}(s1 s2:ByteArray)(hb7:Blk wc b7 61 #[.string ⟨#[101]⟩,.slice none 0 0])(ba:Blk wc b8 61 #[.string ⟨#[116]⟩,.slice none 0 0])(hb9:Blk wc b9 61 #[.string ((Ts.f (Ts.b false) (Ts.b true))).sm.base,.slice c1 ((Ts.f (Ts.b false) (Ts.b true))).sm.args.length c15])(b6:Fz [] n15 TS wc (fun w=>SimsIn w c1 ((Ts.f (Ts.b false) (Ts.b true))).sm.args))(f:Fr)(Q:Exit->Act->World->Prop)(k0:f 0= .string s1)(k1:f 1= .string s2)(k7:f 7= .pointer (some ⟨b7,0,none⟩))(k8:f 8= .pointer (some ⟨b8,0,none⟩))(k9:f 9= .pointer (some ⟨b9,0,none⟩))(_hPQ:PQ Q):WC Tryd.prog (sl (sr (sr (sr (ob Tryd.f27.body))))) (QRS 51 [10,16,17,18,19,20,21,22,23,24,25,26,27,28,29,30,31,32,33,34,35,36,37,38] f (fun g w'=>Same [] wc w'/\QuR s1 s2 wc (g 10) w') Q) 51 f wc:=by
 have hZ:Same [] wc wc:=Same.refl _ _;refine zZ 0 _ k0 nu (zZ 1 _ k1 nu (zZ 7 _ k7 nu (zZ 8 _ k8 nu (zZ 9 _ k9 nu ?_))));have z7:=hb7.lt;have z8:=ba.lt;have z9:=hb9.lt;refine Zj 24 [16,17,18,19,20,21,22,23,24,25,26,27,28,29,30,31,32,33,34,35,36,37,38,10] (fun ix=>Nat.beq ix 23) (fun ix v wv=>match ix with|0=>v= .string s1|1=>v= .agg #[.string ((Ts.f (Ts.b false) (Ts.b true))).sm.base,.slice c1 ((Ts.f (Ts.b false) (Ts.b true))).sm.args.length c15]|2=>v= .agg cJ|3=>SmD [] (qN19 s1 s2) wv (v)|4=>TmD [] (qN20 s1 s2) wv (v)|5=>v= .agg #[.string ((Ts.b false)).sm.base,.slice none ((Ts.b false)).sm.args.length 0]|6=>v= .string s2|7=>v= .agg cJ|8=>v= .agg cJ|9=>v= .agg cJ|10=>SmD [] (qN26 s1 s2) wv (v)|11=>SmD [] (qN27 s1 s2) wv (v)|12=>TmD [] (qN28 s1 s2) wv (v)|13=>TmD [] (qN29 s1 s2) wv (v)|14=>TmD [] (qN30 s1 s2) wv (v)|15=>TmD [] (qN31 s1 s2) wv (v)|16=>TmD [] (qN32 s1 s2) wv (v)|17=>TmD [] (qN33 s1 s2) wv (v)|18=>TmD [] (qN34 s1 s2) wv (v)|19=>TmD [] (qN35 s1 s2) wv (v)|20=>TmD [] (qN36 s1 s2) wv (v)|21=>TmD [] (qN37 s1 s2) wv (v)|22=>TmD [] (E4 s1 s2) wv (v)|23=>∃ b,v= .pointer (some ⟨b,0,none⟩)/\wc.heap.size<=b/\Blk wv b 64 cE|_=>True) kR kR ?_ ?_ ?_
 ·intro ix v wv wv2 h t1
  match ix,h with
  | 0,h=>exact h
  | 1,h=>exact h
  | 2,h=>exact h
  | 3,h=>
   obtain⟨A19,c19,n19,bv,b5⟩:=h;exact⟨A19,c19,n19,bv,b5.tr0 t1⟩
  | 4,h=>
   obtain⟨S20,c20,B20,m20,n20,bu,b4⟩:=h;exact⟨S20,c20,B20,m20,n20,bu,b4.tr0 t1⟩
  | 5,h=>exact h
  | 6,h=>exact h
  | 7,h=>exact h
  | 8,h=>exact h
  | 9,h=>exact h
  | 10,h=>
   obtain⟨A26,c26,n26,bt,b3⟩:=h;exact⟨A26,c26,n26,bt,b3.tr0 t1⟩
  | 11,h=>
   obtain⟨A27,c27,n27,br,b2⟩:=h;exact⟨A27,c27,n27,br,b2.tr0 t1⟩
  | 12,h=>
   obtain⟨S28,c28,B28,m28,n28,bq,b1⟩:=h;exact⟨S28,c28,B28,m28,n28,bq,b1.tr0 t1⟩
  | 13,h=>
   obtain⟨S29,c29,B29,m29,n29,bo,ao⟩:=h;exact⟨S29,c29,B29,m29,n29,bo,ao.tr0 t1⟩
  | 14,h=>
   obtain⟨S30,c30,B30,m30,n30,bn,an⟩:=h;exact⟨S30,c30,B30,m30,n30,bn,an.tr0 t1⟩
  | 15,h=>
   obtain⟨S31,c31,B31,m31,n31,bm,ab⟩:=h;exact⟨S31,c31,B31,m31,n31,bm,ab.tr0 t1⟩
  | 16,h=>
   obtain⟨S32,c32,B32,m32,n32,bk,a9⟩:=h;exact⟨S32,c32,B32,m32,n32,bk,a9.tr0 t1⟩
  | 17,h=>
   obtain⟨S33,c33,B33,m33,n33,bj,a8⟩:=h;exact⟨S33,c33,B33,m33,n33,bj,a8.tr0 t1⟩
  | 18,h=>
   obtain⟨S34,c34,B34,m34,n34,bi,a7⟩:=h;exact⟨S34,c34,B34,m34,n34,bi,a7.tr0 t1⟩
  | 19,h=>
   obtain⟨S35,c35,B35,m35,n35,bh,a6⟩:=h;exact⟨S35,c35,B35,m35,n35,bh,a6.tr0 t1⟩
  | 20,h=>
   obtain⟨S36,c36,B36,m36,n36,bg,a5⟩:=h;exact⟨S36,c36,B36,m36,n36,bg,a5.tr0 t1⟩
  | 21,h=>
   obtain⟨S37,c37,B37,m37,n37,bf,a4⟩:=h;exact⟨S37,c37,B37,m37,n37,bf,a4.tr0 t1⟩
  | 22,h=>
   obtain⟨bz,bx,c0,bc,n38,be,a2⟩:=h;exact⟨bz,bx,c0,bc,n38,be,a2.tr0 t1⟩
  | 23,h=>
   obtain⟨bb,bw,a3,a1⟩:=h;exact⟨bb,bw,a3,a1.tr0 t1⟩
  | _+24,h=>exact trivial
 ·intro ix o hix hoq gg wx t2 hd bd
  match ix,hix,hoq with
  | 0,_,hoq=>
   cases sI hoq;exact oVq (x7 (v:= .string _) rfl) rfl
  | 1,_,hoq=>
   cases sI hoq;exact oVq (qK U61 rfl rfl hb9.u.range0 yk) rfl
  | 2,_,hoq=>
   cases sI hoq;exact oVq (qK U61 rfl rfl ba.u.range0 yk) rfl
  | 3,_,hoq=>
   cases sI hoq;refine aX 17 (hd 1 aY) (aX 18 (hd 2 aY) ?_);replace b6:=b6.tr0 t2;refine yK VV (Zy [] (Ts.f (Ts.b false) (Ts.b true)) (Ts.b true) _ _ _ _ _ _ wx (by simp) b6 (Fz.triv _ _ TS (fun _=>SimsIn.nil))) rfl (fun e' w2 hr=>?_);obtain⟨⟨_,rfl,hd⟩,t3⟩:=hr;exact⟨_,rfl,sB t3,hd,xk⟩
  | 4,_,hoq=>
   cases sI hoq;obtain⟨A19,c19,n19,bv,b5⟩:=hd 3 (zq kR);refine aX 16 (hd 0 aY) (zz 19 _ bv nu ?_);refine yK XY (oz [] s1 (qN19 s1 s2) _ _ _ wx b5) rfl (fun e' w2 hr=>?_);obtain⟨⟨_,rfl,hd⟩,t4⟩:=hr;exact⟨_,rfl,sB t4,hd,xk⟩
  | 5,_,hoq=>
   cases sI hoq;exact oVq (qK U61 rfl rfl hb7.u.range0 yk) rfl
  | 6,_,hoq=>
   cases sI hoq;exact oVq (x7 (v:= .string _) rfl) rfl
  | 7,_,hoq=>
   cases sI hoq;exact oVq (qK U61 rfl rfl ba.u.range0 yk) rfl
  | 8,_,hoq=>
   cases sI hoq;exact oVq (qK U61 rfl rfl ba.u.range0 yk) rfl
  | 9,_,hoq=>
   cases sI hoq;exact oVq (qK U61 rfl rfl ba.u.range0 yk) rfl
  | 10,_,hoq=>
   cases sI hoq;refine aX 24 (hd 8 aY) (aX 25 (hd 9 aY) ?_);refine yK VV (Zy [] (Ts.b true) (Ts.b true) _ _ _ _ _ _ wx (by simp) (Fz.triv _ _ TS (fun _=>SimsIn.nil)) (Fz.triv _ _ TS (fun _=>SimsIn.nil))) rfl (fun e' w2 hr=>?_);obtain⟨⟨_,rfl,hd⟩,t5⟩:=hr;exact⟨_,rfl,sB t5,hd,xk⟩
  | 11,_,hoq=>
   cases sI hoq;obtain⟨A26,c26,n26,bt,b3⟩:=hd 10 (zq kR);refine aX 23 (hd 7 aY) (zz 26 _ bt nu ?_);refine yK VV (Zy [] (Ts.b true) (qN26 s1 s2) _ _ _ _ _ _ wx (by simp) (Fz.triv _ _ TS (fun _=>SimsIn.nil)) b3) rfl (fun e' w2 hr=>?_);obtain⟨⟨_,rfl,hd⟩,t6⟩:=hr;exact⟨_,rfl,sB t6,hd,xk⟩
  | 12,_,hoq=>
   cases sI hoq;obtain⟨A27,c27,n27,br,b2⟩:=hd 11 (zq kR);refine aX 22 (hd 6 aY) (zz 27 _ br nu ?_);refine yK XY (oz [] s2 (qN27 s1 s2) _ _ _ wx b2) rfl (fun e' w2 hr=>?_);obtain⟨⟨_,rfl,hd⟩,t7⟩:=hr;exact⟨_,rfl,sB t7,hd,xk⟩
  | 13,_,hoq=>
   cases sI hoq;refine yK X7 (vw [] 2 wx) rfl (fun e' w2 hr=>?_);obtain⟨⟨_,rfl,hd⟩,t8⟩:=hr;exact⟨_,rfl,sB t8,hd,xk⟩
  | 14,_,hoq=>
   cases sI hoq;refine yK X7 (vw [] 0 wx) rfl (fun e' w2 hr=>?_);obtain⟨⟨_,rfl,hd⟩,t9⟩:=hr;exact⟨_,rfl,sB t9,hd,xk⟩
  | 15,_,hoq=>
   cases sI hoq;obtain⟨S29,c29,B29,m29,n29,bo,ao⟩:=hd 13 (zq kR);obtain⟨S30,c30,B30,m30,n30,bn,an⟩:=hd 14 (zq kR);refine zz 29 _ bo nu (zz 30 _ bn nu ?_);refine yK Vx (Zk [] (qN29 s1 s2) (qN30 s1 s2) _ _ _ _ _ _ _ _ _ _ wx (by simp) ao an) rfl (fun e' w2 hr=>?_);obtain⟨⟨_,rfl,hd⟩,t10⟩:=hr;exact⟨_,rfl,sB t10,hd,xk⟩
  | 16,_,hoq=>
   cases sI hoq;obtain⟨S28,c28,B28,m28,n28,bq,b1⟩:=hd 12 (zq kR);obtain⟨S31,c31,B31,m31,n31,bm,ab⟩:=hd 15 (zq kR);refine zz 28 _ bq nu (zz 31 _ bm nu ?_);refine yK Vx (Zk [] (qN28 s1 s2) (qN31 s1 s2) _ _ _ _ _ _ _ _ _ _ wx (by simp) b1 ab) rfl (fun e' w2 hr=>?_);obtain⟨⟨_,rfl,hd⟩,t11⟩:=hr;exact⟨_,rfl,sB t11,hd,xk⟩
  | 17,_,hoq=>
   cases sI hoq;refine yK X7 (vw [] 1 wx) rfl (fun e' w2 hr=>?_);obtain⟨⟨_,rfl,hd⟩,t12⟩:=hr;exact⟨_,rfl,sB t12,hd,xk⟩
  | 18,_,hoq=>
   cases sI hoq;refine yK X7 (vw [] 0 wx) rfl (fun e' w2 hr=>?_);obtain⟨⟨_,rfl,hd⟩,t13⟩:=hr;exact⟨_,rfl,sB t13,hd,xk⟩
  | 19,_,hoq=>
   cases sI hoq;obtain⟨S33,c33,B33,m33,n33,bj,a8⟩:=hd 17 (zq kR);obtain⟨S34,c34,B34,m34,n34,bi,a7⟩:=hd 18 (zq kR);refine zz 33 _ bj nu (zz 34 _ bi nu ?_);refine yK Vx (Zk [] (qN33 s1 s2) (qN34 s1 s2) _ _ _ _ _ _ _ _ _ _ wx (by simp) a8 a7) rfl (fun e' w2 hr=>?_);obtain⟨⟨_,rfl,hd⟩,t14⟩:=hr;exact⟨_,rfl,sB t14,hd,xk⟩
  | 20,_,hoq=>
   cases sI hoq;obtain⟨S32,c32,B32,m32,n32,bk,a9⟩:=hd 16 (zq kR);obtain⟨S35,c35,B35,m35,n35,bh,a6⟩:=hd 19 (zq kR);refine zz 32 _ bk nu (zz 35 _ bh nu ?_);refine yK Vx (Zk [] (qN32 s1 s2) (qN35 s1 s2) _ _ _ _ _ _ _ _ _ _ wx (by simp) a9 a6) rfl (fun e' w2 hr=>?_);obtain⟨⟨_,rfl,hd⟩,t15⟩:=hr;exact⟨_,rfl,sB t15,hd,xk⟩
  | 21,_,hoq=>
   cases sI hoq;obtain⟨S36,c36,B36,m36,n36,bg,a5⟩:=hd 20 (zq kR);refine aX 21 (hd 5 aY) (zz 36 _ bg nu ?_);refine yK X8 (uZ [] (Ts.b false) (qN36 s1 s2) _ _ _ _ _ _ _ _ wx (by simp) (Fz.triv _ _ TS (fun _=>SimsIn.nil)) a5) rfl (fun e' w2 hr=>?_);obtain⟨⟨_,rfl,hd⟩,t16⟩:=hr;exact⟨_,rfl,sB t16,hd,xk⟩
  | 22,_,hoq=>
   cases sI hoq;obtain⟨S20,c20,B20,m20,n20,bu,b4⟩:=hd 4 (zq kR);obtain⟨S37,c37,B37,m37,n37,bf,a4⟩:=hd 21 (zq kR);refine zz 20 _ bu nu (zz 37 _ bf nu ?_);refine yK Vx (Zk [] (qN20 s1 s2) (qN37 s1 s2) _ _ _ _ _ _ _ _ _ _ wx (by simp) b4 a4) rfl (fun e' w2 hr=>?_);obtain⟨⟨_,rfl,hd⟩,t17⟩:=hr;exact⟨_,rfl,sB t17,hd,xk⟩
  | 23,_,hoq=>
   cases sI hoq;have hs0:=t2;refine jK (fun ops Q K=>?_);refine qw (cs:=cE) C3 rfl (fun bb w1 a1 t18 hr=>?_);exact K _ _ ⟨t18,⟨_,rfl,nLT hs0.size hr,a1⟩,fRq hr a1.lt⟩
  | _+24,hix,_=>exact absurd hix oG
 intro gg w2 t19 hR bd;obtain⟨bz,bx,c0,bc,n38,be,a2⟩:=hR 22 dE;obtain⟨bb,bw,a3,a1⟩:=hR 23 dE;refine xz 38 _ be nu (xz 10 _ bw nu ?_);refine zJ a1 (fun w3 hq t20=>?_);replace hZ:=hZ.trans t19;replace hZ:=hZ.new10 t20 a3;replace a2:=a2.free t20 a1 sp_tm;replace a1:=hq;refine x6 ?_;refine e_R ⟨agA,?_⟩;exact⟨hZ,bb,bz,bx,c0,bc,_,rfl,a3,a1,a2⟩
theorem quN_d(s1 s2:ByteArray)(w:World):Calls Tryd.prog 27 #[.string s1,.string s2,.bool false] w fun e w'=>(∃ z,e= .returned z/\TmD [] (quN s1 s2) w' z)/\Bel w w':=by
 refine enT Tryd.func27 Tryd.ntmps27 rfl rfl fun hB=>?_;refine zn2 ?_;refine qw (cs:=cE) C3 rfl (fun b6 w1 a3 t1 hr=>?_);have lo6:=hB.ob hr;refine zn4 ?_;refine zX H1 (gQ _ _) rfl (fun e' w2 hr=>?_);obtain⟨rfl,t2⟩:=hr;replace t2:=sB t2;refine⟨_,rfl,?_⟩;refine zX H1 (gQ _ _) rfl (fun e' w3 hr=>?_);obtain⟨rfl,t3⟩:=hr;replace t3:=sB t3;refine⟨_,rfl,?_⟩;refine qw (cs:=#[.string ⟨#[]⟩,.slice none 0 0]) vk rfl (fun b7 w4 a7 t4 hr=>?_);have:=a3.u.ob hr;have lo7:=hB.u.ob hr;refine qw (cs:=#[.string ⟨#[]⟩,.slice none 0 0]) vk rfl (fun b8 w5 a9 t5 hr=>?_);have:=a3.u.ob hr;have:=a7.ob hr;have lo8:=hB.u.ob hr;refine zJ a7.u (fun w6 hq t6=>?_);replace a7:=hq;refine zJ a9.u (fun w7 hq t7=>?_);replace a9:=hq;refine zn6 ?_;refine zX VV (Zy [] (Ts.b false) (Ts.b true) none none 0 0 _ _ _ (by simp) (Fz.triv _ _ TS (fun _=>SimsIn.nil)) (Fz.triv _ _ TS (fun _=>SimsIn.nil))) rfl (fun e' w8 hr=>?_);obtain⟨⟨_,rfl,A15,c15,n15,rfl,a1⟩,t8⟩:=hr;replace t8:=sB t8;refine⟨_,rfl,?_⟩;refine yx (cs:=#[.string ⟨#[]⟩,.slice none 0 0]) vk rfl (fun _=>rfl) (fun _=>rfl) yk rfl y5 (fun b9 w10 hb9 t9 hr=>?_);refine zn3 ?_;replace a1:=a1.tr0 t9;refine yX (rgq [10] 16 23) (fun g w'=>Same [] w10 w'/\QuR s1 s2 w10 (g 10) w') ?_ (fun g3 w11 hI=>?_)
 ·replace a7:=(a7.tr1 t7 oG).tr0 (t8.t t9);replace a9:=a9.tr0 (t8.t t9);have hh:=fun f Q k0 k1 k2 k3 k4 kq=>qu_r3 s1 s2 a7 a9 hb9 a1 f Q k0 k1 k2 k3 k4 kq
  exact hh _ _ (by rfl) (by rfl) (by rfl) (by rfl) (by rfl) (by intro d;cases d<;>exact fun _ _ _ _ h=>h)
 obtain⟨t10,ab,S38,c38,B38,m38,n38,e10,a4,a2,a6⟩:=hI;have q15:=a1.le;replace hB:=(((hB.tr0 (t1.t (t2.t (t3.t (t4.t t5))))).tr1 t6 lo7).tr1 t7 lo8).tr0 (t8.t t9);have a8:=nLT (Bel.size hB) a4;replace a1:=a1.tr0 t10;replace a1:=a1.addX (Y:=[ab]) (fun y hy=> .inr (by rw[List.mem_singleton.1 hy];exact nLT q15 a4));replace a4:=a8;refine Zq 10 _ e10 nu (zn7 ?_);refine jW rfl (fun c39=>?_) (fun c39=>?_)
 ·exact absurd c39 dE
 refine zn3 ?_;refine Qy [] [5] [0,1,2,3,4,5] rfl (fun w12 an=>?_);refine zn3 ?_;replace a1:=a1.tr0 an;replace a2:=a2.tr0 an;replace a6:=a6.tr0 an;refine hcl (fun v wv=>TmD [ab] (qM49 s1 s2) wv (v)) rfl X8 (uZ [ab] (Ts.f (Ts.b false) (Ts.b true)) (E4 s1 s2) _ _ _ _ _ _ _ _ w12 (fun x hx=>by rw[List.mem_singleton.1 hx];exact a2.lt) a1 a6) rfl (fun e' w2 hr=>?_) (fun v49 w13 ao d49=>?_)
 ·obtain⟨⟨_,rfl,hd⟩,t13⟩:=hr;exact⟨_,rfl,sB t13,hd⟩
 obtain⟨S49,c49,B49,m49,n49,e49,b1⟩:=d49;subst e49;replace a1:=a1.tr0 ao;replace a2:=a2.tr0 ao;refine hcl (fun v wv=>TmD [ab] (qM50 s1 s2) wv (v)) rfl X8 (uZ [ab] (Ts.f (Ts.b false) (Ts.b true)) (qM49 s1 s2) _ _ _ _ _ _ _ _ w13 (fun x hx=>by rw[List.mem_singleton.1 hx];exact a2.lt) a1 b1) rfl (fun e' w2 hr=>?_) (fun v50 w14 t14 d50=>?_)
 ·obtain⟨⟨_,rfl,hd⟩,t15⟩:=hr;exact⟨_,rfl,sB t15,hd⟩
 obtain⟨S50,c50,B50,m50,n50,e50,a5⟩:=d50;subst e50;refine h1 rfl ?_;refine zJ a3.u (fun w15 hq t16=>?_);have hsH5:=t16;replace a3:=(((a3.tr0 (t2.t (t3.t (t4.t t5)))).tr1 t6 oG).tr1 t7 oG).tr0 (t8.t (t9.t (t10.t (an.t (ao.t t14)))));replace a5:=a5.sp1 t16 a3 sp_tm;replace a3:=hq;refine x6 (CQ [] (zn3 ?_));refine xX (.inl rfl) rfl (zw U64 rfl rfl a3.range0 gV) ?_;exact⟨⟨_,rfl,_,_,_,_,_,rfl,a5.nil⟩,hB.u⟩
theorem quY_d(s1 s2:ByteArray)(w:World):Calls Tryd.prog 27 #[.string s1,.string s2,.bool true] w fun e w'=>(∃ z,e= .returned z/\TmD [] (quY s1 s2) w' z)/\Bel w w':=by
 refine enT Tryd.func27 Tryd.ntmps27 rfl rfl fun hB=>?_;refine zn2 ?_;refine qw (cs:=cE) C3 rfl (fun b6 w1 a6 t1 hr=>?_);have lo6:=hB.ob hr;refine zn4 ?_;refine zX H1 (gQ _ _) rfl (fun e' w2 hr=>?_);obtain⟨rfl,t2⟩:=hr;replace t2:=sB t2;refine⟨_,rfl,?_⟩;refine zX H1 (gQ _ _) rfl (fun e' w3 hr=>?_);obtain⟨rfl,t3⟩:=hr;replace t3:=sB t3;refine⟨_,rfl,?_⟩;refine qw (cs:=#[.string ⟨#[]⟩,.slice none 0 0]) vk rfl (fun b7 w4 a9 t4 hr=>?_);have:=a6.u.ob hr;have lo7:=hB.u.ob hr;refine qw (cs:=#[.string ⟨#[]⟩,.slice none 0 0]) vk rfl (fun b8 w5 an t5 hr=>?_);have:=a6.u.ob hr;have:=a9.ob hr;have lo8:=hB.u.ob hr;refine zJ a9.u (fun w6 hq t6=>?_);replace a9:=hq;refine zJ an.u (fun w7 hq t7=>?_);replace an:=hq;refine zn6 ?_;refine zX VV (Zy [] (Ts.b false) (Ts.b true) none none 0 0 _ _ _ (by simp) (Fz.triv _ _ TS (fun _=>SimsIn.nil)) (Fz.triv _ _ TS (fun _=>SimsIn.nil))) rfl (fun e' w8 hr=>?_);obtain⟨⟨_,rfl,A15,c15,n15,rfl,a1⟩,t8⟩:=hr;replace t8:=sB t8;refine⟨_,rfl,?_⟩;refine yx (cs:=#[.string ⟨#[]⟩,.slice none 0 0]) vk rfl (fun _=>rfl) (fun _=>rfl) yk rfl y5 (fun b9 w10 hb9 t9 hr=>?_);refine zn3 ?_;replace a1:=a1.tr0 t9;refine yX (rgq [10] 16 23) (fun g w'=>Same [] w10 w'/\QuR s1 s2 w10 (g 10) w') ?_ (fun g3 w11 hI=>?_)
 ·replace a9:=(a9.tr1 t7 oG).tr0 (t8.t t9);replace an:=an.tr0 (t8.t t9);have hh:=fun f Q k0 k1 k2 k3 k4 kq=>qu_r3 s1 s2 a9 an hb9 a1 f Q k0 k1 k2 k3 k4 kq
  exact hh _ _ (by rfl) (by rfl) (by rfl) (by rfl) (by rfl) (by intro d;cases d<;>exact fun _ _ _ _ h=>h)
 obtain⟨t10,a5,S38,c38,B38,m38,n38,e10,a3,a2,a8⟩:=hI;have:=nLL a6.u.lt a3;have:=nLL hb9.lt a3;have q15:=a1.le;replace hB:=(((hB.tr0 (t1.t (t2.t (t3.t (t4.t t5))))).tr1 t6 lo7).tr1 t7 lo8).tr0 (t8.t t9);have ab:=nLT (Bel.size hB) a3;replace a1:=a1.tr0 t10;replace a1:=a1.addX (Y:=[a5]) (fun y hy=> .inr (by rw[List.mem_singleton.1 hy];exact nLT q15 a3));replace a3:=ab;refine Zq 10 _ e10 nu (zn7 ?_);refine jW rfl (fun c39=>?_) (fun c39=>?_)
 ·refine Qy [] [6] [0,1,4,2,3,5,6] rfl (fun w12 b4=>?_);refine zn3 ?_;replace a2:=a2.tr0 b4;refine hcl (fun v wv=>SmD [a5] (qY42 s1 s2) wv (v)) rfl VV (Zy [a5] (Ts.b true) (Ts.b true) _ _ _ _ _ _ w12 (fun x hx=>by rw[List.mem_singleton.1 hx];exact a2.lt) (Fz.triv _ _ TS (fun _=>SimsIn.nil)) (Fz.triv _ _ TS (fun _=>SimsIn.nil))) rfl (fun e' w2 hr=>?_) (fun v42 w13 b3 d42=>?_)
  ·obtain⟨⟨_,rfl,hd⟩,t13⟩:=hr;exact⟨_,rfl,sB t13,hd⟩
  obtain⟨A42,c42,n42,e42,bc⟩:=d42;subst e42;refine hcl (fun v wv=>TmD [a5] (qY43 s1 s2) wv (v)) rfl XY (oz [a5] ⟨#[110,111,116]⟩ (qY42 s1 s2) _ _ _ w13 bc) rfl (fun e' w2 hr=>?_) (fun v43 w14 b2 d43=>?_)
  ·obtain⟨⟨_,rfl,hd⟩,t15⟩:=hr;exact⟨_,rfl,sB t15,hd⟩
  obtain⟨S43,c43,B43,m43,n43,e43,bb⟩:=d43;subst e43;replace a8:=a8.tr0 (b4.t (b3.t b2));replace a2:=a2.tr0 (b3.t b2);refine hcl (fun v wv=>TmD [a5] (qY45 s1 s2) wv (v)) rfl Vx (Zk [a5] (qY43 s1 s2) (E4 s1 s2) _ _ _ _ _ _ _ _ _ _ w14 (fun x hx=>by rw[List.mem_singleton.1 hx];exact a2.lt) bb a8) rfl (fun e' w2 hr=>?_) (fun v45 w15 t16 d45=>?_)
  ·obtain⟨⟨_,rfl,hd⟩,t17⟩:=hr;exact⟨_,rfl,sB t17,hd⟩
  obtain⟨S45,c45,B45,m45,n45,e45,a4⟩:=d45;subst e45;refine h1 rfl ?_;refine zJ a2.u (fun w16 hq b1=>?_);have hsH6:=b1;replace a1:=a1.tr0 (b4.t (b3.t (b2.t t16)));replace a1:=a1.in1 b1 (by simp);replace a4:=a4.in1 b1 (by simp);replace a2:=hq;refine x6 (CQ [] (zn3 ?_));refine Qy [] [5] [0,1,2,3,4,5] rfl (fun w17 ao=>?_);refine zn3 ?_;replace a1:=a1.tr0 ao;replace a2:=a2.tr0 ao;replace a4:=a4.tr0 ao;refine hcl (fun v wv=>TmD [a5] (qY49 s1 s2) wv (v)) rfl X8 (uZ [a5] (Ts.f (Ts.b false) (Ts.b true)) (qY45 s1 s2) _ _ _ _ _ _ _ _ w17 (fun x hx=>by rw[List.mem_singleton.1 hx];exact a2.lt) a1 a4) rfl (fun e' w2 hr=>?_) (fun v49 w18 b5 d49=>?_)
  ·obtain⟨⟨_,rfl,hd⟩,t21⟩:=hr;exact⟨_,rfl,sB t21,hd⟩
  obtain⟨S49,c49,B49,m49,n49,e49,ba⟩:=d49;subst e49;replace a1:=a1.tr0 b5;replace a2:=a2.tr0 b5;refine hcl (fun v wv=>TmD [a5] (qY50 s1 s2) wv (v)) rfl X8 (uZ [a5] (Ts.f (Ts.b false) (Ts.b true)) (qY49 s1 s2) _ _ _ _ _ _ _ _ w18 (fun x hx=>by rw[List.mem_singleton.1 hx];exact a2.lt) a1 ba) rfl (fun e' w2 hr=>?_) (fun v50 w19 t22 d50=>?_)
  ·obtain⟨⟨_,rfl,hd⟩,t23⟩:=hr;exact⟨_,rfl,sB t23,hd⟩
  obtain⟨S50,c50,B50,m50,n50,e50,a7⟩:=d50;subst e50;refine h1 rfl ?_;refine zJ a6.u (fun w20 hq t24=>?_);have hsH5:=t24;replace a6:=(((((a6.tr0 (t2.t (t3.t (t4.t t5)))).tr1 t6 oG).tr1 t7 oG).tr0 (t8.t (t9.t (t10.t (b4.t (b3.t (b2.t t16))))))).tr1 b1 oG).tr0 (ao.t (b5.t t22));replace a7:=a7.sp1 t24 a6 sp_tm;replace a6:=hq;refine x6 (CQ [] (zn3 ?_));refine xX (.inl rfl) rfl (zw U64 rfl rfl a6.range0 gV) ?_;exact⟨⟨_,rfl,_,_,_,_,_,rfl,a7.nil⟩,hB.u⟩
 exact absurd c39 dE
def mS5:Ts:=(Ts.f (Ts.b false) (Ts.b true))
def mS6:Ts:=(Ts.f mS5 (Ts.b true))
def mS7:Ts:=(Ts.f (Ts.b false) mS5)
def mS8:Ts:=(Ts.f mS5 mS6)
def mT26:Tv:=(Tv.var 1)
def mT27:Tv:=(Tv.var 0)
def mT28:Tv:=(Tv.app mT26 mT27)
def mT29:Tv:=(Tv.abs mS5 mT28)
def Cw:Tv:=(Tv.abs mS6 mT29)
def mT33:Tv:=(Tv.var 1)
def mT34:Tv:=(Tv.var 0)
def mT35:Tv:=(Tv.app mT33 mT34)
def mT36:Tv:=(Tv.abs mS5 mT35)
def Cv:Tv:=(Tv.abs mS8 mT36)
def mT39:Tv:=(Tv.var 0)
def Ck:Tv:=(Tv.abs mS5 mT39)
def mT44:Tv:=(Tv.var 1)
def mT46:Tv:=(Tv.var 3)
def mT47:Tv:=(Tv.var 1)
def mT48:Tv:=(Tv.app mT46 mT47)
def mT49:Tv:=(Tv.var 0)
def mT50:Tv:=(Tv.app mT48 mT49)
def mT51:Tv:=(Tv.abs (Ts.b false) mT50)
def mT52:Tv:=(Tv.app mT44 mT51)
def mT53:Tv:=(Tv.abs (Ts.b false) mT52)
def mT54:Tv:=(Tv.abs mS6 mT53)
def Cj:Tv:=(Tv.abs mS7 mT54)
def mT58:Ts:=(Ts.f (Ts.b true) (Ts.b true))
def mT61:Tv:=(Tv.var 2)
def mT62:Tv:=(Tv.var 1)
def mT63:Tv:=(Tv.var 0)
def mT64:Tv:=(Tv.app mT62 mT63)
def mT65:Tv:=(Tv.app mT61 mT64)
def mT66:Tv:=(Tv.abs (Ts.b false) mT65)
def mT67:Tv:=(Tv.abs mS5 mT66)
def Cx:Tv:=(Tv.abs mT58 mT67)
def mT73:Ts:=(Ts.f (Ts.b true) (Ts.b true))
def mT74:Ts:=(Ts.f (Ts.b true) mT73)
def mT77:Tv:=(Tv.var 2)
def mT78:Tv:=(Tv.var 3)
def mT79:Tv:=(Tv.var 0)
def mT80:Tv:=(Tv.app mT78 mT79)
def mT81:Tv:=(Tv.app mT77 mT80)
def mT82:Tv:=(Tv.var 1)
def mT83:Tv:=(Tv.var 0)
def mT84:Tv:=(Tv.app mT82 mT83)
def mT85:Tv:=(Tv.app mT81 mT84)
def mT86:Tv:=(Tv.abs mS5 mT85)
def mT87:Tv:=(Tv.abs mS6 mT86)
def mT88:Tv:=(Tv.abs mT74 mT87)
def Cq:Tv:=(Tv.abs mS6 mT88)
def XQ:List Tv:=[Cw,Cv,Ck,Cj,Cx,Cq]
def MnR(wc:World)(v:Value)(w':World):Prop:=∃ b90 S30 c30 B30 m30 S37 c37 B37 m37 S40 c40 B40 m40 S55 c55 B55 m55 S68 c68 B68 m68 S89 c89 B89 m89,v= .slice (some ⟨b90,0,none⟩) 6 6/\wc.heap.size<=b90/\Blk w' b90 64 #[.int .i64 (Cw).tm.kind,.string (Cw).tm.name,.int .i64 (Cw).tm.index,.string (Cw).tm.type.base,.slice S30 (Cw).tm.type.args.length c30,.slice B30 (Cw).tm.args.length m30,.int .i64 (Cv).tm.kind,.string (Cv).tm.name,.int .i64 (Cv).tm.index,.string (Cv).tm.type.base,.slice S37 (Cv).tm.type.args.length c37,.slice B37 (Cv).tm.args.length m37,.int .i64 (Ck).tm.kind,.string (Ck).tm.name,.int .i64 (Ck).tm.index,.string (Ck).tm.type.base,.slice S40 (Ck).tm.type.args.length c40,.slice B40 (Ck).tm.args.length m40,.int .i64 (Cj).tm.kind,.string (Cj).tm.name,.int .i64 (Cj).tm.index,.string (Cj).tm.type.base,.slice S55 (Cj).tm.type.args.length c55,.slice B55 (Cj).tm.args.length m55,.int .i64 (Cx).tm.kind,.string (Cx).tm.name,.int .i64 (Cx).tm.index,.string (Cx).tm.type.base,.slice S68 (Cx).tm.type.args.length c68,.slice B68 (Cx).tm.args.length m68,.int .i64 (Cq).tm.kind,.string (Cq).tm.name,.int .i64 (Cq).tm.index,.string (Cq).tm.type.base,.slice S89 (Cq).tm.type.args.length c89,.slice B89 (Cq).tm.args.length m89]/\Fz [] b90 TS w' (fun w=>SimsIn w S30 (Cw).tm.type.args/\TmsIn w B30 (Cw).tm.args)/\Fz [] b90 TS w' (fun w=>SimsIn w S37 (Cv).tm.type.args/\TmsIn w B37 (Cv).tm.args)/\Fz [] b90 TS w' (fun w=>SimsIn w S40 (Ck).tm.type.args/\TmsIn w B40 (Ck).tm.args)/\Fz [] b90 TS w' (fun w=>SimsIn w S55 (Cj).tm.type.args/\TmsIn w B55 (Cj).tm.args)/\Fz [] b90 TS w' (fun w=>SimsIn w S68 (Cx).tm.type.args/\TmsIn w B68 (Cx).tm.args)/\Fz [] b90 TS w' (fun w=>SimsIn w S89 (Cq).tm.type.args/\TmsIn w B89 (Cq).tm.args)
theorem MnR.tr0{wc w1 w2:World}{v:Value}(h:MnR wc v w1)(hs:Same [] w1 w2):MnR wc v w2:=by
 obtain⟨b90,S30,c30,B30,m30,S37,c37,B37,m37,S40,c40,B40,m40,S55,c55,B55,m55,S68,c68,B68,m68,S89,c89,B89,m89,e,lo,hb,a6,a5,a4,a3,a2,a1⟩:=h;exact⟨b90,S30,c30,B30,m30,S37,c37,B37,m37,S40,c40,B40,m40,S55,c55,B55,m55,S68,c68,B68,m68,S89,c89,B89,m89,e,lo,hb.tr0 hs,a6.tr0 hs,a5.tr0 hs,a4.tr0 hs,a3.tr0 hs,a2.tr0 hs,a1.tr0 hs⟩
theorem mean_r6{wc:World}{b3 b4 b5 b6 b7 b8 c14 c17 c20 c23 n14 n17 n20 n23:Nat}{A14 A17 A20 A23:Option Addr}(hb3:Blk wc b3 61 #[.string ⟨#[101]⟩,.slice none 0 0])(hb4:Blk wc b4 61 #[.string ⟨#[116]⟩,.slice none 0 0])(hb5:Blk wc b5 61 #[.string (mS5).sm.base,.slice A14 (mS5).sm.args.length c14])(hb6:Blk wc b6 61 #[.string (mS6).sm.base,.slice A17 (mS6).sm.args.length c17])(hb7:Blk wc b7 61 #[.string (mS7).sm.base,.slice A20 (mS7).sm.args.length c20])(hb8:Blk wc b8 61 #[.string (mS8).sm.base,.slice A23 (mS8).sm.args.length c23])(a1:Fz [] n14 TS wc (fun w=>SimsIn w A14 (mS5).sm.args))(a2:Fz [] n17 TS wc (fun w=>SimsIn w A17 (mS6).sm.args))(cx:Fz [] n20 TS wc (fun w=>SimsIn w A20 (mS7).sm.args))(cw:Fz [] n23 TS wc (fun w=>SimsIn w A23 (mS8).sm.args))(f:Fr)(Q:Exit->Act->World->Prop)(k3:f 3= .pointer (some ⟨b3,0,none⟩))(k4:f 4= .pointer (some ⟨b4,0,none⟩))(k5:f 5= .pointer (some ⟨b5,0,none⟩))(k6:f 6= .pointer (some ⟨b6,0,none⟩))(k7:f 7= .pointer (some ⟨b7,0,none⟩))(k8:f 8= .pointer (some ⟨b8,0,none⟩))(hPQ:PQ Q):WC Tryd.prog (sl (sr (sr (sr (sr (sr (sr (ob Tryd.f24.body)))))))) (QRS 128 [9,24,25,26,27,28,29,30,31,32,33,34,35,36,37,38,39,40,41,42,43,44,45,46,47,48,49,50,51,52,53,54,55,56,57,58,59,60,61,62,63,64,65,66,67,68,69,70,71,72,73,74,75,76,77,78,79,80,81,82,83,84,85,86,87,88,89,90] f (fun g w'=>Same [] wc w'/\MnR wc (g 9) w') Q) 128 f wc:=by
 have hZ:Same [] wc wc:=Same.refl _ _;refine zZ 3 _ k3 nu (zZ 4 _ k4 nu (zZ 5 _ k5 nu (zZ 6 _ k6 nu (zZ 7 _ k7 nu (zZ 8 _ k8 nu ?_)))));refine uV [] [0,1,7,8,14,17,18,19,21,32,33,35,36,45,46,47,48,51,52,2,3,4,5,6,9,10,11,12,13,15,16,20,22,23,24,25,26,27,28,29,30,31,34,37,38,39,40,41,42,43,44,49,50,53,54,55,56,57,58,59,60,61,62,63,64,65,66,67] rfl (fun w1 s1=>?_);have e6:=s1;refine zn19 ?_;refine hcl (fun v wv=>TmD [] mT26 wv (v)) rfl X7 (vw [] 1 w1) rfl (fun e' w2 hr=>?_) (fun v26 w2 s2 d26=>?_)
 ·obtain⟨⟨_,rfl,hd⟩,s3⟩:=hr;exact⟨_,rfl,sB s3,hd⟩
 obtain⟨S26,c26,B26,m26,n26,e26,cv⟩:=d26;subst e26;refine hcl (fun v wv=>TmD [] mT27 wv (v)) rfl X7 (vw [] 0 w2) rfl (fun e' w2 hr=>?_) (fun v27 w3 s4 d27=>?_)
 ·obtain⟨⟨_,rfl,hd⟩,s5⟩:=hr;exact⟨_,rfl,sB s5,hd⟩
 obtain⟨S27,c27,B27,m27,n27,e27,e5⟩:=d27;subst e27;replace cv:=cv.tr0 s4;refine hcl (fun v wv=>TmD [] mT28 wv (v)) rfl Vx (Zk [] mT26 mT27 _ _ _ _ _ _ _ _ _ _ w3 (by simp) cv e5) rfl (fun e' w2 hr=>?_) (fun v28 w4 s6 d28=>?_)
 ·obtain⟨⟨_,rfl,hd⟩,s7⟩:=hr;exact⟨_,rfl,sB s7,hd⟩
 obtain⟨S28,c28,B28,m28,n28,e28,dz⟩:=d28;subst e28;replace a1:=a1.tr0 (s1.t (s2.t (s4.t s6)));refine hcl (fun v wv=>TmD [] mT29 wv (v)) rfl X8 (uZ [] mS5 mT28 _ _ _ _ _ _ _ _ w4 (by simp) a1 dz) rfl (fun e' w2 hr=>?_) (fun v29 w5 s8 d29=>?_)
 ·obtain⟨⟨_,rfl,hd⟩,s9⟩:=hr;exact⟨_,rfl,sB s9,hd⟩
 obtain⟨S29,c29,B29,m29,n29,e29,dy⟩:=d29;subst e29;replace a2:=a2.tr0 (s1.t (s2.t (s4.t (s6.t s8))));refine hcl (fun v wv=>TmD [] Cw wv (v)) rfl X8 (uZ [] mS6 mT29 _ _ _ _ _ _ _ _ w5 (by simp) a2 dy) rfl (fun e' w2 hr=>?_) (fun v30 w6 cz d30=>?_)
 ·obtain⟨⟨_,rfl,hd⟩,s11⟩:=hr;exact⟨_,rfl,sB s11,hd⟩
 obtain⟨S30,c30,B30,m30,n30,e30,a8⟩:=d30;subst e30;refine hcl (fun v wv=>TmD [] mT33 wv (v)) rfl X7 (vw [] 1 w6) rfl (fun e' w2 hr=>?_) (fun v33 w7 cd d33=>?_)
 ·obtain⟨⟨_,rfl,hd⟩,s13⟩:=hr;exact⟨_,rfl,sB s13,hd⟩
 obtain⟨S33,c33,B33,m33,n33,e33,cu⟩:=d33;subst e33;refine hcl (fun v wv=>TmD [] mT34 wv (v)) rfl X7 (vw [] 0 w7) rfl (fun e' w2 hr=>?_) (fun v34 w8 c6 d34=>?_)
 ·obtain⟨⟨_,rfl,hd⟩,s15⟩:=hr;exact⟨_,rfl,sB s15,hd⟩
 obtain⟨S34,c34,B34,m34,n34,e34,dx⟩:=d34;subst e34;replace cu:=cu.tr0 c6;refine hcl (fun v wv=>TmD [] mT35 wv (v)) rfl Vx (Zk [] mT33 mT34 _ _ _ _ _ _ _ _ _ _ w8 (by simp) cu dx) rfl (fun e' w2 hr=>?_) (fun v35 w9 cc d35=>?_)
 ·obtain⟨⟨_,rfl,hd⟩,s17⟩:=hr;exact⟨_,rfl,sB s17,hd⟩
 obtain⟨S35,c35,B35,m35,n35,e35,dw⟩:=d35;subst e35;replace a1:=a1.tr0 (s8.t (cz.t (cd.t (c6.t cc))));refine hcl (fun v wv=>TmD [] mT36 wv (v)) rfl X8 (uZ [] mS5 mT35 _ _ _ _ _ _ _ _ w9 (by simp) a1 dw) rfl (fun e' w2 hr=>?_) (fun v36 w10 cb d36=>?_)
 ·obtain⟨⟨_,rfl,hd⟩,s19⟩:=hr;exact⟨_,rfl,sB s19,hd⟩
 obtain⟨S36,c36,B36,m36,n36,e36,dv⟩:=d36;subst e36;replace cw:=cw.tr0 (s1.t (s2.t (s4.t (s6.t (s8.t (cz.t (cd.t (c6.t (cc.t cb)))))))));refine hcl (fun v wv=>TmD [] Cv wv (v)) rfl X8 (uZ [] mS8 mT36 _ _ _ _ _ _ _ _ w10 (by simp) cw dv) rfl (fun e' w2 hr=>?_) (fun v37 w11 cy d37=>?_)
 ·obtain⟨⟨_,rfl,hd⟩,s21⟩:=hr;exact⟨_,rfl,sB s21,hd⟩
 obtain⟨S37,c37,B37,m37,n37,e37,a7⟩:=d37;subst e37;refine hcl (fun v wv=>TmD [] mT39 wv (v)) rfl X7 (vw [] 0 w11) rfl (fun e' w2 hr=>?_) (fun v39 w12 ca d39=>?_)
 ·obtain⟨⟨_,rfl,hd⟩,s23⟩:=hr;exact⟨_,rfl,sB s23,hd⟩
 obtain⟨S39,c39,B39,m39,n39,e39,du⟩:=d39;subst e39;replace a1:=a1.tr0 (cb.t (cy.t ca));refine hcl (fun v wv=>TmD [] Ck wv (v)) rfl X8 (uZ [] mS5 mT39 _ _ _ _ _ _ _ _ w12 (by simp) a1 du) rfl (fun e' w2 hr=>?_) (fun v40 w13 c9 d40=>?_)
 ·obtain⟨⟨_,rfl,hd⟩,s25⟩:=hr;exact⟨_,rfl,sB s25,hd⟩
 obtain⟨S40,c40,B40,m40,n40,e40,a6⟩:=d40;subst e40;refine hcl (fun v wv=>TmD [] mT44 wv (v)) rfl X7 (vw [] 1 w13) rfl (fun e' w2 hr=>?_) (fun v44 w14 c5 d44=>?_)
 ·obtain⟨⟨_,rfl,hd⟩,s27⟩:=hr;exact⟨_,rfl,sB s27,hd⟩
 obtain⟨S44,c44,B44,m44,n44,e44,cr⟩:=d44;subst e44;refine hcl (fun v wv=>TmD [] mT46 wv (v)) rfl X7 (vw [] 3 w14) rfl (fun e' w2 hr=>?_) (fun v46 w15 bw d46=>?_)
 ·obtain⟨⟨_,rfl,hd⟩,s29⟩:=hr;exact⟨_,rfl,sB s29,hd⟩
 obtain⟨S46,c46,B46,m46,n46,e46,cq⟩:=d46;subst e46;refine hcl (fun v wv=>TmD [] mT47 wv (v)) rfl X7 (vw [] 1 w15) rfl (fun e' w2 hr=>?_) (fun v47 w16 bh d47=>?_)
 ·obtain⟨⟨_,rfl,hd⟩,s31⟩:=hr;exact⟨_,rfl,sB s31,hd⟩
 obtain⟨S47,c47,B47,m47,n47,e47,dr⟩:=d47;subst e47;replace cq:=cq.tr0 bh;refine hcl (fun v wv=>TmD [] mT48 wv (v)) rfl Vx (Zk [] mT46 mT47 _ _ _ _ _ _ _ _ _ _ w16 (by simp) cq dr) rfl (fun e' w2 hr=>?_) (fun v48 w17 bv d48=>?_)
 ·obtain⟨⟨_,rfl,hd⟩,s33⟩:=hr;exact⟨_,rfl,sB s33,hd⟩
 obtain⟨S48,c48,B48,m48,n48,e48,cp⟩:=d48;subst e48;refine hcl (fun v wv=>TmD [] mT49 wv (v)) rfl X7 (vw [] 0 w17) rfl (fun e' w2 hr=>?_) (fun v49 w18 bg d49=>?_)
 ·obtain⟨⟨_,rfl,hd⟩,s35⟩:=hr;exact⟨_,rfl,sB s35,hd⟩
 obtain⟨S49,c49,B49,m49,n49,e49,dq⟩:=d49;subst e49;replace cp:=cp.tr0 bg;refine hcl (fun v wv=>TmD [] mT50 wv (v)) rfl Vx (Zk [] mT48 mT49 _ _ _ _ _ _ _ _ _ _ w18 (by simp) cp dq) rfl (fun e' w2 hr=>?_) (fun v50 w19 bu d50=>?_)
 ·obtain⟨⟨_,rfl,hd⟩,s37⟩:=hr;exact⟨_,rfl,sB s37,hd⟩
 obtain⟨S50,c50,B50,m50,n50,e50,dp⟩:=d50;subst e50;refine hcl (fun v wv=>TmD [] mT51 wv (v)) rfl X8 (uZ [] (Ts.b false) mT50 _ _ _ _ _ _ _ _ w19 (by simp) (Fz.triv _ _ TS (fun _=>SimsIn.nil)) dp) rfl (fun e' w2 hr=>?_) (fun v51 w20 bt d51=>?_)
 ·obtain⟨⟨_,rfl,hd⟩,s39⟩:=hr;exact⟨_,rfl,sB s39,hd⟩
 obtain⟨S51,c51,B51,m51,n51,e51,dn⟩:=d51;subst e51;replace cr:=cr.tr0 (bw.t (bh.t (bv.t (bg.t (bu.t bt)))));refine hcl (fun v wv=>TmD [] mT52 wv (v)) rfl Vx (Zk [] mT44 mT51 _ _ _ _ _ _ _ _ _ _ w20 (by simp) cr dn) rfl (fun e' w2 hr=>?_) (fun v52 w21 c4 d52=>?_)
 ·obtain⟨⟨_,rfl,hd⟩,s41⟩:=hr;exact⟨_,rfl,sB s41,hd⟩
 obtain⟨S52,c52,B52,m52,n52,e52,dm⟩:=d52;subst e52;refine hcl (fun v wv=>TmD [] mT53 wv (v)) rfl X8 (uZ [] (Ts.b false) mT52 _ _ _ _ _ _ _ _ w21 (by simp) (Fz.triv _ _ TS (fun _=>SimsIn.nil)) dm) rfl (fun e' w2 hr=>?_) (fun v53 w22 c3 d53=>?_)
 ·obtain⟨⟨_,rfl,hd⟩,s43⟩:=hr;exact⟨_,rfl,sB s43,hd⟩
 obtain⟨S53,c53,B53,m53,n53,e53,dk⟩:=d53;subst e53;replace a2:=a2.tr0 (cz.t (cd.t (c6.t (cc.t (cb.t (cy.t (ca.t (c9.t (c5.t (bw.t (bh.t (bv.t (bg.t (bu.t (bt.t (c4.t c3))))))))))))))));refine hcl (fun v wv=>TmD [] mT54 wv (v)) rfl X8 (uZ [] mS6 mT53 _ _ _ _ _ _ _ _ w22 (by simp) a2 dk) rfl (fun e' w2 hr=>?_) (fun v54 w23 c2 d54=>?_)
 ·obtain⟨⟨_,rfl,hd⟩,s45⟩:=hr;exact⟨_,rfl,sB s45,hd⟩
 obtain⟨S54,c54,B54,m54,n54,e54,dj⟩:=d54;subst e54;replace cx:=cx.tr0 (s1.t (s2.t (s4.t (s6.t (s8.t (cz.t (cd.t (c6.t (cc.t (cb.t (cy.t (ca.t (c9.t (c5.t (bw.t (bh.t (bv.t (bg.t (bu.t (bt.t (c4.t (c3.t c2))))))))))))))))))))));refine hcl (fun v wv=>TmD [] Cj wv (v)) rfl X8 (uZ [] mS7 mT54 _ _ _ _ _ _ _ _ w23 (by simp) cx dj) rfl (fun e' w2 hr=>?_) (fun v55 w24 c8 d55=>?_)
 ·obtain⟨⟨_,rfl,hd⟩,s47⟩:=hr;exact⟨_,rfl,sB s47,hd⟩
 obtain⟨S55,c55,B55,m55,n55,e55,a5⟩:=d55;subst e55;refine hcl (fun v wv=>SmD [] mT58 wv (v)) rfl VV (Zy [] (Ts.b true) (Ts.b true) _ _ _ _ _ _ w24 (by simp) (Fz.triv _ _ TS (fun _=>SimsIn.nil)) (Fz.triv _ _ TS (fun _=>SimsIn.nil))) rfl (fun e' w2 hr=>?_) (fun v58 w25 c1 d58=>?_)
 ·obtain⟨⟨_,rfl,hd⟩,s49⟩:=hr;exact⟨_,rfl,sB s49,hd⟩
 obtain⟨A58,c58,n58,e58,co⟩:=d58;subst e58;refine hcl (fun v wv=>TmD [] mT61 wv (v)) rfl X7 (vw [] 2 w25) rfl (fun e' w2 hr=>?_) (fun v61 w26 br d61=>?_)
 ·obtain⟨⟨_,rfl,hd⟩,s51⟩:=hr;exact⟨_,rfl,sB s51,hd⟩
 obtain⟨S61,c61,B61,m61,n61,e61,cn⟩:=d61;subst e61;refine hcl (fun v wv=>TmD [] mT62 wv (v)) rfl X7 (vw [] 1 w26) rfl (fun e' w2 hr=>?_) (fun v62 w27 bf d62=>?_)
 ·obtain⟨⟨_,rfl,hd⟩,s53⟩:=hr;exact⟨_,rfl,sB s53,hd⟩
 obtain⟨S62,c62,B62,m62,n62,e62,cm⟩:=d62;subst e62;refine hcl (fun v wv=>TmD [] mT63 wv (v)) rfl X7 (vw [] 0 w27) rfl (fun e' w2 hr=>?_) (fun v63 w28 ba d63=>?_)
 ·obtain⟨⟨_,rfl,hd⟩,s55⟩:=hr;exact⟨_,rfl,sB s55,hd⟩
 obtain⟨S63,c63,B63,m63,n63,e63,di⟩:=d63;subst e63;replace cm:=cm.tr0 ba;refine hcl (fun v wv=>TmD [] mT64 wv (v)) rfl Vx (Zk [] mT62 mT63 _ _ _ _ _ _ _ _ _ _ w28 (by simp) cm di) rfl (fun e' w2 hr=>?_) (fun v64 w29 be d64=>?_)
 ·obtain⟨⟨_,rfl,hd⟩,s57⟩:=hr;exact⟨_,rfl,sB s57,hd⟩
 obtain⟨S64,c64,B64,m64,n64,e64,dh⟩:=d64;subst e64;replace cn:=cn.tr0 (bf.t (ba.t be));refine hcl (fun v wv=>TmD [] mT65 wv (v)) rfl Vx (Zk [] mT61 mT64 _ _ _ _ _ _ _ _ _ _ w29 (by simp) cn dh) rfl (fun e' w2 hr=>?_) (fun v65 w30 bq d65=>?_)
 ·obtain⟨⟨_,rfl,hd⟩,s59⟩:=hr;exact⟨_,rfl,sB s59,hd⟩
 obtain⟨S65,c65,B65,m65,n65,e65,dg⟩:=d65;subst e65;refine hcl (fun v wv=>TmD [] mT66 wv (v)) rfl X8 (uZ [] (Ts.b false) mT65 _ _ _ _ _ _ _ _ w30 (by simp) (Fz.triv _ _ TS (fun _=>SimsIn.nil)) dg) rfl (fun e' w2 hr=>?_) (fun v66 w31 bo d66=>?_)
 ·obtain⟨⟨_,rfl,hd⟩,s61⟩:=hr;exact⟨_,rfl,sB s61,hd⟩
 obtain⟨S66,c66,B66,m66,n66,e66,df⟩:=d66;subst e66;replace a1:=a1.tr0 (c9.t (c5.t (bw.t (bh.t (bv.t (bg.t (bu.t (bt.t (c4.t (c3.t (c2.t (c8.t (c1.t (br.t (bf.t (ba.t (be.t (bq.t bo))))))))))))))))));refine hcl (fun v wv=>TmD [] mT67 wv (v)) rfl X8 (uZ [] mS5 mT66 _ _ _ _ _ _ _ _ w31 (by simp) a1 df) rfl (fun e' w2 hr=>?_) (fun v67 w32 bn d67=>?_)
 ·obtain⟨⟨_,rfl,hd⟩,s63⟩:=hr;exact⟨_,rfl,sB s63,hd⟩
 obtain⟨S67,c67,B67,m67,n67,e67,de⟩:=d67;subst e67;replace co:=co.tr0 (br.t (bf.t (ba.t (be.t (bq.t (bo.t bn))))));refine hcl (fun v wv=>TmD [] Cx wv (v)) rfl X8 (uZ [] mT58 mT67 _ _ _ _ _ _ _ _ w32 (by simp) co de) rfl (fun e' w2 hr=>?_) (fun v68 w33 c0 d68=>?_)
 ·obtain⟨⟨_,rfl,hd⟩,s65⟩:=hr;exact⟨_,rfl,sB s65,hd⟩
 obtain⟨S68,c68,B68,m68,n68,e68,a4⟩:=d68;subst e68;refine hcl (fun v wv=>SmD [] mT73 wv (v)) rfl VV (Zy [] (Ts.b true) (Ts.b true) _ _ _ _ _ _ w33 (by simp) (Fz.triv _ _ TS (fun _=>SimsIn.nil)) (Fz.triv _ _ TS (fun _=>SimsIn.nil))) rfl (fun e' w2 hr=>?_) (fun v73 w34 bm d73=>?_)
 ·obtain⟨⟨_,rfl,hd⟩,s67⟩:=hr;exact⟨_,rfl,sB s67,hd⟩
 obtain⟨A73,c73,n73,e73,dc⟩:=d73;subst e73;refine hcl (fun v wv=>SmD [] mT74 wv (v)) rfl VV (Zy [] (Ts.b true) mT73 _ _ _ _ _ _ w34 (by simp) (Fz.triv _ _ TS (fun _=>SimsIn.nil)) dc) rfl (fun e' w2 hr=>?_) (fun v74 w35 bk d74=>?_)
 ·obtain⟨⟨_,rfl,hd⟩,s69⟩:=hr;exact⟨_,rfl,sB s69,hd⟩
 obtain⟨A74,c74,n74,e74,ck⟩:=d74;subst e74;refine hcl (fun v wv=>TmD [] mT77 wv (v)) rfl X7 (vw [] 2 w35) rfl (fun e' w2 hr=>?_) (fun v77 w36 bd d77=>?_)
 ·obtain⟨⟨_,rfl,hd⟩,s71⟩:=hr;exact⟨_,rfl,sB s71,hd⟩
 obtain⟨S77,c77,B77,m77,n77,e77,cj⟩:=d77;subst e77;refine hcl (fun v wv=>TmD [] mT78 wv (v)) rfl X7 (vw [] 3 w36) rfl (fun e' w2 hr=>?_) (fun v78 w37 b9 d78=>?_)
 ·obtain⟨⟨_,rfl,hd⟩,s73⟩:=hr;exact⟨_,rfl,sB s73,hd⟩
 obtain⟨S78,c78,B78,m78,n78,e78,cg⟩:=d78;subst e78;refine hcl (fun v wv=>TmD [] mT79 wv (v)) rfl X7 (vw [] 0 w37) rfl (fun e' w2 hr=>?_) (fun v79 w38 an d79=>?_)
 ·obtain⟨⟨_,rfl,hd⟩,s75⟩:=hr;exact⟨_,rfl,sB s75,hd⟩
 obtain⟨S79,c79,B79,m79,n79,e79,db⟩:=d79;subst e79;replace cg:=cg.tr0 an;refine hcl (fun v wv=>TmD [] mT80 wv (v)) rfl Vx (Zk [] mT78 mT79 _ _ _ _ _ _ _ _ _ _ w38 (by simp) cg db) rfl (fun e' w2 hr=>?_) (fun v80 w39 b2 d80=>?_)
 ·obtain⟨⟨_,rfl,hd⟩,s77⟩:=hr;exact⟨_,rfl,sB s77,hd⟩
 obtain⟨S80,c80,B80,m80,n80,e80,da⟩:=d80;subst e80;replace cj:=cj.tr0 (b9.t (an.t b2));refine hcl (fun v wv=>TmD [] mT81 wv (v)) rfl Vx (Zk [] mT77 mT80 _ _ _ _ _ _ _ _ _ _ w39 (by simp) cj da) rfl (fun e' w2 hr=>?_) (fun v81 w40 bc d81=>?_)
 ·obtain⟨⟨_,rfl,hd⟩,s79⟩:=hr;exact⟨_,rfl,sB s79,hd⟩
 obtain⟨S81,c81,B81,m81,n81,e81,cf⟩:=d81;subst e81;refine hcl (fun v wv=>TmD [] mT82 wv (v)) rfl X7 (vw [] 1 w40) rfl (fun e' w2 hr=>?_) (fun v82 w41 b1 d82=>?_)
 ·obtain⟨⟨_,rfl,hd⟩,s81⟩:=hr;exact⟨_,rfl,sB s81,hd⟩
 obtain⟨S82,c82,B82,m82,n82,e82,ce⟩:=d82;subst e82;refine hcl (fun v wv=>TmD [] mT83 wv (v)) rfl X7 (vw [] 0 w41) rfl (fun e' w2 hr=>?_) (fun v83 w42 ab d83=>?_)
 ·obtain⟨⟨_,rfl,hd⟩,s83⟩:=hr;exact⟨_,rfl,sB s83,hd⟩
 obtain⟨S83,c83,B83,m83,n83,e83,d9⟩:=d83;subst e83;replace ce:=ce.tr0 ab;refine hcl (fun v wv=>TmD [] mT84 wv (v)) rfl Vx (Zk [] mT82 mT83 _ _ _ _ _ _ _ _ _ _ w42 (by simp) ce d9) rfl (fun e' w2 hr=>?_) (fun v84 w43 ao d84=>?_)
 ·obtain⟨⟨_,rfl,hd⟩,s85⟩:=hr;exact⟨_,rfl,sB s85,hd⟩
 obtain⟨S84,c84,B84,m84,n84,e84,d8⟩:=d84;subst e84;replace cf:=cf.tr0 (b1.t (ab.t ao));refine hcl (fun v wv=>TmD [] mT85 wv (v)) rfl Vx (Zk [] mT81 mT84 _ _ _ _ _ _ _ _ _ _ w43 (by simp) cf d8) rfl (fun e' w2 hr=>?_) (fun v85 w44 bb d85=>?_)
 ·obtain⟨⟨_,rfl,hd⟩,s87⟩:=hr;exact⟨_,rfl,sB s87,hd⟩
 obtain⟨S85,c85,B85,m85,n85,e85,d7⟩:=d85;subst e85;replace a1:=a1.tr0 (bn.t (c0.t (bm.t (bk.t (bd.t (b9.t (an.t (b2.t (bc.t (b1.t (ab.t (ao.t bb))))))))))));refine hcl (fun v wv=>TmD [] mT86 wv (v)) rfl X8 (uZ [] mS5 mT85 _ _ _ _ _ _ _ _ w44 (by simp) a1 d7) rfl (fun e' w2 hr=>?_) (fun v86 w45 bj d86=>?_)
 ·obtain⟨⟨_,rfl,hd⟩,s89⟩:=hr;exact⟨_,rfl,sB s89,hd⟩
 obtain⟨S86,c86,B86,m86,n86,e86,d6⟩:=d86;subst e86;replace a2:=a2.tr0 (c2.t (c8.t (c1.t (br.t (bf.t (ba.t (be.t (bq.t (bo.t (bn.t (c0.t (bm.t (bk.t (bd.t (b9.t (an.t (b2.t (bc.t (b1.t (ab.t (ao.t (bb.t bj))))))))))))))))))))));refine hcl (fun v wv=>TmD [] mT87 wv (v)) rfl X8 (uZ [] mS6 mT86 _ _ _ _ _ _ _ _ w45 (by simp) a2 d6) rfl (fun e' w2 hr=>?_) (fun v87 w46 bi d87=>?_)
 ·obtain⟨⟨_,rfl,hd⟩,s91⟩:=hr;exact⟨_,rfl,sB s91,hd⟩
 obtain⟨S87,c87,B87,m87,n87,e87,d5⟩:=d87;subst e87;replace ck:=ck.tr0 (bd.t (b9.t (an.t (b2.t (bc.t (b1.t (ab.t (ao.t (bb.t (bj.t bi))))))))));refine hcl (fun v wv=>TmD [] mT88 wv (v)) rfl X8 (uZ [] mT74 mT87 _ _ _ _ _ _ _ _ w46 (by simp) ck d5) rfl (fun e' w2 hr=>?_) (fun v88 w47 bz d88=>?_)
 ·obtain⟨⟨_,rfl,hd⟩,s93⟩:=hr;exact⟨_,rfl,sB s93,hd⟩
 obtain⟨S88,c88,B88,m88,n88,e88,d4⟩:=d88;subst e88;replace a2:=a2.tr0 (bi.t bz);refine hcl (fun v wv=>TmD [] Cq wv (v)) rfl X8 (uZ [] mS6 mT88 _ _ _ _ _ _ _ _ w47 (by simp) a2 d4) rfl (fun e' w2 hr=>?_) (fun v89 w48 c7 d89=>?_)
 ·obtain⟨⟨_,rfl,hd⟩,s95⟩:=hr;exact⟨_,rfl,sB s95,hd⟩
 obtain⟨S89,c89,B89,m89,n89,e89,a9⟩:=d89;subst e89;replace e6:=e6.t (s2.t (s4.t (s6.t (s8.t (cz.t (cd.t (c6.t (cc.t (cb.t (cy.t (ca.t (c9.t (c5.t (bw.t (bh.t (bv.t (bg.t (bu.t (bt.t (c4.t (c3.t (c2.t (c8.t (c1.t (br.t (bf.t (ba.t (be.t (bq.t (bo.t (bn.t (c0.t (bm.t (bk.t (bd.t (b9.t (an.t (b2.t (bc.t (b1.t (ab.t (ao.t (bb.t (bj.t (bi.t (bz.t c7))))))))))))))))))))))))))))))))))))))))))))));have q0:=e6.size;replace a8:=a8.tr0 (cd.t (c6.t (cc.t (cb.t (cy.t (ca.t (c9.t (c5.t (bw.t (bh.t (bv.t (bg.t (bu.t (bt.t (c4.t (c3.t (c2.t (c8.t (c1.t (br.t (bf.t (ba.t (be.t (bq.t (bo.t (bn.t (c0.t (bm.t (bk.t (bd.t (b9.t (an.t (b2.t (bc.t (b1.t (ab.t (ao.t (bb.t (bj.t (bi.t (bz.t c7)))))))))))))))))))))))))))))))))))))))));have q30:=a8.le;replace a7:=a7.tr0 (ca.t (c9.t (c5.t (bw.t (bh.t (bv.t (bg.t (bu.t (bt.t (c4.t (c3.t (c2.t (c8.t (c1.t (br.t (bf.t (ba.t (be.t (bq.t (bo.t (bn.t (c0.t (bm.t (bk.t (bd.t (b9.t (an.t (b2.t (bc.t (b1.t (ab.t (ao.t (bb.t (bj.t (bi.t (bz.t c7))))))))))))))))))))))))))))))))))));have q37:=a7.le;replace a6:=a6.tr0 (c5.t (bw.t (bh.t (bv.t (bg.t (bu.t (bt.t (c4.t (c3.t (c2.t (c8.t (c1.t (br.t (bf.t (ba.t (be.t (bq.t (bo.t (bn.t (c0.t (bm.t (bk.t (bd.t (b9.t (an.t (b2.t (bc.t (b1.t (ab.t (ao.t (bb.t (bj.t (bi.t (bz.t c7))))))))))))))))))))))))))))))))));have q40:=a6.le;replace a5:=a5.tr0 (c1.t (br.t (bf.t (ba.t (be.t (bq.t (bo.t (bn.t (c0.t (bm.t (bk.t (bd.t (b9.t (an.t (b2.t (bc.t (b1.t (ab.t (ao.t (bb.t (bj.t (bi.t (bz.t c7)))))))))))))))))))))))
 have q55:=a5.le;replace a4:=a4.tr0 (bm.t (bk.t (bd.t (b9.t (an.t (b2.t (bc.t (b1.t (ab.t (ao.t (bb.t (bj.t (bi.t (bz.t c7))))))))))))));have q68:=a4.le;have q89:=a9.le;refine h1 rfl ?_;refine qj (cs:=#[_,_,_,_,_,_,_,_,_,_,_,_,_,_,_,_,_,_,_,_,_,_,_,_,_,_,_,_,_,_,_,_,_,_,_,_]) [(0,.agg _),(1,.agg _),(2,.agg _),(3,.agg _),(4,.agg _),(5,.agg _)] rfl U62 gV C3 dE dE kR rfl (fun e7 w49 a3 bx hr=>?_);have d2:=bx;refine x6 (Y1 d2 ?_);replace a8:=a8.tr0 bx;replace a7:=a7.tr0 bx;replace a6:=a6.tr0 bx;replace a5:=a5.tr0 bx;replace a4:=a4.tr0 bx;replace a9:=a9.tr0 bx;obtain⟨e7,S30,c30,B30,m30,S37,c37,B37,m37,S40,c40,B40,m40,S55,c55,B55,m55,S68,c68,B68,m68,S89,c89,B89,m89,e90,d3,a3,a8,a7,a6,a5,a4,a9⟩:MnR wc (.slice (some ⟨e7,0,none⟩) 6 6) w49:=⟨_,_,_,_,_,_,_,_,_,_,_,_,_,_,_,_,_,_,_,_,_,_,_,_,_,rfl,nLT q0 hr,a3,a8.mono (nLT q30 hr) (Nat.le_of_lt a3.lt),a7.mono (nLT q37 hr) (Nat.le_of_lt a3.lt),a6.mono (nLT q40 hr) (Nat.le_of_lt a3.lt),a5.mono (nLT q55 hr) (Nat.le_of_lt a3.lt),a4.mono (nLT q68 hr) (Nat.le_of_lt a3.lt),a9.mono (nLT q89 hr) (Nat.le_of_lt a3.lt)⟩
 cases e90;refine zn2 ?_;refine e_R ⟨agA,?_⟩;replace hZ:=hZ.trans (s1.t (s2.t (s4.t (s6.t (s8.t (cz.t (cd.t (c6.t (cc.t (cb.t (cy.t (ca.t (c9.t (c5.t (bw.t (bh.t (bv.t (bg.t (bu.t (bt.t (c4.t (c3.t (c2.t (c8.t (c1.t (br.t (bf.t (ba.t (be.t (bq.t (bo.t (bn.t (c0.t (bm.t (bk.t (bd.t (b9.t (an.t (b2.t (bc.t (b1.t (ab.t (ao.t (bb.t (bj.t (bi.t (bz.t (c7.t bx))))))))))))))))))))))))))))))))))))))))))))))));exact⟨hZ,e7,S30,c30,B30,m30,S37,c37,B37,m37,S40,c40,B40,m40,S55,c55,B55,m55,S68,c68,B68,m68,S89,c89,B89,m89,rfl,d3,a3,a8,a7,a6,a5,a4,a9⟩
theorem Gy(w:World):Calls Tryd.prog 24 #[.bool false] w fun e w'=>(∃ b vs n,e= .returned (.slice (some ⟨b,0,none⟩) 6 6)/\Blk w' b 64 vs.toArray/\TmCs n w' XQ vs)/\Bel w w':=by
 refine enT Tryd.func24 Tryd.ntmps24 rfl rfl fun hB=>?_;refine zn7 ?_;refine aZ H1 (gQ _ _) rfl (fun w1 s1=>?_);refine aZ H1 (gQ _ _) rfl (fun w2 s2=>?_);refine qw (cs:=#[.string ⟨#[]⟩,.slice none 0 0]) vk rfl (fun b3 w3 a9 s3 hr=>?_);have lo3:=hB.u.ob hr;refine qw (cs:=#[.string ⟨#[]⟩,.slice none 0 0]) vk rfl (fun b4 w4 an s4 hr=>?_);have:=a9.ob hr;have lo4:=hB.u.ob hr;refine zJ a9.u (fun w5 hq s5=>?_);replace a9:=hq;refine zJ an.u (fun w6 hq s6=>?_);replace an:=hq;refine zn6 ?_;refine zX VV (Zy [] (Ts.b false) (Ts.b true) _ _ _ _ _ _ _ (by simp) (Fz.triv _ _ TS (fun _=>SimsIn.nil)) (Fz.triv _ _ TS (fun _=>SimsIn.nil))) rfl (fun e' w7 hr=>?_);obtain⟨⟨_,rfl,A14,c14,n14,rfl,a1⟩,s7⟩:=hr;replace s7:=sB s7;refine⟨_,rfl,?_⟩;refine yx (cs:=#[.string ⟨#[]⟩,.slice none 0 0]) vk rfl (fun _=>rfl) (fun _=>rfl) yk rfl y5 (fun b5 w9 bf s8 hr=>?_);refine zn6 ?_;replace a1:=a1.tr0 s8;refine zX VV (Zy [] mS5 (Ts.b true) _ _ _ _ _ _ _ (by simp) a1 (Fz.triv _ _ TS (fun _=>SimsIn.nil))) rfl (fun e' w10 hr=>?_);obtain⟨⟨_,rfl,A17,c17,n17,rfl,a2⟩,s9⟩:=hr;replace s9:=sB s9;refine⟨_,rfl,?_⟩;refine yx (cs:=#[.string ⟨#[]⟩,.slice none 0 0]) vk rfl (fun _=>rfl) (fun _=>rfl) yk rfl y5 (fun b6 w12 be ab hr=>?_);refine zn6 ?_;replace a1:=a1.tr0 (s9.t ab);refine zX VV (Zy [] (Ts.b false) mS5 _ _ _ _ _ _ _ (by simp) (Fz.triv _ _ TS (fun _=>SimsIn.nil)) a1) rfl (fun e' w13 hr=>?_);obtain⟨⟨_,rfl,A20,c20,n20,rfl,a8⟩,a5⟩:=hr;replace a5:=sB a5;refine⟨_,rfl,?_⟩;refine yx (cs:=#[.string ⟨#[]⟩,.slice none 0 0]) vk rfl (fun _=>rfl) (fun _=>rfl) yk rfl y5 (fun b7 w15 bd a6 hr=>?_);refine zn6 ?_;replace a2:=a2.tr0 (ab.t (a5.t a6));replace a1:=a1.tr0 (a5.t a6);refine zX VV (Zy [] mS5 mS6 _ _ _ _ _ _ _ (by simp) a1 a2) rfl (fun e' w16 hr=>?_);obtain⟨⟨_,rfl,A23,c23,n23,rfl,a7⟩,a3⟩:=hr;replace a3:=sB a3;refine⟨_,rfl,?_⟩;refine yx (cs:=#[.string ⟨#[]⟩,.slice none 0 0]) vk rfl (fun _=>rfl) (fun _=>rfl) yk rfl y5 (fun b8 w18 hb8 a4 hr=>?_);refine zn3 ?_;refine yX (rgq [9] 24 67) (fun g w'=>Same [] w18 w'/\MnR w18 (g 9) w') ?_ (fun g6 w19 hI=>?_)
 ·replace a9:=(a9.tr1 s6 oG).tr0 (s7.t (s8.t (s9.t (ab.t (a5.t (a6.t (a3.t a4)))))));replace an:=an.tr0 (s7.t (s8.t (s9.t (ab.t (a5.t (a6.t (a3.t a4)))))));replace bf:=bf.tr0 (s9.t (ab.t (a5.t (a6.t (a3.t a4)))));replace be:=be.tr0 (a5.t (a6.t (a3.t a4)));replace a8:=a8.tr0 (a6.t (a3.t a4));replace a1:=a1.tr0 (a3.t a4);replace a2:=a2.tr0 (a3.t a4);replace bd:=bd.tr0 (a3.t a4);replace a7:=a7.tr0 a4;have hh:=fun f Q k0 k1 k2 k3 k4 k5 kq=>mean_r6 a9 an bf be bd hb8 a1 a2 a8 a7 f Q k0 k1 k2 k3 k4 k5 kq
  exact hh _ _ (by rfl) (by rfl) (by rfl) (by rfl) (by rfl) (by rfl) (by intro d;cases d<;>exact fun _ _ _ _ h=>h)
 obtain⟨s15,b90,S30,c30,B30,m30,S37,c37,B37,m37,S40,c40,B40,m40,S55,c55,B55,m55,S68,c68,B68,m68,S89,c89,B89,m89,e9,lo90,bc,bb,ba,b9,b2,b1,ao⟩:=hI;refine Zq 9 _ e9 nu (zn7 ?_);refine jW rfl (fun c91=>?_) (fun c91=>?_)
 ·exact absurd c91 dE
 refine jZ ?_;exact⟨⟨b90,_,b90,rfl,bc,(.cons bb (.cons ba (.cons b9 (.cons b2 (.cons b1 (.cons ao .nil))))))⟩,hB.u⟩
end Go.Proofs.YtmfiholmfieieaaDoor
