/- What these functions of the program compute, at every world: glosswright/glosswrightequal.quantified, glosswright/glosswrightequal.quantified. -/
import Derived.Test.YtdkfnakncaggoaaGreatDoorU
import Derived.Test.YtdkfnakncaggoaaGreatDoorName
import Derived.Test.YtdkfnakncaggoaaGreatDoorDSh
namespace Go.Proofs.YtdkfnakncaggoaaGreatDoor
open Go.RowKit
def qN19 (s1 s2:ByteArray):Ts:=(fun _=>(Ts.f (Ts.f (Ts.b false) (Ts.b true)) (Ts.b true))) (s1,s2)
def OK (s1 s2:ByteArray):Tv:=(Tv.con s1 (qN19 s1 s2))
def qN26 (s1 s2:ByteArray):Ts:=(fun _=>(Ts.f (Ts.b true) (Ts.b true))) (s1,s2)
def qN27 (s1 s2:ByteArray):Ts:=(Ts.f (Ts.b true) (qN26 s1 s2))
def OJ (s1 s2:ByteArray):Tv:=(Tv.con s2 (qN27 s1 s2))
def OX (s1 s2:ByteArray):Tv:=(fun _=>(Tv.var 2)) (s1,s2)
def OQ (s1 s2:ByteArray):Tv:=(fun _=>(Tv.var 0)) (s1,s2)
def OZ (s1 s2:ByteArray):Tv:=(Tv.app (OX s1 s2) (OQ s1 s2))
def Oy (s1 s2:ByteArray):Tv:=(Tv.app (OJ s1 s2) (OZ s1 s2))
def Ow (s1 s2:ByteArray):Tv:=(fun _=>(Tv.var 1)) (s1,s2)
def Ov (s1 s2:ByteArray):Tv:=(fun _=>(Tv.var 0)) (s1,s2)
def Ok (s1 s2:ByteArray):Tv:=(Tv.app (Ow s1 s2) (Ov s1 s2))
def Oj (s1 s2:ByteArray):Tv:=(Tv.app (Oy s1 s2) (Ok s1 s2))
def Ox (s1 s2:ByteArray):Tv:=(Tv.abs (Ts.b false) (Oj s1 s2))
def jj (s1 s2:ByteArray):Tv:=(Tv.app (OK s1 s2) (Ox s1 s2))
def OV (s1 s2:ByteArray):Tv:=(Tv.abs (Ts.f (Ts.b false) (Ts.b true)) (jj s1 s2))
def S7 (s1 s2:ByteArray):Tv:=(Tv.abs (Ts.f (Ts.b false) (Ts.b true)) (OV s1 s2))
def qY42 (s1 s2:ByteArray):Ts:=(fun _=>(Ts.f (Ts.b true) (Ts.b true))) (s1,s2)
def Oq (s1 s2:ByteArray):Tv:=(Tv.con ⟨#[110,111,116]⟩ (qY42 s1 s2))
def Z9 (s1 s2:ByteArray):Tv:=(Tv.app (Oq s1 s2) (jj s1 s2))
def Oz (s1 s2:ByteArray):Tv:=(Tv.abs (Ts.f (Ts.b false) (Ts.b true)) (Z9 s1 s2))
def S6 (s1 s2:ByteArray):Tv:=(Tv.abs (Ts.f (Ts.b false) (Ts.b true)) (Oz s1 s2))
def quN (s1 s2:ByteArray):Tv:=(S7 s1 s2)
def quY (s1 s2:ByteArray):Tv:=(S6 s1 s2)
def QuR (s1 s2:ByteArray) (wc:World) (v:Value) (w':World):Prop:=∃ b10 S38 c38 B38 m38 n38,v= .pointer (some ⟨b10,0,none⟩)∧wc.heap.size≤b10∧Blk w' b10 55 #[.int .i64 ((jj s1 s2)).tm.kind,.string ((jj s1 s2)).tm.name,.int .i64 ((jj s1 s2)).tm.index,.string ((jj s1 s2)).tm.type.base,.slice S38 ((jj s1 s2)).tm.type.args.length c38,.slice B38 ((jj s1 s2)).tm.args.length m38]∧Fz [b10] n38 TS w' (fun w=>SimsIn w S38 ((jj s1 s2)).tm.type.args∧TmsIn w B38 ((jj s1 s2)).tm.args)
theorem Same.new10 {b:Nat} {w w1 w2:World} (h:Same [] w w1) (hs:Same [b] w1 w2) (hb:w.heap.size≤b):Same [] w w2:=
  ⟨hs.os.trans h.os,hs.tape.trans h.tape,hs.output.trans h.output,nLT h.size hs.size,fun k hk _=>by
    rw [hs.blk k (nLL hk h.size) (by simp;omega)];exact h.blk k hk (by simp)⟩
theorem T2:zQ Tryz.prog 19=true:=by kernel_rfl
theorem QY:zQ Tryz.prog 20=true:=by kernel_rfl
theorem Zx:zQ Tryz.prog 26=true:=by kernel_rfl
theorem Z0:zQ Tryz.prog 27=true:=by kernel_rfl
theorem Qj:zQ Tryz.prog 28=true:=by kernel_rfl
theorem gY:zQ Tryz.prog 29=true:=by kernel_rfl
set_option maxHeartbeats 2000000 in
theorem qu_r3 {wc:World} {b7 b8 b9 c15 n15:Nat} {A15:Option Addr} (s1 s2:ByteArray) (hb7:Blk wc b7 52 #[.string ⟨#[101]⟩,.slice none 0 0]) (hb8:Blk wc b8 52 #[.string ⟨#[116]⟩,.slice none 0 0]) (hb9:Blk wc b9 52 #[.string ((Ts.f (Ts.b false) (Ts.b true))).sm.base,.slice A15 ((Ts.f (Ts.b false) (Ts.b true))).sm.args.length c15]) (hz15:Fz [] n15 TS wc (fun w=>SimsIn w A15 ((Ts.f (Ts.b false) (Ts.b true))).sm.args)) (f:Fr) (Q:Exit→Act→World→Prop) (k0:f 0= .string s1) (k1:f 1= .string s2) (k7:f 7= .pointer (some ⟨b7,0,none⟩)) (k8:f 8= .pointer (some ⟨b8,0,none⟩)) (k9:f 9= .pointer (some ⟨b9,0,none⟩)):WC Tryz.prog (sl (sr (sr (sr (ob Tryz.f25.body))))) (QRS 51 [10,16,17,18,19,20,21,22,23,24,25,26,27,28,29,30,31,32,33,34,35,36,37,38] f (fun g w'=>Same [] wc w'∧QuR s1 s2 wc (g 10) w') Q) 51 f wc:=by
 have hZ:Same [] wc wc:=Same.refl _ _;refine zJ 0 (.string s1) k0 nu (zJ 1 (.string s2) k1 nu (zJ 7 (.pointer (some ⟨b7,0,none⟩)) k7 nu (zJ 8 (.pointer (some ⟨b8,0,none⟩)) k8 nu (zJ 9 (.pointer (some ⟨b9,0,none⟩)) k9 nu ?_))));have z7:=hb7.lt;have z8:=hb8.lt;have z9:=hb9.lt;refine yk 24 [16,17,18,19,20,21,22,23,24,25,26,27,28,29,30,31,32,33,34,35,36,37,38,10] (fun ix=>Nat.beq ix 23) (fun ix v wv=>match ix with | 0=>v= .string s1 | 1=>v= .agg #[.string ((Ts.f (Ts.b false) (Ts.b true))).sm.base,.slice A15 ((Ts.f (Ts.b false) (Ts.b true))).sm.args.length c15] | 2=>v= .agg #[.string ((Ts.b true)).sm.base,.slice none ((Ts.b true)).sm.args.length 0] | 3=>SmD [] (qN19 s1 s2) wv (v) | 4=>TmD [] (OK s1 s2) wv (v) | 5=>v= .agg #[.string ((Ts.b false)).sm.base,.slice none ((Ts.b false)).sm.args.length 0] | 6=>v= .string s2 | 7=>v= .agg #[.string ((Ts.b true)).sm.base,.slice none ((Ts.b true)).sm.args.length 0] | 8=>v= .agg #[.string ((Ts.b true)).sm.base,.slice none ((Ts.b true)).sm.args.length 0] | 9=>v= .agg #[.string ((Ts.b true)).sm.base,.slice none ((Ts.b true)).sm.args.length 0] | 10=>SmD [] (qN26 s1 s2) wv (v) | 11=>SmD [] (qN27 s1 s2) wv (v) | 12=>TmD [] (OJ s1 s2) wv (v) | 13=>TmD [] (OX s1 s2) wv (v) | 14=>TmD [] (OQ s1 s2) wv (v) | 15=>TmD [] (OZ s1 s2) wv (v) | 16=>TmD [] (Oy s1 s2) wv (v) | 17=>TmD [] (Ow s1 s2) wv (v) | 18=>TmD [] (Ov s1 s2) wv (v) | 19=>TmD [] (Ok s1 s2) wv (v) | 20=>TmD [] (Oj s1 s2) wv (v) | 21=>TmD [] (Ox s1 s2) wv (v) | 22=>TmD [] (jj s1 s2) wv (v) | 23=>∃ b,v= .pointer (some ⟨b,0,none⟩)∧wc.heap.size≤b∧Blk wv b 55 #[.int .i64 0,.string ⟨#[]⟩,.int .i64 0,.string ⟨#[]⟩,.slice none 0 0,.slice none 0 0] | _=>True) kR kR ?_ ?_ ?_
 ·intro ix v wv wv2 h hs
  match ix,h with
  | 0,h=>exact h
  | 1,h=>exact h
  | 2,h=>exact h
  | 3,h=>
   obtain⟨A19,c19,n19,e19,hz19⟩:=h;exact⟨A19,c19,n19,e19,hz19.tr0 hs⟩
  | 4,h=>
   obtain⟨S20,c20,B20,m20,n20,e20,hz20⟩:=h;exact⟨S20,c20,B20,m20,n20,e20,hz20.tr0 hs⟩
  | 5,h=>exact h
  | 6,h=>exact h
  | 7,h=>exact h
  | 8,h=>exact h
  | 9,h=>exact h
  | 10,h=>
   obtain⟨A26,c26,n26,e26,hz26⟩:=h;exact⟨A26,c26,n26,e26,hz26.tr0 hs⟩
  | 11,h=>
   obtain⟨A27,c27,n27,e27,hz27⟩:=h;exact⟨A27,c27,n27,e27,hz27.tr0 hs⟩
  | 12,h=>
   obtain⟨S28,c28,B28,m28,n28,e28,hz28⟩:=h;exact⟨S28,c28,B28,m28,n28,e28,hz28.tr0 hs⟩
  | 13,h=>
   obtain⟨S29,c29,B29,m29,n29,e29,hz29⟩:=h;exact⟨S29,c29,B29,m29,n29,e29,hz29.tr0 hs⟩
  | 14,h=>
   obtain⟨S30,c30,B30,m30,n30,e30,hz30⟩:=h;exact⟨S30,c30,B30,m30,n30,e30,hz30.tr0 hs⟩
  | 15,h=>
   obtain⟨S31,c31,B31,m31,n31,e31,hz31⟩:=h;exact⟨S31,c31,B31,m31,n31,e31,hz31.tr0 hs⟩
  | 16,h=>
   obtain⟨S32,c32,B32,m32,n32,e32,hz32⟩:=h;exact⟨S32,c32,B32,m32,n32,e32,hz32.tr0 hs⟩
  | 17,h=>
   obtain⟨S33,c33,B33,m33,n33,e33,hz33⟩:=h;exact⟨S33,c33,B33,m33,n33,e33,hz33.tr0 hs⟩
  | 18,h=>
   obtain⟨S34,c34,B34,m34,n34,e34,hz34⟩:=h;exact⟨S34,c34,B34,m34,n34,e34,hz34.tr0 hs⟩
  | 19,h=>
   obtain⟨S35,c35,B35,m35,n35,e35,hz35⟩:=h;exact⟨S35,c35,B35,m35,n35,e35,hz35.tr0 hs⟩
  | 20,h=>
   obtain⟨S36,c36,B36,m36,n36,e36,hz36⟩:=h;exact⟨S36,c36,B36,m36,n36,e36,hz36.tr0 hs⟩
  | 21,h=>
   obtain⟨S37,c37,B37,m37,n37,e37,hz37⟩:=h;exact⟨S37,c37,B37,m37,n37,e37,hz37.tr0 hs⟩
  | 22,h=>
   obtain⟨S38,c38,B38,m38,n38,e38,hz38⟩:=h;exact⟨S38,c38,B38,m38,n38,e38,hz38.tr0 hs⟩
  | 23,h=>
   obtain⟨b10,e10,lo10,hb10⟩:=h;exact⟨b10,e10,lo10,hb10.tr0 hs⟩
  | _ + 24,h=>exact trivial
 ·intro ix o hix hoq gg wx hs hd hdis
  match ix,hix,hoq with
  | 0,_,hoq=>
   cases sI hoq;exact oV (x9 (v:= .string _) rfl) rfl
  | 1,_,hoq=>
   cases sI hoq;replace hb9:=hb9.tr0 hs;exact oV (zW U52 rfl rfl hb9.range0 qq) rfl
  | 2,_,hoq=>
   cases sI hoq;replace hb8:=hb8.tr0 hs;exact oV (zW U52 rfl rfl hb8.range0 qq) rfl
  | 3,_,hoq=>
   cases sI hoq;replace hz15:=hz15.tr0 hs;refine z4 17 (.agg #[.string ((Ts.f (Ts.b false) (Ts.b true))).sm.base,.slice A15 ((Ts.f (Ts.b false) (Ts.b true))).sm.args.length c15]) (hd 1 (zz kR)) nu (z4 18 (.agg #[.string ((Ts.b true)).sm.base,.slice none ((Ts.b true)).sm.args.length 0]) (hd 2 (zz kR)) nu ?_);refine qx QY (o7 [] (Ts.f (Ts.b false) (Ts.b true)) (Ts.b true) _ _ _ _ _ _ wx (by simp) hz15 (Fz.triv _ _ TS (fun _=>SimsIn.nil))) rfl (fun e' w2 hr=>?_);obtain⟨⟨_,rfl,hd⟩,hs⟩:=hr;exact⟨_,rfl,sB hs,hd,zX⟩
  | 4,_,hoq=>
   cases sI hoq;obtain⟨A19,c19,n19,e19,hz19⟩:=hd 3 (zz kR);refine z4 16 (.string s1) (hd 0 (zz kR)) nu (z4 19 (.agg #[.string ((qN19 s1 s2)).sm.base,.slice A19 ((qN19 s1 s2)).sm.args.length c19]) e19 nu ?_);refine qx Zx (kW [] s1 (qN19 s1 s2) _ _ _ wx hz19) rfl (fun e' w2 hr=>?_);obtain⟨⟨_,rfl,hd⟩,hs⟩:=hr;exact⟨_,rfl,sB hs,hd,zX⟩
  | 5,_,hoq=>
   cases sI hoq;replace hb7:=hb7.tr0 hs;exact oV (zW U52 rfl rfl hb7.range0 qq) rfl
  | 6,_,hoq=>
   cases sI hoq;exact oV (x9 (v:= .string _) rfl) rfl
  | 7,_,hoq=>
   cases sI hoq;replace hb8:=hb8.tr0 hs;exact oV (zW U52 rfl rfl hb8.range0 qq) rfl
  | 8,_,hoq=>
   cases sI hoq;replace hb8:=hb8.tr0 hs;exact oV (zW U52 rfl rfl hb8.range0 qq) rfl
  | 9,_,hoq=>
   cases sI hoq;replace hb8:=hb8.tr0 hs;exact oV (zW U52 rfl rfl hb8.range0 qq) rfl
  | 10,_,hoq=>
   cases sI hoq;refine z4 24 (.agg #[.string ((Ts.b true)).sm.base,.slice none ((Ts.b true)).sm.args.length 0]) (hd 8 (zz kR)) nu (z4 25 (.agg #[.string ((Ts.b true)).sm.base,.slice none ((Ts.b true)).sm.args.length 0]) (hd 9 (zz kR)) nu ?_);refine qx QY (o7 [] (Ts.b true) (Ts.b true) _ _ _ _ _ _ wx (by simp) (Fz.triv _ _ TS (fun _=>SimsIn.nil)) (Fz.triv _ _ TS (fun _=>SimsIn.nil))) rfl (fun e' w2 hr=>?_);obtain⟨⟨_,rfl,hd⟩,hs⟩:=hr;exact⟨_,rfl,sB hs,hd,zX⟩
  | 11,_,hoq=>
   cases sI hoq;obtain⟨A26,c26,n26,e26,hz26⟩:=hd 10 (zz kR);refine z4 23 (.agg #[.string ((Ts.b true)).sm.base,.slice none ((Ts.b true)).sm.args.length 0]) (hd 7 (zz kR)) nu (z4 26 (.agg #[.string ((qN26 s1 s2)).sm.base,.slice A26 ((qN26 s1 s2)).sm.args.length c26]) e26 nu ?_);refine qx QY (o7 [] (Ts.b true) (qN26 s1 s2) _ _ _ _ _ _ wx (by simp) (Fz.triv _ _ TS (fun _=>SimsIn.nil)) hz26) rfl (fun e' w2 hr=>?_);obtain⟨⟨_,rfl,hd⟩,hs⟩:=hr;exact⟨_,rfl,sB hs,hd,zX⟩
  | 12,_,hoq=>
   cases sI hoq;obtain⟨A27,c27,n27,e27,hz27⟩:=hd 11 (zz kR);refine z4 22 (.string s2) (hd 6 (zz kR)) nu (z4 27 (.agg #[.string ((qN27 s1 s2)).sm.base,.slice A27 ((qN27 s1 s2)).sm.args.length c27]) e27 nu ?_);refine qx Zx (kW [] s2 (qN27 s1 s2) _ _ _ wx hz27) rfl (fun e' w2 hr=>?_);obtain⟨⟨_,rfl,hd⟩,hs⟩:=hr;exact⟨_,rfl,sB hs,hd,zX⟩
  | 13,_,hoq=>
   cases sI hoq;refine qx gY (yW [] 2 wx) rfl (fun e' w2 hr=>?_);obtain⟨⟨_,rfl,hd⟩,hs⟩:=hr;exact⟨_,rfl,sB hs,hd,zX⟩
  | 14,_,hoq=>
   cases sI hoq;refine qx gY (yW [] 0 wx) rfl (fun e' w2 hr=>?_);obtain⟨⟨_,rfl,hd⟩,hs⟩:=hr;exact⟨_,rfl,sB hs,hd,zX⟩
  | 15,_,hoq=>
   cases sI hoq;obtain⟨S29,c29,B29,m29,n29,e29,hz29⟩:=hd 13 (zz kR);obtain⟨S30,c30,B30,m30,n30,e30,hz30⟩:=hd 14 (zz kR);refine z4 29 (.agg #[.int .i64 ((OX s1 s2)).tm.kind,.string ((OX s1 s2)).tm.name,.int .i64 ((OX s1 s2)).tm.index,.string ((OX s1 s2)).tm.type.base,.slice S29 ((OX s1 s2)).tm.type.args.length c29,.slice B29 ((OX s1 s2)).tm.args.length m29]) e29 nu (z4 30 (.agg #[.int .i64 ((OQ s1 s2)).tm.kind,.string ((OQ s1 s2)).tm.name,.int .i64 ((OQ s1 s2)).tm.index,.string ((OQ s1 s2)).tm.type.base,.slice S30 ((OQ s1 s2)).tm.type.args.length c30,.slice B30 ((OQ s1 s2)).tm.args.length m30]) e30 nu ?_);refine qx Qj (o5 [] (OX s1 s2) (OQ s1 s2) _ _ _ _ _ _ _ _ _ _ wx (by simp) hz29 hz30) rfl (fun e' w2 hr=>?_);obtain⟨⟨_,rfl,hd⟩,hs⟩:=hr;exact⟨_,rfl,sB hs,hd,zX⟩
  | 16,_,hoq=>
   cases sI hoq;obtain⟨S28,c28,B28,m28,n28,e28,hz28⟩:=hd 12 (zz kR);obtain⟨S31,c31,B31,m31,n31,e31,hz31⟩:=hd 15 (zz kR);refine z4 28 (.agg #[.int .i64 ((OJ s1 s2)).tm.kind,.string ((OJ s1 s2)).tm.name,.int .i64 ((OJ s1 s2)).tm.index,.string ((OJ s1 s2)).tm.type.base,.slice S28 ((OJ s1 s2)).tm.type.args.length c28,.slice B28 ((OJ s1 s2)).tm.args.length m28]) e28 nu (z4 31 (.agg #[.int .i64 ((OZ s1 s2)).tm.kind,.string ((OZ s1 s2)).tm.name,.int .i64 ((OZ s1 s2)).tm.index,.string ((OZ s1 s2)).tm.type.base,.slice S31 ((OZ s1 s2)).tm.type.args.length c31,.slice B31 ((OZ s1 s2)).tm.args.length m31]) e31 nu ?_);refine qx Qj (o5 [] (OJ s1 s2) (OZ s1 s2) _ _ _ _ _ _ _ _ _ _ wx (by simp) hz28 hz31) rfl (fun e' w2 hr=>?_);obtain⟨⟨_,rfl,hd⟩,hs⟩:=hr;exact⟨_,rfl,sB hs,hd,zX⟩
  | 17,_,hoq=>
   cases sI hoq;refine qx gY (yW [] 1 wx) rfl (fun e' w2 hr=>?_);obtain⟨⟨_,rfl,hd⟩,hs⟩:=hr;exact⟨_,rfl,sB hs,hd,zX⟩
  | 18,_,hoq=>
   cases sI hoq;refine qx gY (yW [] 0 wx) rfl (fun e' w2 hr=>?_);obtain⟨⟨_,rfl,hd⟩,hs⟩:=hr;exact⟨_,rfl,sB hs,hd,zX⟩
  | 19,_,hoq=>
   cases sI hoq;obtain⟨S33,c33,B33,m33,n33,e33,hz33⟩:=hd 17 (zz kR);obtain⟨S34,c34,B34,m34,n34,e34,hz34⟩:=hd 18 (zz kR);refine z4 33 (.agg #[.int .i64 ((Ow s1 s2)).tm.kind,.string ((Ow s1 s2)).tm.name,.int .i64 ((Ow s1 s2)).tm.index,.string ((Ow s1 s2)).tm.type.base,.slice S33 ((Ow s1 s2)).tm.type.args.length c33,.slice B33 ((Ow s1 s2)).tm.args.length m33]) e33 nu (z4 34 (.agg #[.int .i64 ((Ov s1 s2)).tm.kind,.string ((Ov s1 s2)).tm.name,.int .i64 ((Ov s1 s2)).tm.index,.string ((Ov s1 s2)).tm.type.base,.slice S34 ((Ov s1 s2)).tm.type.args.length c34,.slice B34 ((Ov s1 s2)).tm.args.length m34]) e34 nu ?_);refine qx Qj (o5 [] (Ow s1 s2) (Ov s1 s2) _ _ _ _ _ _ _ _ _ _ wx (by simp) hz33 hz34) rfl (fun e' w2 hr=>?_);obtain⟨⟨_,rfl,hd⟩,hs⟩:=hr;exact⟨_,rfl,sB hs,hd,zX⟩
  | 20,_,hoq=>
   cases sI hoq;obtain⟨S32,c32,B32,m32,n32,e32,hz32⟩:=hd 16 (zz kR);obtain⟨S35,c35,B35,m35,n35,e35,hz35⟩:=hd 19 (zz kR);refine z4 32 (.agg #[.int .i64 ((Oy s1 s2)).tm.kind,.string ((Oy s1 s2)).tm.name,.int .i64 ((Oy s1 s2)).tm.index,.string ((Oy s1 s2)).tm.type.base,.slice S32 ((Oy s1 s2)).tm.type.args.length c32,.slice B32 ((Oy s1 s2)).tm.args.length m32]) e32 nu (z4 35 (.agg #[.int .i64 ((Ok s1 s2)).tm.kind,.string ((Ok s1 s2)).tm.name,.int .i64 ((Ok s1 s2)).tm.index,.string ((Ok s1 s2)).tm.type.base,.slice S35 ((Ok s1 s2)).tm.type.args.length c35,.slice B35 ((Ok s1 s2)).tm.args.length m35]) e35 nu ?_);refine qx Qj (o5 [] (Oy s1 s2) (Ok s1 s2) _ _ _ _ _ _ _ _ _ _ wx (by simp) hz32 hz35) rfl (fun e' w2 hr=>?_);obtain⟨⟨_,rfl,hd⟩,hs⟩:=hr;exact⟨_,rfl,sB hs,hd,zX⟩
  | 21,_,hoq=>
   cases sI hoq;obtain⟨S36,c36,B36,m36,n36,e36,hz36⟩:=hd 20 (zz kR);refine z4 21 (.agg #[.string ((Ts.b false)).sm.base,.slice none ((Ts.b false)).sm.args.length 0]) (hd 5 (zz kR)) nu (z4 36 (.agg #[.int .i64 ((Oj s1 s2)).tm.kind,.string ((Oj s1 s2)).tm.name,.int .i64 ((Oj s1 s2)).tm.index,.string ((Oj s1 s2)).tm.type.base,.slice S36 ((Oj s1 s2)).tm.type.args.length c36,.slice B36 ((Oj s1 s2)).tm.args.length m36]) e36 nu ?_);refine qx Z0 (kw [] (Ts.b false) (Oj s1 s2) _ _ _ _ _ _ _ _ wx (by simp) (Fz.triv _ _ TS (fun _=>SimsIn.nil)) hz36) rfl (fun e' w2 hr=>?_);obtain⟨⟨_,rfl,hd⟩,hs⟩:=hr;exact⟨_,rfl,sB hs,hd,zX⟩
  | 22,_,hoq=>
   cases sI hoq;obtain⟨S20,c20,B20,m20,n20,e20,hz20⟩:=hd 4 (zz kR);obtain⟨S37,c37,B37,m37,n37,e37,hz37⟩:=hd 21 (zz kR);refine z4 20 (.agg #[.int .i64 ((OK s1 s2)).tm.kind,.string ((OK s1 s2)).tm.name,.int .i64 ((OK s1 s2)).tm.index,.string ((OK s1 s2)).tm.type.base,.slice S20 ((OK s1 s2)).tm.type.args.length c20,.slice B20 ((OK s1 s2)).tm.args.length m20]) e20 nu (z4 37 (.agg #[.int .i64 ((Ox s1 s2)).tm.kind,.string ((Ox s1 s2)).tm.name,.int .i64 ((Ox s1 s2)).tm.index,.string ((Ox s1 s2)).tm.type.base,.slice S37 ((Ox s1 s2)).tm.type.args.length c37,.slice B37 ((Ox s1 s2)).tm.args.length m37]) e37 nu ?_);refine qx Qj (o5 [] (OK s1 s2) (Ox s1 s2) _ _ _ _ _ _ _ _ _ _ wx (by simp) hz20 hz37) rfl (fun e' w2 hr=>?_);obtain⟨⟨_,rfl,hd⟩,hs⟩:=hr;exact⟨_,rfl,sB hs,hd,zX⟩
  | 23,_,hoq=>
   cases sI hoq;have hs0:=hs;refine jx (fun ops Q K=>?_);refine qZ (cs:=#[.int .i64 0,.string ⟨#[]⟩,.int .i64 0,.string ⟨#[]⟩,.slice none 0 0,.slice none 0 0]) kQ rfl (fun b10 w1 hb10 hs hr=>?_);exact K _ _ ⟨hs,⟨_,rfl,nLT hs0.size hr,hb10⟩,fR hr hb10.lt⟩
  | _ + 24,hix,_=>exact absurd hix om
 intro gg w2 hs hR hdis;replace hZ:=hZ.trans hs;obtain⟨S38,c38,B38,m38,n38,e38,hz38⟩:=hR 22 dE;obtain⟨b10,e10,lo10,hb10⟩:=hR 23 dE;refine qK 38 (.agg #[.int .i64 ((jj s1 s2)).tm.kind,.string ((jj s1 s2)).tm.name,.int .i64 ((jj s1 s2)).tm.index,.string ((jj s1 s2)).tm.type.base,.slice S38 ((jj s1 s2)).tm.type.args.length c38,.slice B38 ((jj s1 s2)).tm.args.length m38]) e38 nu (qK 10 (.pointer (some ⟨b10,0,none⟩)) e10 nu ?_);refine zk hb10 rfl rfl xw rfl zK (fun w3 hq hs=>?_);replace hZ:=hZ.new10 hs lo10;replace hz38:=hz38.free hs hb10 sp_tm;replace hb10:=hq;refine zZ ?_;refine e_R ⟨agA,?_⟩;exact⟨hZ,b10,S38,c38,B38,m38,_,rfl,lo10,hb10,hz38⟩
set_option maxHeartbeats 2000000 in
theorem quN_d (s1 s2:ByteArray) (w:World):Calls Tryz.prog 25 #[.string s1,.string s2,.bool false] w fun e w'=>(∃ z,e= .returned z∧TmD [] (quN s1 s2) w' z)∧Bel w w':=by
 refine enter Tryz.func25 Tryz.ntmps25 rfl (Nat.le_of_ble_eq_true rfl) ?_;have hB:Bel w w:=Below.refl _ _;refine zn2 ?_;refine qZ (cs:=#[.int .i64 0,.string ⟨#[]⟩,.int .i64 0,.string ⟨#[]⟩,.slice none 0 0,.slice none 0 0]) kQ rfl (fun b6 w1 hb6 hs hr=>?_);have lo6:=nLT (Bel.size hB) hr;replace hB:=hB.tr0 hs;refine zn4 ?_;refine zV T2 (uj _ _) rfl (fun e' w2 hr=>?_);obtain⟨rfl,hs⟩:=hr;replace hs:=sB hs;replace hB:=hB.tr0 hs;replace hb6:=hb6.tr0 hs;refine⟨_,rfl,?_⟩;refine zV T2 (uj _ _) rfl (fun e' w3 hr=>?_);obtain⟨rfl,hs⟩:=hr;replace hs:=sB hs;replace hB:=hB.tr0 hs;replace hb6:=hb6.tr0 hs;refine⟨_,rfl,?_⟩;refine qZ (cs:=#[.string ⟨#[]⟩,.slice none 0 0]) yX rfl (fun b7 w4 hb7 hs hr=>?_);have:=nLL hb6.lt hr;have lo7:=nLT (Bel.size hB) hr;replace hB:=hB.tr0 hs;replace hb6:=hb6.tr0 hs;refine qZ (cs:=#[.string ⟨#[]⟩,.slice none 0 0]) yX rfl (fun b8 w5 hb8 hs hr=>?_);have:=nLL hb6.lt hr;have:=nLL hb7.lt hr;have lo8:=nLT (Bel.size hB) hr;replace hB:=hB.tr0 hs;replace hb6:=hb6.tr0 hs;replace hb7:=hb7.tr0 hs;refine zk hb7 rfl rfl qq rfl zK (fun w6 hq hs=>?_);replace hB:=hB.tr1 hs lo7;replace hb6:=hb6.tr1 hs om;replace hb8:=hb8.tr1 hs om;replace hb7:=hq;refine zk hb8 rfl rfl qq rfl zK (fun w7 hq hs=>?_);replace hB:=hB.tr1 hs lo8;replace hb6:=hb6.tr1 hs om;replace hb7:=hb7.tr1 hs om;replace hb8:=hq;refine zn6 ?_;refine zV QY (o7 [] (Ts.b false) (Ts.b true) none none 0 0 _ _ _ (by simp) (Fz.triv _ _ TS (fun _=>SimsIn.nil)) (Fz.triv _ _ TS (fun _=>SimsIn.nil))) rfl (fun e' w8 hr=>?_);obtain⟨⟨_,rfl,A15,c15,n15,rfl,hz15⟩,hs⟩:=hr;replace hs:=sB hs;replace hB:=hB.tr0 hs;replace hb6:=hb6.tr0 hs;replace hb7:=hb7.tr0 hs;replace hb8:=hb8.tr0 hs;refine⟨_,rfl,?_⟩;refine xV (cs:=#[.string ⟨#[]⟩,.slice none 0 0]) yX rfl (fun _=>rfl) (fun _=>rfl) qq rfl zK (fun b9 w10 hb9 hs hr=>?_);replace hB:=hB.tr0 hs;replace hb6:=hb6.tr0 hs;replace hb7:=hb7.tr0 hs;replace hb8:=hb8.tr0 hs;replace hz15:=hz15.tr0 hs;refine zn3 ?_;refine xK [10,16,17,18,19,20,21,22,23,24,25,26,27,28,29,30,31,32,33,34,35,36,37,38] (fun g w'=>Same [] w10 w'∧QuR s1 s2 w10 (g 10) w') ?_ (fun g3 w11 hI=>?_)
 ·have hh:=fun f Q k0 k1 k2 k3 k4=>qu_r3 s1 s2 hb7 hb8 hb9 hz15 f Q k0 k1 k2 k3 k4
  exact hh _ _ (by rfl) (by rfl) (by rfl) (by rfl) (by rfl)
 obtain⟨hs,b10,S38,c38,B38,m38,n38,e10,lo10,hb10,hz38⟩:=hI;have q15:=hz15.le;have lo10n:=nLT (Bel.size hB) lo10;replace hB:=hB.tr0 hs;replace hb6:=hb6.tr0 hs;replace hb9:=hb9.tr0 hs;replace hz15:=hz15.tr0 hs;replace hz15:=hz15.addX (Y:=[b10]) (fun y hy=> .inr (by rw [List.mem_singleton.1 hy];exact nLT q15 lo10));replace lo10:=lo10n;refine jJ 10 (.pointer (some ⟨b10,0,none⟩)) e10 nu (zn7 ?_);refine j7 rfl (fun c39=>?_) (fun c39=>?_)
 ·exact absurd c39 dE
 refine zn3 ?_;refine yk 5 [46,47,48,49,50] (fun _=>false) (fun ix v wv=>match ix with | 0=>v= .agg #[.string ((Ts.f (Ts.b false) (Ts.b true))).sm.base,.slice A15 ((Ts.f (Ts.b false) (Ts.b true))).sm.args.length c15] | 1=>v= .agg #[.string ((Ts.f (Ts.b false) (Ts.b true))).sm.base,.slice A15 ((Ts.f (Ts.b false) (Ts.b true))).sm.args.length c15] | 2=>v= .agg #[.int .i64 ((jj s1 s2)).tm.kind,.string ((jj s1 s2)).tm.name,.int .i64 ((jj s1 s2)).tm.index,.string ((jj s1 s2)).tm.type.base,.slice S38 ((jj s1 s2)).tm.type.args.length c38,.slice B38 ((jj s1 s2)).tm.args.length m38] | 3=>TmD [b10] (OV s1 s2) wv (v) | 4=>TmD [b10] (S7 s1 s2) wv (v) | _=>True) kR kR ?_ ?_ ?_
 ·intro ix v wv wv2 h hs
  match ix,h with
  | 0,h=>exact h
  | 1,h=>exact h
  | 2,h=>exact h
  | 3,h=>
   obtain⟨S49,c49,B49,m49,n49,e49,hz49⟩:=h;exact⟨S49,c49,B49,m49,n49,e49,hz49.tr0 hs⟩
  | 4,h=>
   obtain⟨S50,c50,B50,m50,n50,e50,hz50⟩:=h;exact⟨S50,c50,B50,m50,n50,e50,hz50.tr0 hs⟩
  | _ + 5,h=>exact trivial
 ·intro ix o hix hoq gg wx hs hd hdis
  match ix,hix,hoq with
  | 0,_,hoq=>
   cases sI hoq;replace hb9:=hb9.tr0 hs;exact oV (zW U52 rfl rfl hb9.range0 qq) rfl
  | 1,_,hoq=>
   cases sI hoq;replace hb9:=hb9.tr0 hs;exact oV (zW U52 rfl rfl hb9.range0 qq) rfl
  | 2,_,hoq=>
   cases sI hoq;replace hb10:=hb10.tr0 hs;exact oV (zW U55 rfl rfl hb10.range0 xw) rfl
  | 3,_,hoq=>
   cases sI hoq;replace hz15:=hz15.tr0 hs;replace hb10:=hb10.tr0 hs;replace hz38:=hz38.tr0 hs;refine z4 47 (.agg #[.string ((Ts.f (Ts.b false) (Ts.b true))).sm.base,.slice A15 ((Ts.f (Ts.b false) (Ts.b true))).sm.args.length c15]) (hd 1 (zz kR)) nu (z4 48 (.agg #[.int .i64 ((jj s1 s2)).tm.kind,.string ((jj s1 s2)).tm.name,.int .i64 ((jj s1 s2)).tm.index,.string ((jj s1 s2)).tm.type.base,.slice S38 ((jj s1 s2)).tm.type.args.length c38,.slice B38 ((jj s1 s2)).tm.args.length m38]) (hd 2 (zz kR)) nu ?_);refine qx Z0 (kw [b10] (Ts.f (Ts.b false) (Ts.b true)) (jj s1 s2) _ _ _ _ _ _ _ _ wx (fun x hx=>by rw [List.mem_singleton.1 hx];exact hb10.lt) hz15 hz38) rfl (fun e' w2 hr=>?_);obtain⟨⟨_,rfl,hd⟩,hs⟩:=hr;exact⟨_,rfl,sB hs,hd,zX⟩
  | 4,_,hoq=>
   cases sI hoq;replace hz15:=hz15.tr0 hs;replace hb10:=hb10.tr0 hs;obtain⟨S49,c49,B49,m49,n49,e49,hz49⟩:=hd 3 (zz kR);refine z4 46 (.agg #[.string ((Ts.f (Ts.b false) (Ts.b true))).sm.base,.slice A15 ((Ts.f (Ts.b false) (Ts.b true))).sm.args.length c15]) (hd 0 (zz kR)) nu (z4 49 (.agg #[.int .i64 ((OV s1 s2)).tm.kind,.string ((OV s1 s2)).tm.name,.int .i64 ((OV s1 s2)).tm.index,.string ((OV s1 s2)).tm.type.base,.slice S49 ((OV s1 s2)).tm.type.args.length c49,.slice B49 ((OV s1 s2)).tm.args.length m49]) e49 nu ?_);refine qx Z0 (kw [b10] (Ts.f (Ts.b false) (Ts.b true)) (OV s1 s2) _ _ _ _ _ _ _ _ wx (fun x hx=>by rw [List.mem_singleton.1 hx];exact hb10.lt) hz15 hz49) rfl (fun e' w2 hr=>?_);obtain⟨⟨_,rfl,hd⟩,hs⟩:=hr;exact⟨_,rfl,sB hs,hd,zX⟩
  | _ + 5,hix,_=>exact absurd hix om
 intro gg w12 hs hR hdis;replace hB:=hB.tr0 hs;replace hb6:=hb6.tr0 hs;obtain⟨S50,c50,B50,m50,n50,e50,hz50⟩:=hR 4 dE;refine qK 50 (.agg #[.int .i64 ((S7 s1 s2)).tm.kind,.string ((S7 s1 s2)).tm.name,.int .i64 ((S7 s1 s2)).tm.index,.string ((S7 s1 s2)).tm.type.base,.slice S50 ((S7 s1 s2)).tm.type.args.length c50,.slice B50 ((S7 s1 s2)).tm.args.length m50]) e50 nu ?_;refine zk hb6 rfl rfl xw rfl zK (fun w13 hq hs=>?_);replace hB:=hB.tr1 hs lo6;replace hz50:=hz50.sp1 hs hb6 sp_tm;replace hb6:=hq;refine zn3 ?_;refine x5 (.inl rfl) rfl (zy U55 rfl rfl hb6.range0 xw) ?_;exact⟨⟨_,rfl,_,_,_,_,_,rfl,hz50.nil⟩,hB⟩
set_option maxHeartbeats 2000000 in
theorem quY_d (s1 s2:ByteArray) (w:World):Calls Tryz.prog 25 #[.string s1,.string s2,.bool true] w fun e w'=>(∃ z,e= .returned z∧TmD [] (quY s1 s2) w' z)∧Bel w w':=by
 refine enter Tryz.func25 Tryz.ntmps25 rfl (Nat.le_of_ble_eq_true rfl) ?_;have hB:Bel w w:=Below.refl _ _;refine zn2 ?_;refine qZ (cs:=#[.int .i64 0,.string ⟨#[]⟩,.int .i64 0,.string ⟨#[]⟩,.slice none 0 0,.slice none 0 0]) kQ rfl (fun b6 w1 hb6 hs hr=>?_);have lo6:=nLT (Bel.size hB) hr;replace hB:=hB.tr0 hs;refine zn4 ?_;refine zV T2 (uj _ _) rfl (fun e' w2 hr=>?_);obtain⟨rfl,hs⟩:=hr;replace hs:=sB hs;replace hB:=hB.tr0 hs;replace hb6:=hb6.tr0 hs;refine⟨_,rfl,?_⟩;refine zV T2 (uj _ _) rfl (fun e' w3 hr=>?_);obtain⟨rfl,hs⟩:=hr;replace hs:=sB hs;replace hB:=hB.tr0 hs;replace hb6:=hb6.tr0 hs;refine⟨_,rfl,?_⟩;refine qZ (cs:=#[.string ⟨#[]⟩,.slice none 0 0]) yX rfl (fun b7 w4 hb7 hs hr=>?_);have:=nLL hb6.lt hr;have lo7:=nLT (Bel.size hB) hr;replace hB:=hB.tr0 hs;replace hb6:=hb6.tr0 hs;refine qZ (cs:=#[.string ⟨#[]⟩,.slice none 0 0]) yX rfl (fun b8 w5 hb8 hs hr=>?_);have:=nLL hb6.lt hr;have:=nLL hb7.lt hr;have lo8:=nLT (Bel.size hB) hr;replace hB:=hB.tr0 hs;replace hb6:=hb6.tr0 hs;replace hb7:=hb7.tr0 hs;refine zk hb7 rfl rfl qq rfl zK (fun w6 hq hs=>?_);replace hB:=hB.tr1 hs lo7;replace hb6:=hb6.tr1 hs om;replace hb8:=hb8.tr1 hs om;replace hb7:=hq;refine zk hb8 rfl rfl qq rfl zK (fun w7 hq hs=>?_);replace hB:=hB.tr1 hs lo8;replace hb6:=hb6.tr1 hs om;replace hb7:=hb7.tr1 hs om;replace hb8:=hq;refine zn6 ?_;refine zV QY (o7 [] (Ts.b false) (Ts.b true) none none 0 0 _ _ _ (by simp) (Fz.triv _ _ TS (fun _=>SimsIn.nil)) (Fz.triv _ _ TS (fun _=>SimsIn.nil))) rfl (fun e' w8 hr=>?_);obtain⟨⟨_,rfl,A15,c15,n15,rfl,hz15⟩,hs⟩:=hr;replace hs:=sB hs;replace hB:=hB.tr0 hs;replace hb6:=hb6.tr0 hs;replace hb7:=hb7.tr0 hs;replace hb8:=hb8.tr0 hs;refine⟨_,rfl,?_⟩;refine xV (cs:=#[.string ⟨#[]⟩,.slice none 0 0]) yX rfl (fun _=>rfl) (fun _=>rfl) qq rfl zK (fun b9 w10 hb9 hs hr=>?_);replace hB:=hB.tr0 hs;replace hb6:=hb6.tr0 hs;replace hb7:=hb7.tr0 hs;replace hb8:=hb8.tr0 hs;replace hz15:=hz15.tr0 hs;refine zn3 ?_;refine xK [10,16,17,18,19,20,21,22,23,24,25,26,27,28,29,30,31,32,33,34,35,36,37,38] (fun g w'=>Same [] w10 w'∧QuR s1 s2 w10 (g 10) w') ?_ (fun g3 w11 hI=>?_)
 ·have hh:=fun f Q k0 k1 k2 k3 k4=>qu_r3 s1 s2 hb7 hb8 hb9 hz15 f Q k0 k1 k2 k3 k4
  exact hh _ _ (by rfl) (by rfl) (by rfl) (by rfl) (by rfl)
 obtain⟨hs,b10,S38,c38,B38,m38,n38,e10,lo10,hb10,hz38⟩:=hI;have:=nLL hb6.lt lo10;have:=nLL hb9.lt lo10;have q15:=hz15.le;have lo10n:=nLT (Bel.size hB) lo10;replace hB:=hB.tr0 hs;replace hb6:=hb6.tr0 hs;replace hb8:=hb8.tr0 hs;replace hb9:=hb9.tr0 hs;replace hz15:=hz15.tr0 hs;replace hz15:=hz15.addX (Y:=[b10]) (fun y hy=> .inr (by rw [List.mem_singleton.1 hy];exact nLT q15 lo10));replace lo10:=lo10n;refine jJ 10 (.pointer (some ⟨b10,0,none⟩)) e10 nu (zn7 ?_);refine j7 rfl (fun c39=>?_) (fun c39=>?_)
 ·refine yk 6 [40,41,42,43,44,45] (fun _=>false) (fun ix v wv=>match ix with | 0=>v= .agg #[.string ((Ts.b true)).sm.base,.slice none ((Ts.b true)).sm.args.length 0] | 1=>v= .agg #[.string ((Ts.b true)).sm.base,.slice none ((Ts.b true)).sm.args.length 0] | 2=>SmD [b10] (qY42 s1 s2) wv (v) | 3=>TmD [b10] (Oq s1 s2) wv (v) | 4=>v= .agg #[.int .i64 ((jj s1 s2)).tm.kind,.string ((jj s1 s2)).tm.name,.int .i64 ((jj s1 s2)).tm.index,.string ((jj s1 s2)).tm.type.base,.slice S38 ((jj s1 s2)).tm.type.args.length c38,.slice B38 ((jj s1 s2)).tm.args.length m38] | 5=>TmD [b10] (Z9 s1 s2) wv (v) | _=>True) kR kR ?_ ?_ ?_
  ·intro ix v wv wv2 h hs
   match ix,h with
   | 0,h=>exact h
   | 1,h=>exact h
   | 2,h=>
    obtain⟨A42,c42,n42,e42,hz42⟩:=h;exact⟨A42,c42,n42,e42,hz42.tr0 hs⟩
   | 3,h=>
    obtain⟨S43,c43,B43,m43,n43,e43,hz43⟩:=h;exact⟨S43,c43,B43,m43,n43,e43,hz43.tr0 hs⟩
   | 4,h=>exact h
   | 5,h=>
    obtain⟨S45,c45,B45,m45,n45,e45,hz45⟩:=h;exact⟨S45,c45,B45,m45,n45,e45,hz45.tr0 hs⟩
   | _ + 6,h=>exact trivial
  ·intro ix o hix hoq gg wx hs hd hdis
   match ix,hix,hoq with
   | 0,_,hoq=>
    cases sI hoq;replace hb8:=hb8.tr0 hs;exact oV (zW U52 rfl rfl hb8.range0 qq) rfl
   | 1,_,hoq=>
    cases sI hoq;replace hb8:=hb8.tr0 hs;exact oV (zW U52 rfl rfl hb8.range0 qq) rfl
   | 2,_,hoq=>
    cases sI hoq;replace hb10:=hb10.tr0 hs;refine z4 40 (.agg #[.string ((Ts.b true)).sm.base,.slice none ((Ts.b true)).sm.args.length 0]) (hd 0 (zz kR)) nu (z4 41 (.agg #[.string ((Ts.b true)).sm.base,.slice none ((Ts.b true)).sm.args.length 0]) (hd 1 (zz kR)) nu ?_);refine qx QY (o7 [b10] (Ts.b true) (Ts.b true) _ _ _ _ _ _ wx (fun x hx=>by rw [List.mem_singleton.1 hx];exact hb10.lt) (Fz.triv _ _ TS (fun _=>SimsIn.nil)) (Fz.triv _ _ TS (fun _=>SimsIn.nil))) rfl (fun e' w2 hr=>?_);obtain⟨⟨_,rfl,hd⟩,hs⟩:=hr;exact⟨_,rfl,sB hs,hd,zX⟩
   | 3,_,hoq=>
    cases sI hoq;obtain⟨A42,c42,n42,e42,hz42⟩:=hd 2 (zz kR);refine z4 42 (.agg #[.string ((qY42 s1 s2)).sm.base,.slice A42 ((qY42 s1 s2)).sm.args.length c42]) e42 nu ?_;refine qx Zx (kW [b10] ⟨#[110,111,116]⟩ (qY42 s1 s2) _ _ _ wx hz42) rfl (fun e' w2 hr=>?_);obtain⟨⟨_,rfl,hd⟩,hs⟩:=hr;exact⟨_,rfl,sB hs,hd,zX⟩
   | 4,_,hoq=>
    cases sI hoq;replace hb10:=hb10.tr0 hs;exact oV (zW U55 rfl rfl hb10.range0 xw) rfl
   | 5,_,hoq=>
    cases sI hoq;replace hb10:=hb10.tr0 hs;replace hz38:=hz38.tr0 hs;obtain⟨S43,c43,B43,m43,n43,e43,hz43⟩:=hd 3 (zz kR);refine z4 43 (.agg #[.int .i64 ((Oq s1 s2)).tm.kind,.string ((Oq s1 s2)).tm.name,.int .i64 ((Oq s1 s2)).tm.index,.string ((Oq s1 s2)).tm.type.base,.slice S43 ((Oq s1 s2)).tm.type.args.length c43,.slice B43 ((Oq s1 s2)).tm.args.length m43]) e43 nu (z4 44 (.agg #[.int .i64 ((jj s1 s2)).tm.kind,.string ((jj s1 s2)).tm.name,.int .i64 ((jj s1 s2)).tm.index,.string ((jj s1 s2)).tm.type.base,.slice S38 ((jj s1 s2)).tm.type.args.length c38,.slice B38 ((jj s1 s2)).tm.args.length m38]) (hd 4 (zz kR)) nu ?_);refine qx Qj (o5 [b10] (Oq s1 s2) (jj s1 s2) _ _ _ _ _ _ _ _ _ _ wx (fun x hx=>by rw [List.mem_singleton.1 hx];exact hb10.lt) hz43 hz38) rfl (fun e' w2 hr=>?_);obtain⟨⟨_,rfl,hd⟩,hs⟩:=hr;exact⟨_,rfl,sB hs,hd,zX⟩
   | _ + 6,hix,_=>exact absurd hix om
  intro gg w12 hs hR hdis;have hs0:=hs;replace hB:=hB.tr0 hs;replace hb6:=hb6.tr0 hs;replace hb9:=hb9.tr0 hs;replace hz15:=hz15.tr0 hs;replace hb10:=hb10.tr0 hs;obtain⟨S45,c45,B45,m45,n45,e45,hz45⟩:=hR 5 dE;refine qK 45 (.agg #[.int .i64 ((Z9 s1 s2)).tm.kind,.string ((Z9 s1 s2)).tm.name,.int .i64 ((Z9 s1 s2)).tm.index,.string ((Z9 s1 s2)).tm.type.base,.slice S45 ((Z9 s1 s2)).tm.type.args.length c45,.slice B45 ((Z9 s1 s2)).tm.args.length m45]) e45 nu ?_;refine zk hb10 rfl rfl xw rfl zK (fun w13 hq hs=>?_);replace hB:=hB.tr1 hs lo10;replace hb6:=hb6.tr1 hs om;replace hb9:=hb9.tr1 hs om;replace hz15:=hz15.in1 hs (by simp);replace hz45:=hz45.in1 hs (by simp);replace hb10:=hq;refine zn3 ?_;refine yk 5 [46,47,48,49,50] (fun _=>false) (fun ix v wv=>match ix with | 0=>v= .agg #[.string ((Ts.f (Ts.b false) (Ts.b true))).sm.base,.slice A15 ((Ts.f (Ts.b false) (Ts.b true))).sm.args.length c15] | 1=>v= .agg #[.string ((Ts.f (Ts.b false) (Ts.b true))).sm.base,.slice A15 ((Ts.f (Ts.b false) (Ts.b true))).sm.args.length c15] | 2=>v= .agg #[.int .i64 ((Z9 s1 s2)).tm.kind,.string ((Z9 s1 s2)).tm.name,.int .i64 ((Z9 s1 s2)).tm.index,.string ((Z9 s1 s2)).tm.type.base,.slice S45 ((Z9 s1 s2)).tm.type.args.length c45,.slice B45 ((Z9 s1 s2)).tm.args.length m45] | 3=>TmD [b10] (Oz s1 s2) wv (v) | 4=>TmD [b10] (S6 s1 s2) wv (v) | _=>True) kR kR ?_ ?_ ?_
  ·intro ix v wv wv2 h hs
   match ix,h with
   | 0,h=>exact h
   | 1,h=>exact h
   | 2,h=>exact h
   | 3,h=>
    obtain⟨S49,c49,B49,m49,n49,e49,hz49⟩:=h;exact⟨S49,c49,B49,m49,n49,e49,hz49.tr0 hs⟩
   | 4,h=>
    obtain⟨S50,c50,B50,m50,n50,e50,hz50⟩:=h;exact⟨S50,c50,B50,m50,n50,e50,hz50.tr0 hs⟩
   | _ + 5,h=>exact trivial
  ·intro ix o hix hoq gg wx hs hd hdis
   match ix,hix,hoq with
   | 0,_,hoq=>
    cases sI hoq;replace hb9:=hb9.tr0 hs;exact oV (zW U52 rfl rfl hb9.range0 qq) rfl
   | 1,_,hoq=>
    cases sI hoq;replace hb9:=hb9.tr0 hs;exact oV (zW U52 rfl rfl hb9.range0 qq) rfl
   | 2,_,hoq=>
    cases sI hoq;replace hb10:=hb10.tr0 hs;exact oV (zW U55 rfl rfl hb10.range0 xw) rfl
   | 3,_,hoq=>
    cases sI hoq;replace hz15:=hz15.tr0 hs;replace hb10:=hb10.tr0 hs;replace hz45:=hz45.tr0 hs;refine z4 47 (.agg #[.string ((Ts.f (Ts.b false) (Ts.b true))).sm.base,.slice A15 ((Ts.f (Ts.b false) (Ts.b true))).sm.args.length c15]) (hd 1 (zz kR)) nu (z4 48 (.agg #[.int .i64 ((Z9 s1 s2)).tm.kind,.string ((Z9 s1 s2)).tm.name,.int .i64 ((Z9 s1 s2)).tm.index,.string ((Z9 s1 s2)).tm.type.base,.slice S45 ((Z9 s1 s2)).tm.type.args.length c45,.slice B45 ((Z9 s1 s2)).tm.args.length m45]) (hd 2 (zz kR)) nu ?_);refine qx Z0 (kw [b10] (Ts.f (Ts.b false) (Ts.b true)) (Z9 s1 s2) _ _ _ _ _ _ _ _ wx (fun x hx=>by rw [List.mem_singleton.1 hx];exact hb10.lt) hz15 hz45) rfl (fun e' w2 hr=>?_);obtain⟨⟨_,rfl,hd⟩,hs⟩:=hr;exact⟨_,rfl,sB hs,hd,zX⟩
   | 4,_,hoq=>
    cases sI hoq;replace hz15:=hz15.tr0 hs;replace hb10:=hb10.tr0 hs;obtain⟨S49,c49,B49,m49,n49,e49,hz49⟩:=hd 3 (zz kR);refine z4 46 (.agg #[.string ((Ts.f (Ts.b false) (Ts.b true))).sm.base,.slice A15 ((Ts.f (Ts.b false) (Ts.b true))).sm.args.length c15]) (hd 0 (zz kR)) nu (z4 49 (.agg #[.int .i64 ((Oz s1 s2)).tm.kind,.string ((Oz s1 s2)).tm.name,.int .i64 ((Oz s1 s2)).tm.index,.string ((Oz s1 s2)).tm.type.base,.slice S49 ((Oz s1 s2)).tm.type.args.length c49,.slice B49 ((Oz s1 s2)).tm.args.length m49]) e49 nu ?_);refine qx Z0 (kw [b10] (Ts.f (Ts.b false) (Ts.b true)) (Oz s1 s2) _ _ _ _ _ _ _ _ wx (fun x hx=>by rw [List.mem_singleton.1 hx];exact hb10.lt) hz15 hz49) rfl (fun e' w2 hr=>?_);obtain⟨⟨_,rfl,hd⟩,hs⟩:=hr;exact⟨_,rfl,sB hs,hd,zX⟩
   | _ + 5,hix,_=>exact absurd hix om
  intro gg w14 hs hR hdis;replace hB:=hB.tr0 hs;replace hb6:=hb6.tr0 hs;obtain⟨S50,c50,B50,m50,n50,e50,hz50⟩:=hR 4 dE;refine qK 50 (.agg #[.int .i64 ((S6 s1 s2)).tm.kind,.string ((S6 s1 s2)).tm.name,.int .i64 ((S6 s1 s2)).tm.index,.string ((S6 s1 s2)).tm.type.base,.slice S50 ((S6 s1 s2)).tm.type.args.length c50,.slice B50 ((S6 s1 s2)).tm.args.length m50]) e50 nu ?_;refine zk hb6 rfl rfl xw rfl zK (fun w15 hq hs=>?_);replace hB:=hB.tr1 hs lo6;replace hz50:=hz50.sp1 hs hb6 sp_tm;replace hb6:=hq;refine zn3 ?_;refine x5 (.inl rfl) rfl (zy U55 rfl rfl hb6.range0 xw) ?_;exact⟨⟨_,rfl,_,_,_,_,_,rfl,hz50.nil⟩,hB⟩
 exact absurd c39 dE
end Go.Proofs.YtdkfnakncaggoaaGreatDoor
